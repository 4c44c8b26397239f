/- A plain logic over the walk: what any operation comes to, states as functions. No program is named here. Condition: none. -/
import Derived.Test.YtapciiffpnociaaGxStep
namespace Go.Proofs.Ytapciiffpnociaa
open Go Go.RowKit

/-- What becomes of owned things. -/
inductive Up where
  | no
  | new (b : HB)
  | set (i : Nat) (b : HB)
  | trade (i : Nat) (b : HB)

def fset (η : Nat → Option HB) (i : Nat) (b : Option HB) : Nat → Option HB := fun j => if i = j then b else η j
def Up.app (z : Nat) : Up → (Nat → Option HB) → (Nat → Option HB)
  | .no, η => η
  | .new b, η => fset η z (some b)
  | .set i b, η => fset η i (some b)
  | .trade i b, η => fset (fset η i none) z (some b)
def Up.appL (z : Nat) : Up → Hp → Hp
  | .no, H => H
  | .new b, H => (z, b) :: H
  | .set i b, H => Hp.set H i b
  | .trade i b, H => (z, b) :: Hp.del H i
def Up.names (z : Nat) : Up → List Nat
  | .no => []
  | .new _ => [z]
  | .set i _ => [i]
  | .trade i _ => [i, z]

def appendC0 (τ : List (Nat × TI)) (t : TypeId) (a b : SV) (η : Nat → Option HB) (z : Nat) : Option (Prop × SV × Up) := match (tiGet τ t).sh with
  | .slice te => match (tiGet τ te).sh.known && (Nat.blt 0 (tiGet τ te).cells && Nat.beq (tiGet τ te).zero.length (tiGet τ te).cells) with
    | true => match a, b with
      | .row i, .d (.slice es ys) => match η i with
        | some (.row te' es' xs) => match Nat.beq te' te && (Nat.beq es' (tiGet τ te).cells && Nat.beq es (tiGet τ te).cells) with
          | true => some ((xs.length + ys.length) * (tiGet τ te).bytes ≤ 140737488355328 ∧ xs.length + ys.length ≤ maxLen, .row z, .trade i (.row te (tiGet τ te).cells (xs ++ ys)))
          | false => none
        | _ => none
      | _, _ => none
    | false => none
  | _ => none

def appendC (τ : List (Nat × TI)) (t : TypeId) (a b : SV) (η : Nat → Option HB) (z : Nat) : Option (Prop × SV × Up) := match (tiGet τ t).sh with
  | .slice te => match tiGet τ te with
    | ⟨sh, cells, bytes, zero, _⟩ => match sh.known && (Nat.blt 0 cells && Nat.beq zero.length cells) with
      | true => match a, b with
        | .row i, .d (.slice es ys) => match η i with
          | some (.row te' es' xs) => match Nat.beq te' te && (Nat.beq es' cells && Nat.beq es cells) with
            | true => some ((xs.length + ys.length) * bytes ≤ 140737488355328 ∧ xs.length + ys.length ≤ maxLen, .row z, .trade i (.row te cells (xs ++ ys)))
            | false => none
          | _ => none
        | _, _ => none
      | false => none
  | _ => none
theorem appendC_eq (τ : List (Nat × TI)) (t : TypeId) (a b : SV) (η : Nat → Option HB) (z : Nat) : appendC τ t a b η z = appendC0 τ t a b η z := by
  unfold appendC appendC0
  cases (tiGet τ t).sh with
  | slice te =>
    generalize tiGet τ te = ti
    cases ti
    rfl
  | _ => rfl

def buildSliceC (τ : List (Nat × TI)) (g : Operand → SV) (t : TypeId) (len : Nat) (ps : List (Nat × Operand)) : Option (Prop × SV × Up) := match (tiGet τ t).sh with
  | .slice te => match (tiGet τ te).sh.known && (Nat.blt 0 (tiGet τ te).cells && (zeroOk (tiGet τ te).zero && (Nat.beq (tiGet τ te).zero.length (tiGet τ te).cells && Nat.ble (len * (tiGet τ te).cells) 16777216))) with
    | true => match fillSV (fun i => some (i * (tiGet τ te).cells, (tiGet τ te).cells)) (initSV (zeroSV τ te) (len * (tiGet τ te).cells)) (ps.map fun p => (p.1, g p.2)) with
      | some cs => match Nat.beq cs.length (len * (tiGet τ te).cells) with
        | true => match rowsOf (cellEs τ 4 te) (tiGet τ te).cells len cs with
          | some xs => some (True, .d (.slice (tiGet τ te).cells xs), .no)
          | none => none
        | false => none
      | none => none
    | false => none
  | _ => none

def storeC (τ : List (Nat × TI)) (te : TypeId) (a b : SV) (η : Nat → Option HB) : Option (Prop × SV × Up) := match a with
  | .loc i o => match η i with
    | some (.blk tb cs) => match b.isVar && ((tiGet τ te).sh.known && (Nat.beq b.cells.length (tiGet τ te).cells && Nat.ble (o + b.cells.length) cs.length)) with
      | true => forceL (splice cs o b.cells) fun l => some (True, .tup [], .set i (.blk tb l))
      | false => none
    | _ => none
  | _ => none

/-- What an operation that has a place for its value comes to. -/
def stepD (τ : List (Nat × TI)) (g : Operand → SV) (η : Nat → Option HB) (z : Nat) : Op → Option (Prop × SV × Up)
  | .alloc te => match (tiGet τ te).sh.known && zeroOk (tiGet τ te).zero with
    | true => forceL (zeroSV τ te) fun l => some (True, .loc z 0, .new (.blk te l))
    | false => none
  | .box te x => match (g x).isVar with
    | true => forceL (g x).cells fun l => some (True, .loc z 0, .new (.blk te l))
    | false => none
  | .buildSlice t len ps => buildSliceC τ g t len ps.toList
  | .call { callee := .builtin .append, args, argTypes } => match args.toList, argTypes.toList with
    | [x, y], [t, t'] => match Nat.beq t t' with
      | true => appendC τ t (g x) (g y) η z
      | false => none
    | _, _ => none
  | op => match evC τ g η op with
    | some (p, s) => some (p, s, .no)
    | none => none

/-- What an operation comes to: under what, its value, what becomes of owned things; z: the name of what it makes. -/
def stepC (τ : List (Nat × TI)) (g : Operand → SV) (η : Nat → Option HB) (z : Nat) (dst : Option Nat) (op : Op) : Option (Prop × SV × Up) := match dst with
  | some _ => stepD τ g η z op
  | none => match op with
    | .store te x y => storeC τ te (g x) (g y) η
    | _ => none

theorem Hp.get_cons (d : Nat) (s : HB) (H : Hp) (t : Nat) : Hp.get ((d, s) :: H) t = if d = t then some s else Hp.get H t := by
  simp only [Hp.get]
  cases h : Nat.beq d t with
  | true => rw [if_pos (Nat.eq_of_beq_eq_true h)]
  | false => rw [if_neg (Nat.ne_of_beq_eq_false h)]

theorem Hp.get_set (i : Nat) (b : HB) : ∀ (H : Hp) (b0 : HB), Hp.get H i = some b0 → ∀ t, Hp.get (Hp.set H i b) t = if i = t then some b else Hp.get H t
  | [], _, h, _ => by simp [Hp.get] at h
  | (d, s) :: H, b0, h, t => by
    rw [Hp.get_cons] at h
    simp only [Hp.set]
    cases hb : Nat.beq d i with
    | true =>
      have := Nat.eq_of_beq_eq_true hb
      subst this
      simp only [Hp.get_cons]
      split <;> rfl
    | false =>
      have hne := Nat.ne_of_beq_eq_false hb
      rw [if_neg hne] at h
      simp only [Hp.get_cons]
      rw [Hp.get_set i b H b0 h t]
      by_cases h1 : d = t
      · subst h1; rw [if_pos rfl, if_neg (fun h => hne h.symm), if_pos rfl]
      · rw [if_neg h1, if_neg h1]

theorem Hp.get_none {H : Hp} {i : Nat} (h : i ∉ H.map (·.1)) : Hp.get H i = none := by
  cases hg : Hp.get H i with
  | none => rfl
  | some b => exact absurd (List.mem_map.2 ⟨_, Hp.get_mem H i b hg, rfl⟩) h

theorem Hp.get_del (i : Nat) : ∀ (H : Hp), (H.map (·.1)).Nodup → ∀ t, Hp.get (Hp.del H i) t = if i = t then none else Hp.get H t
  | [], _, t => by simp [Hp.del, Hp.get]
  | (d, s) :: H, hn, t => by
    obtain ⟨h1, h2⟩ := List.nodup_cons.1 hn
    simp only [Hp.del]
    cases hb : Nat.beq d i with
    | true =>
      have := Nat.eq_of_beq_eq_true hb
      subst this
      simp only [Hp.get_cons]
      by_cases h3 : d = t
      · subst h3; rw [if_pos rfl]; exact Hp.get_none h1
      · rw [if_neg h3, if_neg h3]
    | false =>
      have hne := Nat.ne_of_beq_eq_false hb
      simp only [Hp.get_cons]
      rw [Hp.get_del i H h2 t]
      by_cases h3 : d = t
      · subst h3; rw [if_pos rfl, if_neg (fun h => hne h.symm), if_pos rfl]
      · rw [if_neg h3, if_neg h3]

theorem Hp.mem_get : ∀ (H : Hp), (H.map (·.1)).Nodup → ∀ p ∈ H, Hp.get H p.1 = some p.2
  | [], _, p, hp => by simp at hp
  | (d, s) :: H, hn, p, hp => by
    obtain ⟨h1, h2⟩ := List.nodup_cons.1 hn
    rw [Hp.get_cons]
    rcases List.mem_cons.1 hp with rfl | hp
    · rw [if_pos rfl]
    · have : d ≠ p.1 := fun h => h1 (List.mem_map.2 ⟨p, hp, h.symm⟩)
      rw [if_neg this]; exact Hp.mem_get H h2 p hp

section
variable {Γ : Ctx} {k : Nat → Prop} {L : Sl} {H : Hp} {a : Act} {w : World} {e : Env}

theorem Models.widenTo (m : Models Γ k L H e a w) {k' : Nat → Prop} (hk' : ∀ i, k i → k' i) : ∃ e', Models Γ k' L H e' a w := by
  let e' : Env := ⟨e.β, e.η, k'⟩
  have he : ∀ i, e.dom i → e'.β i = e.β i ∧ e'.η i = e.η i := fun _ _ => ⟨rfl, rfl⟩
  have hk : ∀ i, e.dom i → e'.dom i := fun i h => hk' i ((m.top i).1 h)
  have hol : ownedL e' H = ownedL e H := ownedL_ext he H fun p hp => (m.heap p hp).1
  have hX : ∀ b, Γ.X e' H b ↔ Γ.X e H b := fun b => by unfold Ctx.X; rw [hol]
  refine ⟨e', ⟨⟨fun i => Iff.rfl, fun p hp => ⟨hk _ (m.heap p hp).1, ?_⟩, m.ids, hol ▸ m.nodup, fun b hb => m.mine b (hol ▸ hb), m.os, m.tape, m.output, m.size, m.block, m.obound, fun j hj => hk' j (m.jle j hj), m.anchor⟩, m.defers, m.len, fun t => ?_⟩⟩
  · exact HRel.keep (Nat.le_refl _) (fun _ _ _ => rfl) (fun b _ h => (hX b).1 h) p (fun _ _ => rfl) (HRel.ext hk he p (m.heap p hp).1 (m.heap p hp).2)
  · exact Rel.keep (Nat.le_refl _) (fun _ _ _ => rfl) (fun b _ h => (hX b).1 h) _ _ (Rel.ext hk he _ _ (m.slot t))
theorem Models.widen (m : Models Γ k L H e a w) (z : Nat) : ∃ e', Models Γ (with1 k z) L H e' a w := m.widenTo fun _ h => Or.inl h

theorem OpOk.widen {o : Oper} {k' : Nat → Prop} {L' : Sl} {H' : Hp} (h : OpOk Γ o k L H k' L' H') (z : Nat) : OpOk Γ o k L H (with1 k' z) L' H' := by
  intro e a w Q m
  refine Oper.wp_mono ?_ (h e a w Q m)
  rintro a' w' ⟨e', m'⟩
  exact m'.widen z

def putL : Option Nat → SV → Sl → Sl
  | none, _, L => L
  | some d, s, L => (d, s) :: L

def dstOk (Γ : Ctx) : Option Nat → Bool
  | none => true
  | some d => Nat.blt d Γ.n

theorem stepD_sound {d : Nat} {op : Op} {ty : TypeId} {pos : String} {af : Array Edge} {gd : Option (Nat × Bool)} {z : Nat} {p : Prop} {s : SV} {u : Up} (h : stepD Γ.τ (opSV L) (Hp.get H) z op = some (p, s, u)) (hp : p) (hok : opsOkB op = true) (hd : Nat.blt d Γ.n = true) (hz : ¬ k z) :
    OpOk Γ ⟨some d, op, ty, pos, af, gd⟩ k L H (with1 k z) ((d, s) :: L) (u.appL z H) := by
  have ev : ∀ (op : Op), opsOkB op = true → (match evC Γ.τ (opSV L) (Hp.get H) op with | some (p, s) => some (p, s, Up.no) | none => none) = some (p, s, u) → OpOk Γ ⟨some d, op, ty, pos, af, gd⟩ k L H (with1 k z) ((d, s) :: L) (u.appL z H) := by
    intro op hok h
    cases he : evC Γ.τ (opSV L) (Hp.get H) op with
    | none => simp [he] at h
    | some q =>
      obtain ⟨p', s'⟩ := q
      simp only [he, Option.some.injEq, Prod.mk.injEq] at h
      obtain ⟨rfl, rfl, rfl⟩ := h
      exact (op_ev (evC_sound he hp hok) hd).widen z
  cases op with
  | alloc te =>
    simp only [stepD, forceL_eq] at h
    split at h
    · rename_i hc
      cases h
      simp only [Bool.and_eq_true] at hc
      exact op_alloc hz hc.1 hc.2 rfl hd
    · cases h
  | box te x =>
    simp only [stepD, forceL_eq] at h
    split at h
    · rename_i hc
      cases h
      exact op_box hz rfl (by simpa [opsOkB, Op.operands] using hok) hc hd
    · cases h
  | buildSlice t len ps =>
    simp only [stepD] at h
    unfold buildSliceC at h
    split at h
    · rename_i te ht
      split at h
      · rename_i hc
        simp only [Bool.and_eq_true] at hc
        obtain ⟨c1, c2, c3, c4, c5⟩ := hc
        split at h
        · rename_i cs hf
          split at h
          · rename_i hl
            split at h
            · rename_i xs hx
              cases h
              obtain ⟨pl⟩ := ps
              have hok' : partsOk pl = true := partsOk_all _ (by simpa [opsOkB, Op.operands, List.all_map, Function.comp_def] using hok)
              rw [show (List.map (fun p => (p.1, opSV L p.2)) (Array.mk pl).toList) = partsSV L pl from (partsSV_map pl).symm] at hf
              exact (op_buildSlice ht c1 rfl c2 c3 c4 hok' c5 hf hl hx hd).widen z
            · cases h
          · cases h
        · cases h
      · cases h
    · cases h
  | call c =>
    obtain ⟨callee, args, ts⟩ := c
    cases callee with
    | builtin b =>
      cases b
      case append =>
        simp only [stepD] at h
        split at h
        · rename_i x y t t' ha ht
          obtain ⟨al⟩ := args
          obtain ⟨tl⟩ := ts
          simp only at ha ht
          subst ha; subst ht
          split at h
          · rename_i htt
            have := Nat.eq_of_beq_eq_true htt
            subst this
            rw [appendC_eq] at h
            unfold appendC0 at h
            split at h
            · rename_i te ht
              split at h
              · rename_i hc
                simp only [Bool.and_eq_true] at hc
                split at h
                · rename_i i es ys hx hy
                  split at h
                  · rename_i te' es' xs hH
                    split at h
                    · rename_i hcc
                      simp only [Bool.and_eq_true] at hcc
                      have e1 := Nat.eq_of_beq_eq_true hcc.1
                      have e2 := Nat.eq_of_beq_eq_true hcc.2.1
                      have e3 := Nat.eq_of_beq_eq_true hcc.2.2
                      subst e1; subst e2; subst e3
                      cases h
                      exact op_append_row hz ht hc.1 rfl hc.2.1 hc.2.2 hx hH hy hd hp.1 hp.2
                    · cases h
                  · cases h
                · cases h
              · cases h
            · cases h
          · cases h
        · cases h
      all_goals exact ev _ hok h
    | _ => exact ev _ hok h
  | _ => exact ev _ hok h

theorem stepC_sound {dst : Option Nat} {op : Op} {ty : TypeId} {pos : String} {af : Array Edge} {gd : Option (Nat × Bool)} {z : Nat} {p : Prop} {s : SV} {u : Up} (h : stepC Γ.τ (opSV L) (Hp.get H) z dst op = some (p, s, u)) (hp : p) (hok : opsOkB op = true) (hd : dstOk Γ dst = true) (hz : ¬ k z) :
    OpOk Γ ⟨dst, op, ty, pos, af, gd⟩ k L H (with1 k z) (putL dst s L) (u.appL z H) := by
  cases dst with
  | some d => exact stepD_sound h hp hok hd hz
  | none =>
    cases op with
    | store te x y =>
      simp only [stepC] at h
      simp only [storeC, forceL_eq] at h
      split at h
      · rename_i i o hx
        split at h
        · rename_i tb cs hH
          split at h
          · rename_i hc
            cases h
            simp only [Bool.and_eq_true] at hc
            simp only [opsOkB, Op.operands, List.all_cons, Bool.and_eq_true] at hok
            exact (op_store hx hH rfl hok.2.1 hc.1 hc.2.1 hc.2.2.1 hc.2.2.2).widen z
          · cases h
        · cases h
      · cases h
    | _ => cases h

/-- One state's lists say what another's do. -/
theorem Models.same (m : Models Γ k L H e a w) {L' : Sl} {H' : Hp} (hL : ∀ t, Sl.get L t = Sl.get L' t) (hH : ∀ i, Hp.get H i = Hp.get H' i) (hn : (H'.map (·.1)).Nodup) : Models Γ k L' H' e a w := by
  have hmem : ∀ p, p ∈ H' ↔ p ∈ H := by
    intro p
    constructor
    · intro hp
      have := Hp.mem_get H' hn p hp
      rw [← hH] at this
      exact Hp.get_mem H p.1 p.2 this
    · intro hp
      have := Hp.mem_get H m.ids p hp
      rw [hH] at this
      exact Hp.get_mem H' p.1 p.2 this
  have hperm : H'.Perm H := (List.perm_ext_iff_of_nodup (nodup_of_map hn) (nodup_of_map m.ids)).2 hmem
  have hop : (ownedL e H').Perm (ownedL e H) := hperm.filterMap _
  have hX : ∀ b, Γ.X e H' b ↔ Γ.X e H b := fun b => or_congr Iff.rfl (hop.mem_iff)
  refine ⟨⟨m.top, fun p hp => ⟨(m.heap p ((hmem p).1 hp)).1, ?_⟩, hn, hop.nodup_iff.2 m.nodup, fun b hb => m.mine b (hop.mem_iff.1 hb), m.os, m.tape, m.output, m.size, m.block, m.obound, m.jle, m.anchor⟩, m.defers, m.len, fun t => ?_⟩
  · exact HRel.keep (Nat.le_refl _) (fun _ _ _ => rfl) (fun b _ h => (hX b).1 h) p (fun _ _ => rfl) (m.heap p ((hmem p).1 hp)).2
  · rw [← hL]; exact Rel.keep (Nat.le_refl _) (fun _ _ _ => rfl) (fun b _ h => (hX b).1 h) _ _ (m.slot t)
end

/-- A state, as functions. -/
structure FS where
  ℓ : Nat → SV
  η : Nat → Option HB

def FS.op (s : FS) : Operand → SV
  | .tmp t => s.ℓ t
  | .const v => cSV v
  | .func f => .fn f []
  | _ => .junk
def FS.put (s : FS) : Option Nat → SV → FS
  | none, _ => s
  | some d, v => ⟨fun t => if d = t then v else s.ℓ t, s.η⟩
def FS.app (s : FS) (z : Nat) (dst : Option Nat) (v : SV) (u : Up) : FS := ⟨(s.put dst v).ℓ, u.app z s.η⟩

def ofL (L : Sl) (H : Hp) : FS := ⟨L.get, Hp.get H⟩
theorem ofL_op (L : Sl) (H : Hp) : (ofL L H).op = opSV L := by funext x; cases x <;> rfl

theorem ofL_put (L : Sl) (H : Hp) (dst : Option Nat) (v : SV) : (ofL L H).put dst v = ofL (putL dst v L) H := by
  cases dst with
  | none => rfl
  | some d => simp only [FS.put, ofL, putL, FS.mk.injEq, and_true]; funext t; rw [Sl.get_cons]

end Go.Proofs.Ytapciiffpnociaa
