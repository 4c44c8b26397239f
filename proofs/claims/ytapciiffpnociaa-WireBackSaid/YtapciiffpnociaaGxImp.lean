/- A plain logic over the walk: memory that is made and written. No program is named here. Condition: none. -/
import Derived.Test.YtapciiffpnociaaGxCall
namespace Go.Proofs.Ytapciiffpnociaa
open Go Go.RowKit

section
variable {Γ : Ctx} {k : Nat → Prop} {L : Sl} {H : Hp} {K : Next'} {ops : List Oper} {rest : List Oper} {a : Act} {w : World} {e : Env} {t t' ty : TypeId} {x y : Operand}

mutual
theorem Rel.ext {X} {e e' : Env} {w} (hk : ∀ i, e.dom i → e'.dom i) (he : ∀ i, e.dom i → e'.β i = e.β i ∧ e'.η i = e.η i) : ∀ (s : SV) (v : Value), Rel X e w s v → Rel X e' w s v
  | .junk, _, _ => trivial
  | .d _, _, h => h
  | .nils, _, h => h
  | .pd _, _, h => h
  | .loc i _, _, h => ⟨hk i h.1, by rw [(he i h.1).1]; exact h.2⟩
  | .row i, _, h => ⟨hk i h.1, by rw [(he i h.1).2]; exact h.2⟩
  | .prow i _ _ _, _, h => ⟨hk i h.1, by rw [(he i h.1).2]; exact h.2⟩
  | .fn _ caps, _, ⟨vs, h1, h2⟩ => ⟨vs, h1, RelL.ext hk he caps vs h2⟩
  | .agg ss, _, ⟨vs, h1, h2⟩ => ⟨vs, h1, RelL.ext hk he ss vs h2⟩
  | .tup ss, _, ⟨vs, h1, h2⟩ => ⟨vs, h1, RelL.ext hk he ss vs h2⟩
  | .val _, _, h => h
theorem RelL.ext {X} {e e' : Env} {w} (hk : ∀ i, e.dom i → e'.dom i) (he : ∀ i, e.dom i → e'.β i = e.β i ∧ e'.η i = e.η i) : ∀ (ss : List SV) (vs : List Value), RelL X e w ss vs → RelL X e' w ss vs
  | [], [], _ => trivial
  | [], _ :: _, h => h.elim
  | _ :: _, [], h => h.elim
  | s :: ss, v :: vs, ⟨h1, h2⟩ => ⟨Rel.ext hk he s v h1, RelL.ext hk he ss vs h2⟩
end

theorem HRel.ext {X} {e e' : Env} {w} (hk : ∀ i, e.dom i → e'.dom i) (he : ∀ i, e.dom i → e'.β i = e.β i ∧ e'.η i = e.η i) (p : Nat × HB) (hp : e.dom p.1) (h : HRel X e w p) : HRel X e' w p := by
  obtain ⟨i, b⟩ := p
  cases b with
  | blk ty cs =>
    obtain ⟨vs, h1, h2, h3⟩ := h
    exact ⟨vs, by rw [(he i hp).1]; exact h1, RelL.ext hk he _ _ h2, h3⟩
  | row ty es xs =>
    obtain ⟨vs, h1, h2⟩ := h
    exact ⟨vs, by rw [(he i hp).2]; exact h1, h2⟩

theorem owned_ext {e e' : Env} (he : ∀ i, e.dom i → e'.β i = e.β i ∧ e'.η i = e.η i) (p : Nat × HB) (hp : e.dom p.1) : HB.owned e' p = HB.owned e p := by
  obtain ⟨i, b⟩ := p
  cases b with
  | blk ty cs => simp [HB.owned, (he i hp).1]
  | row ty es xs => simp [HB.owned, (he i hp).2]

theorem ownedL_ext {e e' : Env} (he : ∀ i, e.dom i → e'.β i = e.β i ∧ e'.η i = e.η i) : ∀ (H : Hp), (∀ p ∈ H, e.dom p.1) → ownedL e' H = ownedL e H
  | [], _ => rfl
  | p :: H, h => by
    have ih := ownedL_ext he H fun q hq => h q (List.mem_cons_of_mem _ hq)
    unfold ownedL at ih ⊢
    rw [List.filterMap_cons, List.filterMap_cons, owned_ext he p (h p (List.mem_cons_self ..)), ih]

def Env.bind (e : Env) (x b : Nat) : Env := ⟨fun i => if i = x then b else e.β i, e.η, fun i => e.dom i ∨ i = x⟩
def Env.bindRow (e : Env) (x : Nat) (v : Value) : Env := ⟨e.β, fun i => if i = x then v else e.η i, fun i => e.dom i ∨ i = x⟩
/-- One name more. -/
def with1 (k : Nat → Prop) (x : Nat) : Nat → Prop := fun i => k i ∨ i = x
theorem with1_lo (k i : Nat) : with1 (lo k) k i ↔ lo (k + 1) i := by unfold with1 lo; omega

theorem Env.bind_ext (e : Env) (x b : Nat) (hx : ¬ e.dom x) : ∀ i, e.dom i → (e.bind x b).β i = e.β i ∧ (e.bind x b).η i = e.η i := fun i hi => ⟨if_neg (fun h : i = x => hx (h ▸ hi)), rfl⟩
theorem Env.bindRow_ext (e : Env) (x : Nat) (v : Value) (hx : ¬ e.dom x) : ∀ i, e.dom i → (e.bindRow x v).β i = e.β i ∧ (e.bindRow x v).η i = e.η i := fun i hi => ⟨rfl, if_neg (fun h : i = x => hx (h ▸ hi))⟩

theorem Heap.cast {k k' : Nat → Prop} (h : Heap Γ k H e w) (hk : ∀ i, k i ↔ k' i) : Heap Γ k' H e w :=
  ⟨fun i => (h.top i).trans (hk i), h.heap, h.ids, h.nodup, h.mine, h.os, h.tape, h.output, h.size, h.block, h.obound, fun j hj => (hk j).1 (h.jle j hj), h.anchor⟩
theorem Models.cast {k k' : Nat → Prop} (m : Models Γ k L H e a w) (hk : ∀ i, k i ↔ k' i) : Models Γ k' L H e a w := ⟨m.toHeap.cast hk, m.defers, m.len, m.slot⟩

/-- A new owned thing. -/
theorem Models.new (m : Models Γ k L H e a w) {x : Nat} (hx : ¬ k x) {e' : Env} {w' : World} {hb : HB} (hek : ∀ i, e'.dom i ↔ with1 k x i) (he : ∀ i, e.dom i → e'.β i = e.β i ∧ e'.η i = e.η i) (hw : Below w.heap.size w w')
    (ho : ∀ b, HB.owned e' (x, hb) = some b → w.heap.size ≤ b)
    (hr0 : (∀ b, b < w.heap.size → Γ.X e' ((x, hb) :: H) b → Γ.X e H b) → HRel (Γ.X e' ((x, hb) :: H)) e' w' (x, hb)) :
    Models Γ (with1 k x) L ((x, hb) :: H) e' a w' := by
  have hlt : ∀ p ∈ H, e.dom p.1 := fun p hp => (m.heap p hp).1
  have hk : ∀ i, e.dom i → e'.dom i := fun i hi => (hek i).2 (.inl ((m.top i).1 hi))
  have hol : ownedL e' H = ownedL e H := ownedL_ext he H hlt
  have hcons : ∀ b, b ∈ ownedL e' ((x, hb) :: H) → HB.owned e' (x, hb) = some b ∨ b ∈ ownedL e H := by
    intro b hbm
    unfold ownedL at hbm
    rw [List.filterMap_cons] at hbm
    split at hbm
    · exact .inr (hol ▸ hbm)
    · rename_i c hc
      rcases List.mem_cons.1 hbm with rfl | h
      · exact .inl hc
      · exact .inr (hol ▸ h)
  have hX : ∀ b, b < w.heap.size → Γ.X e' ((x, hb) :: H) b → Γ.X e H b := by
    intro b hbl hx
    rcases hx with hx | hx
    · exact .inl hx
    · rcases hcons b hx with h | h
      · have := ho b h; omega
      · exact .inr h
  have hr := hr0 hX
  have hkeep : ∀ b, b < w.heap.size → ¬ Γ.X e H b → w'.heap[b]? = w.heap[b]? := fun b hbl _ => hw.block b hbl
  refine ⟨⟨hek, fun p hp => ?_, ?_, ?_, fun b hbm => ?_, hw.os.trans m.os, hw.tape.trans m.tape, hw.output.trans m.output, Nat.le_trans m.size hw.size, fun b h1 h2 => (hw.block b (Nat.lt_of_lt_of_le h1 m.size)).trans (m.block b h1 h2), m.obound, fun j hj => .inl (m.jle j hj), fun j hj => (he j ((m.top j).2 (m.jle j hj))).1.trans (m.anchor j hj)⟩, m.defers, m.len, fun t => ?_⟩
  · rcases List.mem_cons.1 hp with rfl | hp
    · exact ⟨(hek x).2 (.inr rfl), hr⟩
    · refine ⟨hk _ (hlt p hp), ?_⟩
      have h1 := HRel.ext hk he p (hlt p hp) (m.heap p hp).2
      refine HRel.keep hw.size hkeep hX p (fun b hob => ?_) h1
      rw [owned_ext he p (hlt p hp)] at hob
      exact hw.block b (m.lt b (List.mem_filterMap.2 ⟨p, hp, hob⟩))
  · refine List.nodup_cons.2 ⟨fun hm => ?_, m.ids⟩
    obtain ⟨p, hp, hpk⟩ := List.mem_map.1 hm
    have := (m.top _).1 (hlt p hp)
    simp at hpk
    exact hx (hpk ▸ this)
  · unfold ownedL
    rw [List.filterMap_cons]
    split
    · exact (show (ownedL e' H).Nodup from hol ▸ m.nodup)
    · rename_i c hc
      refine List.nodup_cons.2 ⟨fun hm => ?_, (show (ownedL e' H).Nodup from hol ▸ m.nodup)⟩
      have h1 := ho c hc
      have h2 := m.lt c (show c ∈ ownedL e H from hol ▸ hm)
      omega
  · rcases hcons b hbm with h | h
    · have h1 := ho b h
      exact ⟨.inr (Nat.le_trans m.size h1), fun hO => by have := (m.obound b hO).1; have := m.size; omega⟩
    · exact m.mine b h
  · exact Rel.keep hw.size hkeep hX _ _ (Rel.ext hk he _ _ (m.slot t))

/-- The cells of a value. -/
def SV.cells : SV → List SV
  | .agg ss => ss
  | s => [s]
/-- Is it surely the value of one cell, or a struct of such? -/
def SV.isCell : SV → Bool
  | .d _ | .nils | .pd _ | .loc _ _ | .prow _ _ _ _ | .fn _ _ | .row _ => true
  | _ => false
def allCell : List SV → Bool
  | [] => true
  | s :: ss => s.isCell && allCell ss
def SV.isVar : SV → Bool
  | .agg ss => allCell ss
  | s => s.isCell

theorem RepC.one {X w v x} (h : RepC X w v x) : v.oneCell' = true ∧ v.cells = #[v] := by cases h <;> exact ⟨rfl, rfl⟩

theorem oneCell_cells {v : Value} (h : v.oneCell' = true) : v.cells = #[v] := by
  cases v <;> first | rfl | (simp [Value.oneCell'] at h)

theorem isCell_spec {X e w} {s : SV} {v : Value} (hs : s.isCell = true) (h : Rel X e w s v) : v.oneCell' = true ∧ v.cells = #[v] := by
  cases s with
  | d x => exact RepC.one h
  | nils => cases h; exact ⟨rfl, rfl⟩
  | pd ds => obtain ⟨b, off, rfl, _⟩ := h; exact ⟨rfl, rfl⟩
  | loc i o => obtain ⟨_, rfl⟩ := h; exact ⟨rfl, rfl⟩
  | prow i j es o => obtain ⟨_, g, n, cap, _, rfl⟩ := h; exact ⟨rfl, rfl⟩
  | fn f caps => obtain ⟨vs, rfl, _⟩ := h; exact ⟨rfl, rfl⟩
  | row i => exact ⟨h.2.2, oneCell_cells h.2.2⟩
  | _ => simp [SV.isCell] at hs

theorem allCell_spec {X e w} : ∀ {ss : List SV} {vs : List Value}, allCell ss = true → RelL X e w ss vs → ∀ v ∈ vs, v.oneCell' = true
  | [], [], _, _, _, h => by simp at h
  | [], _ :: _, _, h, _, _ => h.elim
  | _ :: _, [], _, h, _, _ => h.elim
  | s :: ss, v :: vs, hs, ⟨h1, h2⟩, u, hu => by
    simp only [allCell, Bool.and_eq_true] at hs
    rcases List.mem_cons.1 hu with rfl | hu
    · exact (isCell_spec hs.1 h1).1
    · exact allCell_spec hs.2 h2 u hu

theorem cells_spec {X e w} {s : SV} {v : Value} (hs : s.isVar = true) (h : Rel X e w s v) : RelL X e w s.cells v.cells.toList ∧ ∀ u ∈ v.cells.toList, u.oneCell' = true := by
  cases s with
  | agg ss =>
    obtain ⟨vs, rfl, hr⟩ := h
    exact ⟨by simpa [SV.cells, Value.cells] using hr, by simpa [Value.cells] using allCell_spec hs hr⟩
  | _ =>
    have h1 := isCell_spec (by simpa [SV.isVar] using hs) h
    rw [h1.2]
    exact ⟨⟨h, trivial⟩, by simpa using h1.1⟩

theorem below_alloc (w : World) (o : Obj) : Below w.heap.size w (w.alloc o) := (Below.refl _ _).alloc (Nat.le_refl _) o

/-- A new block whose cells are known. -/
theorem Models.alloc (m : Models Γ k L H e a w) {x : Nat} (hx : ¬ k x) {cs : List SV} {vs : List Value} (te : TypeId) (hr : RelL (Γ.X e H) e w cs vs) (h1 : ∀ v ∈ vs, v.oneCell' = true) :
    Models Γ (with1 k x) L ((x, .blk te cs) :: H) (e.bind x w.heap.size) a (w.alloc (.cells vs.toArray te)) := by
  have hxe : ¬ e.dom x := fun h => hx ((m.top x).1 h)
  have hβ : (e.bind x w.heap.size).β x = w.heap.size := if_pos rfl
  refine m.new hx (fun i => or_congr (m.top i) Iff.rfl) (e.bind_ext _ _ hxe) (below_alloc _ _) (fun b hb => ?_) ?_
  · simp only [HB.owned, hβ, Option.some.injEq] at hb; omega
  · intro hX
    refine ⟨vs, by rw [hβ]; exact heap_alloc_new w _, ?_, h1⟩
    exact RelL.keep (below_alloc _ _).size (fun b hb _ => (below_alloc _ _).block b hb) (fun b hb hx => hX b hb hx) _ _ (RelL.ext (e := e) (fun i hi => Or.inl hi) (e.bind_ext _ _ hxe) _ _ hr)

theorem lo_not (k : Nat) : ¬ lo k k := Nat.lt_irrefl k

def zeroSV (τ : List (Nat × TI)) (t : TypeId) : List SV := (tiGet τ t).zero.map cSV
def zeroOk : List Value → Bool
  | [] => true
  | v :: vs => cOkB v && (v.oneCell' && zeroOk vs)
theorem zeroOk_spec {X e w} : ∀ (vs : List Value), zeroOk vs = true → RelL X e w (vs.map cSV) vs ∧ ∀ v ∈ vs, v.oneCell' = true
  | [], _ => ⟨trivial, by simp⟩
  | v :: vs, h => by
    simp only [zeroOk, Bool.and_eq_true] at h
    obtain ⟨h1, h2⟩ := zeroOk_spec (X := X) (e := e) (w := w) vs h.2.2
    refine ⟨⟨cSV_rel v (opOkB_spec (x := .const v) h.1), h1⟩, fun u hu => ?_⟩
    rcases List.mem_cons.1 hu with rfl | hu
    · exact h.2.1
    · exact h2 u hu

theorem op_alloc {d x : Nat} {te ty : TypeId} {pos : String} {af : Array Edge} {g : Option (Nat × Bool)} {cs : List SV} (hx : ¬ k x) (hkn : (Γ.sh te).known = true) (hz : zeroOk (tiGet Γ.τ te).zero = true) (hcs : zeroSV Γ.τ te = cs) (hd : Nat.blt d Γ.n = true) :
    OpOk Γ ⟨some d, .alloc te, ty, pos, af, g⟩ k L H (with1 k x) ((d, .loc x 0) :: L) ((x, .blk te cs) :: H) := by
  intro e a w Q m
  obtain ⟨inf, z, hi, hzz, hs, hb, hzc⟩ := Ctx.info (Sh.known_ne hkn)
  have hrun : (execOp a.eval ⟨some d, .alloc te, ty, pos, af, g⟩).run Γ.P w = .ok (.value (.pointer (some ⟨w.heap.size, 0, none⟩))) (w.alloc (.cells z.cells te)) := by
    simp [execOp, Instr.alloc, zeroValue, typeInfo, hi, hzz, newVar, newRow]
  unfold Oper.wp
  rw [hrun]
  obtain ⟨g1, g2⟩ := zeroOk_spec (X := Γ.X e H) (e := e) (w := w) _ hz
  have m2 := m.alloc hx te g1 g2
  rw [← hzc] at m2
  subst hcs
  unfold zeroSV
  rw [← hzc]
  refine ⟨_, m2.put (s := .loc x 0) (v := .pointer (some ⟨w.heap.size, 0, none⟩)) (Nat.le_of_ble_eq_true hd) ⟨.inr rfl, ?_⟩⟩
  show _ = Value.pointer (some ⟨(if x = x then w.heap.size else e.β x), 0, none⟩); rw [if_pos rfl]

theorem op_box {d z : Nat} {te ty : TypeId} {pos : String} {af : Array Edge} {g : Option (Nat × Bool)} {x : Operand} {s : SV} (hz : ¬ k z) (hx : opSV L x = s) (hxo : opOkB x = true) (hv : s.isVar = true) (hd : Nat.blt d Γ.n = true) :
    OpOk Γ ⟨some d, .box te x, ty, pos, af, g⟩ k L H (with1 k z) ((d, .loc z 0) :: L) ((z, .blk te s.cells) :: H) := by
  intro e a w Q m
  have hrun : (execOp a.eval ⟨some d, .box te x, ty, pos, af, g⟩).run Γ.P w = .ok (.value (.pointer (some ⟨w.heap.size, 0, none⟩))) (w.alloc (.cells (a.eval x).cells te)) := by
    simp [execOp, Instr.box, newVar, newRow]
  unfold Oper.wp
  rw [hrun]
  have hr := m.op x (opOkB_spec hxo)
  rw [hx] at hr
  obtain ⟨g1, g2⟩ := cells_spec hv hr
  have m2 := m.alloc hz te g1 g2
  refine ⟨_, m2.put (s := .loc z 0) (v := .pointer (some ⟨w.heap.size, 0, none⟩)) (Nat.le_of_ble_eq_true hd) ⟨.inr rfl, ?_⟩⟩
  show _ = Value.pointer (some ⟨(if z = z then w.heap.size else e.β z), 0, none⟩); rw [if_pos rfl]

theorem OpOk.cast {o : Oper} {k1 k2 : Nat → Prop} {L' : Sl} {H' : Hp} (h : OpOk Γ o k L H k1 L' H') (hk : ∀ i, k1 i ↔ k2 i) : OpOk Γ o k L H k2 L' H' := by
  intro e a w Q m
  refine Oper.wp_mono ?_ (h e a w Q m)
  rintro a' w' ⟨e', m'⟩
  exact ⟨e', m'.cast hk⟩
end
section
variable {Γ : Ctx} {k : Nat} {L : Sl} {H : Hp} {K : Next'} {ops : List Oper} {rest : List Oper} {a : Act} {w : World} {e : Env} {t t' ty : TypeId} {x y : Operand}
theorem dl_alloc {d : Nat} {te ty : TypeId} {pos : String} {af : Array Edge} {g : Option (Nat × Bool)} {cs : List SV} (hkn : (Γ.sh te).known = true) (hz : zeroOk (tiGet Γ.τ te).zero = true) (hcs : zeroSV Γ.τ te = cs) (hw : wantedSV ops L g = some true) (hd : Nat.blt d Γ.n = true)
    (hk : DL Γ ops rest K (k + 1) ((d, .loc k 0) :: L) ((k, .blk te cs) :: H)) : DL Γ ops (⟨some d, .alloc te, ty, pos, af, g⟩ :: rest) K k L H :=
  dl_op hw ((op_alloc (lo_not k) hkn hz hcs hd).cast (with1_lo k)) hk

theorem dl_box {d : Nat} {te ty : TypeId} {pos : String} {af : Array Edge} {g : Option (Nat × Bool)} {x : Operand} {s : SV} (hx : opSV L x = s) (hxo : opOkB x = true) (hv : s.isVar = true) (hw : wantedSV ops L g = some true) (hd : Nat.blt d Γ.n = true)
    (hk : DL Γ ops rest K (k + 1) ((d, .loc k 0) :: L) ((k, .blk te s.cells) :: H)) : DL Γ ops (⟨some d, .box te x, ty, pos, af, g⟩ :: rest) K k L H :=
  dl_op hw ((op_box (lo_not k) hx hxo hv hd).cast (with1_lo k)) hk
end
end Go.Proofs.Ytapciiffpnociaa
