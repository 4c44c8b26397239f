/- Several texts in one: GxRng GxItr Tab TokP TokE. Condition: none. -/
import Derived.Test.YtapciiffpnociaaB07
import Derived.Test.YtapciiffpnociaaProg
import Derived.Test.YtapciiffpnociaaB01
import Derived.KernelRfl

/- A plain logic over the walk: a range over a function. No program is named here. Condition: none. -/
namespace Go.Proofs.Ytapciiffpnociaa
open Go Go.RowKit

/-- What an iterator does: it hands over these things, one by one, till it is told to stop; nothing else is seen of it. -/
def SeqD (P : Program) (gf : FuncId) (caps : List SV) (xs : List (List SV)) : Prop :=
  callable P gf = true ∧
  ∀ (X : Nat → Prop) (e : Env) (W0 : World) (lb : List Value) (l : Nat) (J : Nat → World → Prop) (Jx : World → Prop),
    (∀ b, X b → b < W0.heap.size) → RelL X e W0 caps lb → J 0 W0 →
    (∀ i W, J i W → W0.heap.size ≤ W.heap.size ∧ ∀ b, b < W0.heap.size → ¬ X b → W.heap[b]? = W0.heap[b]?) →
    (∀ i W W', J i W → Below W.heap.size W W' → J i W') → (∀ W W', Jx W → Below W.heap.size W W' → Jx W') →
    (∀ (i : Nat) (h : i < xs.length) W1 W vs, J i W1 → Below W1.heap.size W1 W → (∃ e', RelL (fun b => b < W1.heap.size ∧ (X b ∨ W0.heap.size ≤ b)) e' W (xs[i]) vs) →
      ∃ r : Loop, W.heap[l]? = some (Obj.loop r) ∧ vs.toArray.size = r.params.size ∧
        RoundIn Fence.wide 0 P l r.fn ((r.params.zip vs.toArray).foldl (fun t (p, v) => t.setIfInBounds p v) r.tmps) r.assign r.body W
          (fun en W' => (en = .returned (.bool true) ∧ J (i + 1) W') ∨ (en = .returned (.bool false) ∧ Jx W'))) →
    Calls P gf (#[.func (.yield l) #[] #[]] ++ lb.toArray) W0 (fun en W' => (∃ v, en = .returned v) ∧ (J xs.length W' ∨ Jx W'))

/-- The same blocks owned, seen from a later world on. -/
theorem Heap.rebase {Γ : Ctx} {k : Nat → Prop} {H : Hp} {e : Env} {w w2 : World} (h : Heap Γ k H e w) (hs : w.heap.size ≤ w2.heap.size) (hk : KeepsCells w w2) {n J : Nat} {rd pan mk} (hJ : ∀ j, j < J → k j) :
    Heap ⟨Γ.P, Γ.τ, Γ.τok, Γ.O, w2, fun b => b ∈ ownedL e H, n, J, e.β, rd, pan, mk⟩ k H e w2 where
  top := h.top
  heap p hp := ⟨(h.heap p hp).1, HRel.turned hs hk p (h.heap p hp).2⟩
  ids := h.ids
  nodup := h.nodup
  mine b hb := ⟨.inl hb, (h.mine b hb).2⟩
  os := rfl
  tape := rfl
  output := rfl
  size := Nat.le_refl _
  block _ _ _ := rfl
  obound b hb := ⟨Nat.lt_of_lt_of_le (h.obound b hb).1 (Nat.le_trans h.size hs), fun ho => (h.mine b ho).2 hb⟩
  jle := hJ
  anchor _ _ := rfl

/-- .. and back. -/
theorem Heap.debase {Γ : Ctx} {k k2 : Nat → Prop} {H H2 : Hp} {e e2 : Env} {w wb w2 : World} {E : Nat → Prop} {n J : Nat} {rd pan mk} (h : Heap Γ k H e w) (hs : w.heap.size ≤ wb.heap.size) (hos : wb.os = w.os) (ht : wb.tape = w.tape) (ho : wb.output = w.output)
    (hb : ∀ b, b < Γ.w0.heap.size → ¬ Γ.E0 b → wb.heap[b]? = w.heap[b]?)
    (h2 : Heap ⟨Γ.P, Γ.τ, Γ.τok, Γ.O, wb, E, n, J, e.β, rd, pan, mk⟩ k2 H2 e2 w2) (hE : ∀ b, E b → Γ.E0 b ∨ Γ.w0.heap.size ≤ b) (hJ : Γ.J ≤ J) : Heap Γ k2 H2 e2 w2 where
  top := h2.top
  heap := h2.heap
  ids := h2.ids
  nodup := h2.nodup
  mine b hb2 := ⟨(h2.mine b hb2).1.elim (hE b) fun hx => .inr (Nat.le_trans h.size (Nat.le_trans hs hx)), (h2.mine b hb2).2⟩
  os := h2.os.trans (hos.trans h.os)
  tape := h2.tape.trans (ht.trans h.tape)
  output := h2.output.trans (ho.trans h.output)
  size := Nat.le_trans h.size (Nat.le_trans hs h2.size)
  block b h3 h4 := (h2.block b (Nat.lt_of_lt_of_le h3 (Nat.le_trans h.size hs)) fun hx => (hE b hx).elim h4 fun h5 => by omega).trans ((hb b h3 h4).trans (h.block b h3 h4))
  obound := h.obound
  jle j hj := h2.jle j (Nat.lt_of_lt_of_le hj hJ)
  anchor j hj := (h2.anchor j (Nat.lt_of_lt_of_le hj hJ)).trans (h.anchor j hj)

mutual
/-- What holds of a slot whatever becomes of rows. -/
def SV.stab : SV → Bool
  | .row _ => false
  | .prow _ _ _ _ => false
  | .fn _ caps => SV.stabL caps
  | .agg ss => SV.stabL ss
  | .tup ss => SV.stabL ss
  | .junk => true
  | .d _ => true
  | .nils => true
  | .pd _ => true
  | .loc _ _ => true
  | .sl _ _ _ _ => true
  | .val _ => true
def SV.stabL : List SV → Bool
  | [] => true
  | s :: ss => SV.stab s && SV.stabL ss
end
mutual
theorem Rel.stab {X : Nat → Prop} {e e' : Env} {w : World} (h : ∀ i, e.dom i → e'.dom i ∧ e'.β i = e.β i) : ∀ (s : SV) (v : Value), s.stab = true → Rel X e w s v → Rel X e' w s v
  | .junk, _, _, _ => trivial
  | .d _, _, _, h => h
  | .nils, _, _, h => h
  | .pd _, _, _, h => h
  | .loc i _, _, _, ⟨h1, h2⟩ => ⟨(h i h1).1, by rw [(h i h1).2]; exact h2⟩
  | .sl i _ _ _, _, _, ⟨h1, h2⟩ => ⟨(h i h1).1, by rw [(h i h1).2]; exact h2⟩
  | .row _, _, hb, _ => nomatch hb
  | .prow _ _ _ _, _, hb, _ => nomatch hb
  | .fn _ caps, _, hb, ⟨vs, h1, h2⟩ => ⟨vs, h1, RelL.stab h caps vs hb h2⟩
  | .agg ss, _, hb, ⟨vs, h1, h2⟩ => ⟨vs, h1, RelL.stab h ss vs hb h2⟩
  | .tup ss, _, hb, ⟨vs, h1, h2⟩ => ⟨vs, h1, RelL.stab h ss vs hb h2⟩
  | .val _, _, _, h => h
theorem RelL.stab {X : Nat → Prop} {e e' : Env} {w : World} (h : ∀ i, e.dom i → e'.dom i ∧ e'.β i = e.β i) : ∀ (ss : List SV) (vs : List Value), SV.stabL ss = true → RelL X e w ss vs → RelL X e' w ss vs
  | [], [], _, _ => trivial
  | [], _ :: _, _, h => h.elim
  | _ :: _, [], _, h => h.elim
  | s :: ss, v :: vs, hb, hr => by
    simp only [SV.stabL, Bool.and_eq_true] at hb
    exact ⟨Rel.stab h s v hb.1 hr.1, RelL.stab h ss vs hb.2 hr.2⟩
end

/-- Slots that are kept. -/
def keptB (L : Sl) : Sl → Bool
  | [] => true
  | (_, s) :: r => s.stab && keptB L r
def Kepts (L : Sl) : Sl → Prop
  | [] => True
  | (t, s) :: r => Sl.get L t = s ∧ Kepts L r
theorem kept_get {L : Sl} : ∀ (L' : Sl), Kepts L L' → keptB L L' = true → ∀ t, L'.get t = .junk ∨ (L'.get t = L.get t ∧ (L.get t).stab = true)
  | [], _, _, _ => .inl rfl
  | (d, s) :: r, ⟨h1, h2⟩, hb, t => by
    simp only [keptB, Bool.and_eq_true] at hb
    rw [Sl.get_cons]
    split
    · rename_i hd; subst hd; exact .inr ⟨h1.symm, h1.symm ▸ hb.1⟩
    · exact kept_get r h2 hb.2 t

/-- The parameters of a round. -/
def params : List Nat → List SV → Sl → Sl
  | p :: ps, s :: ss, L => params ps ss ((p, s) :: L)
  | _, _, L => L

theorem params_slot {X e w} : ∀ (ps : List Nat) (ss : List SV) (vs : List Value) (L : Sl) (tmps : Array Value), ps.length = ss.length → (∀ p ∈ ps, p < tmps.size) → RelL X e w ss vs → (∀ t, Rel X e w (L.get t) (tmps.getD t undef)) →
    ∀ t, Rel X e w ((params ps ss L).get t) (((ps.zip vs).foldl (fun t (q : Nat × Value) => t.setIfInBounds q.1 q.2) tmps).getD t undef)
  | [], [], [], L, tmps, _, _, _, h, t => h t
  | [], _ :: _, _, _, _, hl, _, _, _, _ => by simp at hl
  | _ :: _, [], _, _, _, hl, _, _, _, _ => by simp at hl
  | _, [], _ :: _, _, _, _, _, hr, _, _ => hr.elim
  | _, _ :: _, [], _, _, _, _, hr, _, _ => hr.elim
  | p :: ps, s :: ss, v :: vs, L, tmps, hl, hp, ⟨h1, h2⟩, h, t => by
    refine params_slot ps ss vs ((p, s) :: L) (tmps.setIfInBounds p v) (by simpa using hl) (fun q hq => by rw [Array.size_setIfInBounds]; exact hp q (List.mem_cons_of_mem _ hq)) h2 (fun t => ?_) t
    have := hp p (List.mem_cons_self ..)
    rw [Sl.get_cons]
    simp only [Array.getD_eq_getD_getElem?, Array.getElem?_setIfInBounds]
    split
    · rename_i hd; subst hd; simp; exact h1
    · have := h t; rwa [Array.getD_eq_getD_getElem?] at this

theorem foldl_size : ∀ (l : List (Nat × Value)) (tmps : Array Value), (l.foldl (fun t (q : Nat × Value) => t.setIfInBounds q.1 q.2) tmps).size = tmps.size
  | [], _ => rfl
  | q :: l, tmps => by rw [List.foldl_cons, foldl_size l]; simp

/-- Where the body of a round ends. -/
def roundD {ι : Type} (Γ : Ctx) (next : ι → Prop) (I : ι → Nat × Hp) (Ls : Sl) (Q : Post) : Post := fun ex k L H => match ex with
  | .normal => ∃ y, next y ∧ Ent Γ k L H (I y).1 [] (I y).2
  | .ret => ∃ k2 H2, Ent Γ k L H k2 [] H2 ∧ Q .ret k2 Ls H2
  | _ => False

theorem Heap.widen {Γ : Ctx} {k : Nat → Prop} {H : Hp} {e : Env} {w : World} {l : Nat} (h : Heap Γ k H e w) (hl : ¬ Γ.O l) : Heap ⟨Γ.P, Γ.τ, Γ.τok, Γ.O, Γ.w0, fun b => Γ.E0 b ∨ b = l, Γ.n, Γ.J, Γ.β0, Γ.rd, Γ.pan, Γ.mks⟩ k H e w where
  top := h.top
  heap := h.heap
  ids := h.ids
  nodup := h.nodup
  mine b hb := ⟨(h.mine b hb).1.imp .inl id, (h.mine b hb).2⟩
  os := h.os
  tape := h.tape
  output := h.output
  size := h.size
  block b h1 h2 := h.block b h1 fun h => h2 (.inl h)
  obound b hb := ⟨(h.obound b hb).1, fun hx => hx.elim (h.obound b hb).2 fun hx => hl (hx ▸ hb)⟩
  jle := h.jle
  anchor := h.anchor

theorem Heap.narrow {Γ : Ctx} {k : Nat → Prop} {H : Hp} {e : Env} {w : World} {l : Nat} (h : Heap ⟨Γ.P, Γ.τ, Γ.τok, Γ.O, Γ.w0, fun b => Γ.E0 b ∨ b = l, Γ.n, Γ.J, Γ.β0, Γ.rd, Γ.pan, Γ.mks⟩ k H e w) (hl : l ∉ ownedL e H) (hb : w.heap[l]? = Γ.w0.heap[l]?) : Heap Γ k H e w where
  top := h.top
  heap := h.heap
  ids := h.ids
  nodup := h.nodup
  mine b hm := ⟨(h.mine b hm).1.elim (fun hx => hx.elim .inl fun hx => absurd (hx ▸ hm) hl) .inr, (h.mine b hm).2⟩
  os := h.os
  tape := h.tape
  output := h.output
  size := h.size
  block b h1 h2 := by
    by_cases hbl : b = l
    · subst hbl; exact hb
    · exact h.block b h1 fun h => h.elim h2 hbl
  obound b hb := ⟨(h.obound b hb).1, fun hx => (h.obound b hb).2 (.inl hx)⟩
  jle := h.jle
  anchor := h.anchor

theorem Heap.owned_loop {Γ : Ctx} {k : Nat → Prop} {H : Hp} {e : Env} {w : World} (h : Heap Γ k H e w) {r : Nat} {o : Loop} (hr : w.heap[r]? = some (Obj.loop o)) : r ∉ ownedL e H := by
  intro hb
  obtain ⟨cs, ty, p, h1⟩ := h.owned_cells hb
  rw [hr] at h1
  cases h1

set_option maxHeartbeats 1000000 in
/-- A range over a function, at the outermost: a family of states between the rounds. -/
theorem dw_range {P : Program} {τ : List (Nat × TI)} {τok : TabOk P τ} {O : Nat → Prop} {w0 : World} {E0 : Nat → Prop} {N J : Nat} {β0 : Nat → Nat} {pan : Value → Prop} {k : Nat} {L : Sl} {H : Hp} {Q : Post}
    {g : Operand} {ps : List Tmp} {assign body : Code} {gf : FuncId} {caps : List SV} (xs : List (List SV)) (hg : opSV L g = .fn gf caps) (hgo : opOkB g = true) (hseq : SeqD P gf caps xs)
    (hps : ∀ x ∈ xs, ps.length = x.length ∧ SV.lowL 0 x = true) (hpN : ∀ p ∈ ps, p < N) (Ls : Sl) (hL1 : Kepts L Ls) (hL2 : keptB L Ls = true)
    {ι : Type} (I : Nat → ι → Nat × Hp) (pre : Nat → ι → Prop) (x0 : ι) (p0 : pre 0 x0) (hI0 : I 0 x0 = (k, H))
    (hbody : ∀ (i : Nat) (hi : i < xs.length) x, pre i x → ∀ O' w' E' β' l, DW ⟨P, τ, τok, O', w', E', N, k, β', some l, noPan, false⟩ assign (fun ex k2 L2 H2 => ex = .normal ∧ ∀ O' w' E' β', DW ⟨P, τ, τok, O', w', E', N, k, β', some l, noPan, false⟩ body
      (roundD ⟨P, τ, τok, O', w', E', N, k, β', some l, noPan, false⟩ (pre (i + 1)) (I (i + 1)) Ls Q) k2 L2 H2) (I i x).1 (params ps (xs[i]) Ls) (I i x).2)
    (hdone : ∀ y, pre xs.length y → Q .normal (I xs.length y).1 Ls (I xs.length y).2) :
    DW ⟨P, τ, τok, O, w0, E0, N, J, β0, none, pan, true⟩ (.rangeFunc g ps.toArray assign body) Q k L H := by
  intro e a W m
  obtain ⟨hcall, hseq⟩ := hseq
  have hgr := m.op g (opOkB_spec hgo)
  rw [hg] at hgr
  obtain ⟨lb, hgv, hlb⟩ := hgr
  show (Code.rangeFunc g ps.toArray assign body).wpIn Fence.wide 0 P _ a W
  refine wpIn_rangeFunc ?_
  intro fn _
  obtain ⟨rec, hrec⟩ : ∃ rec : LoopState → Option Code → Loop, rec = fun st pe => { state := st, pending := pe, fn, tmps := a.tmps, params := ps.toArray, assign, body, defers := W.heap.size } := ⟨_, rfl⟩
  obtain ⟨W1, hW1⟩ : ∃ W1, (W.alloc (.deferred (some []))).alloc (.loop (rec .ready none)) = W1 := ⟨_, rfl⟩
  have hD1 : W1.heap[W.heap.size]? = some (Obj.deferred (some [])) := by
    rw [← hW1]; exact (Below.heap_alloc _ _ _ (by simp)).trans (World.alloc_heap_new W _)
  obtain ⟨l, hl⟩ : ∃ l, l = W.heap.size + 1 := ⟨_, rfl⟩
  have hL1' : W1.heap[l]? = some (Obj.loop (rec .ready none)) := by
    rw [← hW1, hl]; have := World.alloc_heap_new (W.alloc (.deferred (some []))) (.loop (rec .ready none)); rwa [World.size_alloc] at this
  have hb1 : Below W.heap.size W W1 := by
    rw [← hW1]; exact ((Below.refl _ W).alloc (Nat.le_refl _) _).alloc (by simp) _
  have hsz1 : W1.heap.size = W.heap.size + 2 := by rw [← hW1]; simp
  have hk1 : KeepsCells W W1 := fun b cs ty p hb => (hb1.block b (lt_of_heap hb)).trans hb
  refine ⟨W.heap.size + 1, [{ target := .collected W.heap.size, args := #[] }], W1, { target := .fn (.func gf) lb.toArray, args := #[.func (.yield (W.heap.size + 1)) #[] #[]] }, W1, gf,
    #[.func (.yield (W.heap.size + 1)) #[] #[]] ++ lb.toArray, W1, ?_, ?_, fun _ _ => trivial, ?_, depth_wideR (ro := none), ?_⟩
  · rw [← hW1, hrec]; exact run_enterLoop_outer _ _ _ _ _
  · simp only [resolve, hgv]
    simp [go_sem]
  · simp [invoke, go_sem, run_call hcall]
  rw [← hl]
  refine callsIn_wide.2 ?_
  -- the frame of the rounds
  let Γ1 : Ctx := ⟨P, τ, τok, O, W1, fun b => b ∈ ownedL e H, N, k, e.β, none, pan, true⟩
  have hH1 : Heap Γ1 k H e W1 := m.toHeap.rebase hb1.size hk1 (fun j hj => hj)
  have hlO : ¬ O l := fun hO => by have h1 := (m.obound l hO).1; have h2 := m.size; simp only at h1 h2; omega
  let Γx : Ctx := ⟨P, τ, τok, O, W1, fun b => b ∈ ownedL e H ∨ b = l, N, k, e.β, none, pan, true⟩
  let X : Nat → Prop := fun b => O b ∨ b ∈ ownedL e H
  have hXlt : ∀ b, X b → b < W.heap.size := fun b hb => hb.elim (fun h => Nat.lt_of_lt_of_le (m.obound b h).1 m.size) (m.lt b)
  have hlown : l ∉ ownedL e H := fun h => by have := m.lt l h; omega
  -- slots that are kept
  have hslots : ∀ (k' : Nat) (H' : Hp) (e' : Env) (W' : World), Heap Γx k' H' e' W' → ∀ t, Rel (Ctx.X Γx e' H') e' W' (Ls.get t) (a.tmps.getD t undef) := by
    intro k' H' e' W' h t
    rcases kept_get Ls hL1 hL2 t with h1 | ⟨h1, h2⟩
    · rw [h1]; trivial
    · rw [h1]
      have hdom : ∀ i, e.dom i → e'.dom i ∧ e'.β i = e.β i := fun i hi => ⟨(h.top i).2 (h.jle i ((m.top i).1 hi)), h.anchor i ((m.top i).1 hi)⟩
      refine Rel.keep (X := X) (w := W) (Nat.le_trans hb1.size h.size) (fun b hb hx => ?_) (fun b hb hx => ?_) _ _ (Rel.stab hdom _ _ h2 (m.slot t))
      · have hb' : b < W1.heap.size := by omega
        exact (h.block b hb' fun hE => hE.elim (fun hE => hx (.inr hE)) fun hE => by omega).trans (hb1.block b hb)
      · rcases hx with hx | hx
        · exact .inl hx
        · rcases (h.mine b hx).1 with h3 | h3
          · exact h3.elim .inr fun h3 => by omega
          · have h3 : W1.heap.size ≤ b := h3
            omega
  have hnarrow : ∀ (k' : Nat) (H' : Hp) (e' : Env) (W' : World), Heap Γx k' H' e' W' → W'.heap[l]? = some (Obj.loop (rec .ready none)) → Heap Γ1 k' H' e' W' := fun k' H' e' W' h hlw =>
    Heap.narrow (Γ := Γ1) (l := l) h (h.owned_loop hlw) (hlw.trans hL1'.symm)
  have hlive : ∀ (k' : Nat) (H' : Hp) (e' : Env) (W' : World), Heap Γ1 k' H' e' W' → W'.heap[l]? = some (Obj.loop (rec .ready none)) := fun k' H' e' W' h =>
    (h.block l (by show l < W1.heap.size; omega) hlown).trans hL1'
  -- what the loop's end is
  have hend : ∀ (ex : Exit) (k' : Nat) (H' : Hp) (e' : Env) (W' : World) (o o' : Loop), Heap Γx k' H' e' W' → W'.heap[l]? = some (Obj.loop o) → Q ex k' Ls H' →
      lift ⟨P, τ, τok, O, w0, E0, N, J, β0, none, pan, true⟩ Q ex { a with defers := [{ target := .collected W.heap.size, args := #[] }] ++ a.defers } (W'.putObj l (.loop o')) := by
    intro ex k' H' e' W' o o' h hlw hq
    have hk : KeepsCells W' (W'.putObj l (.loop o')) := keepsCells_put hlw (fun _ _ _ h => nomatch h)
    have hx : Heap Γx k' H' e' (W'.putObj l (.loop o')) := h.turned (by simp) hk rfl rfl rfl fun b _ hE => World.putObj_heap_other fun hbl => hE (.inr hbl)
    refine .inl ⟨k', Ls, H', e', ⟨?_, ?_, m.len, hslots _ _ _ _ hx⟩, hq⟩
    · refine m.toHeap.debase hb1.size hb1.os hb1.tape hb1.output (fun b hb _ => hb1.block b (Nat.lt_of_lt_of_le hb m.size)) (show Heap ⟨P, τ, τok, O, W1, fun b => b ∈ ownedL e H ∨ b = l, N, k, e.β, none, pan, true⟩ k' H' e' (W'.putObj l (.loop o')) from hx) (fun b hb => ?_) ?_
      · rcases hb with hb | hb
        · exact (m.mine b hb).1
        · exact .inr (by have := m.size; simp only at this ⊢; omega)
      · rcases Nat.eq_zero_or_pos J with hJ | hJ
        · simp only; omega
        · have := m.jle (J - 1) (by simp only; omega)
          have h3 : J - 1 < k := this
          simp only; omega
    · obtain ⟨rs, h1, _, h2, h3⟩ := m.defers
      have hold : ∀ r, r < W.heap.size → r ∉ ownedL e H → (W'.putObj l (.loop o')).heap[r]? = W.heap[r]? := fun r hr hn =>
        (hx.block r (by show r < W1.heap.size; omega) fun hE => hE.elim hn fun hE => by omega).trans (hb1.block r hr)
      refine ⟨W.heap.size :: rs, ?_, fun h => (nomatch h), ?_, ?_⟩
      · show [_] ++ a.defers = _
        rw [h1]; rfl
      · refine List.nodup_cons.2 ⟨fun hm => ?_, h2⟩
        have := lt_of_heap (h3 _ hm).2
        omega
      · intro r hr
        rcases List.mem_cons.1 hr with rfl | hr
        · refine ⟨m.size, ?_⟩
          exact (hx.block _ (by show _ < W1.heap.size; omega) fun hE => hE.elim (fun hE => by have := m.lt _ hE; omega) fun hE => by omega).trans hD1
        · refine ⟨(h3 r hr).1, (hold r (lt_of_heap (h3 r hr).2) fun ho => m.owned_mark (h3 r hr).2 ho).trans (h3 r hr).2⟩
  have hb0 := hseq X e W1 lb l (fun i W' => ∃ x, pre i x ∧ ∃ e', Heap Γ1 (I i x).1 (I i x).2 e' W')
    (fun W' => W'.heap[l]? = some (Obj.loop (rec .done (some .ret))) ∧ ∃ k2 H2 e', Heap Γx (lo k2) H2 e' W' ∧ Q .ret k2 Ls H2)
    (fun b hb => by have := hXlt b hb; omega)
    (RelL.keep hb1.size (fun b hb _ => hb1.block b hb) (fun b hb hx => hx) _ _ hlb)
    ⟨x0, p0, e, by rw [hI0]; exact hH1⟩
    (fun i W' ⟨x, _, e', h⟩ => ⟨h.size, fun b hb hx => h.block b hb fun hE => hx (.inr hE)⟩)
    (fun i W' W'' ⟨x, hp, e', h⟩ hb => ⟨x, hp, e', h.below hb⟩)
    (fun W' W'' ⟨h1, k2, H2, e', h2, h3⟩ hb => ⟨(hb.block l (lt_of_heap h1)).trans h1, k2, H2, e', h2.below hb, h3⟩)
    ?_
  · refine hb0.mono ?_
    rintro en W2 ⟨⟨v, rfl⟩, ⟨x, hp, e', h⟩ | ⟨h1, k2, H2, e', h2, h3⟩⟩
    · have hlw := hlive _ _ _ _ h
      refine ⟨none, W2.putObj l (.loop (rec .exhausted none)), ?_, ?_⟩
      · have := run_endLoop (P := P) hlw (by rw [hrec]; simp)
        rw [hrec] at this ⊢; exact this
      · exact hend .normal _ _ _ _ _ _ (Heap.widen (Γ := Γ1) (l := l) h hlO) hlw (hdone x hp)
    · refine ⟨some .ret, W2.putObj l (.loop (rec .exhausted (some .ret))), ?_, ?_⟩
      · have := run_endLoop (P := P) h1 (by rw [hrec]; simp)
        rw [hrec] at this ⊢; exact this
      · exact wpIn_ret (hend .ret _ _ _ _ _ _ h2 h1 h3)
  -- one round
  · rintro i hi Wa Wb vs ⟨x, hp, e1, hh1⟩ hbl ⟨e', hvs⟩
    have hhb : Heap Γ1 (lo (I i x).1) (I i x).2 e1 Wb := hh1.below hbl
    have hlw := hlive _ _ _ _ hhb
    have hvl := RelL.length _ _ hvs
    obtain ⟨hpl, hxl⟩ := hps _ (List.getElem_mem hi)
    refine ⟨rec .ready none, hlw, by rw [hrec]; simp; omega, ?_⟩
    rw [hrec]
    refine roundIn_of_wpIn trivial ?_
    show Code.wpIn (wideR (some l)) 0 P assign _ _ _
    -- the assignment
    have hdomb : ∀ j, j < k → (lo (I i x).1) j := fun j hj => hhb.jle j hj
    have hA : Heap ⟨P, τ, τok, O, Wb, fun b => b ∈ ownedL e1 (I i x).2, N, k, e1.β, some l, noPan, false⟩ (lo (I i x).1) (I i x).2 e1 Wb := hhb.rebase (Nat.le_refl _) (fun _ _ _ _ h => h) hdomb
    have hhx : Heap Γx (lo (I i x).1) (I i x).2 e1 Wb := Heap.widen (Γ := Γ1) (l := l) hhb hlO
    have mA : Models ⟨P, τ, τok, O, Wb, fun b => b ∈ ownedL e1 (I i x).2, N, k, e1.β, some l, noPan, false⟩ (lo (I i x).1) (params ps (xs[i]) Ls) (I i x).2 e1
        { tmps := ((ps.toArray.zip vs.toArray).foldl (fun t (p, v) => t.setIfInBounds p v) a.tmps), defers := [] } Wb := by
      have hz : (ps.toArray.zip vs.toArray).foldl (fun t (p, v) => t.setIfInBounds p v) a.tmps = (ps.zip vs).foldl (fun t (q : Nat × Value) => t.setIfInBounds q.1 q.2) a.tmps := by
        rw [List.zip_toArray, List.foldl_toArray]
      refine ⟨hA, Marks.nil, ?_, ?_⟩
      · show Array.size _ = N
        rw [hz, foldl_size]; exact m.len
      · intro t
        show Rel _ e1 Wb _ (Array.getD _ t undef)
        rw [hz]
        refine params_slot ps (xs[i]) vs Ls a.tmps hpl (fun p hp => by rw [m.len]; exact hpN p hp) ?_ (hslots _ _ _ _ hhx) t
        refine RelL.keep (Nat.le_refl _) (fun _ _ _ => rfl) (fun b _ hx => ?_) _ _ (RelL.env _ _ hxl hvs)
        rcases hx with hx | hx
        · have h1 := (m.obound b hx).1
          have h2 := m.size
          have h3 := hh1.size
          simp only at h1 h2
          have h3 : W1.heap.size ≤ Wa.heap.size := h3
          exact ⟨by omega, .inl (.inl hx)⟩
        · have h1 := hh1.lt b hx
          refine ⟨h1, ?_⟩
          rcases (hh1.mine b hx).1 with h2 | h2
          · exact .inl (.inr h2)
          · exact .inr h2
    refine wpIn_mono (hbody i hi x hp O Wb _ e1.β l e1 _ Wb mA) ?_
    rintro ex a1 w1 (⟨k2, L2, H2, e2, m2, rfl, hB⟩ | ⟨_, _, _, _, hE, _⟩)
    rotate_left
    · exact hE.elim
    have hlw1 : w1.heap[l]? = some (Obj.loop (rec .ready none)) := (m2.block l (lt_of_heap hlw) (hhb.owned_loop hlw)).trans hlw
    have hx1 : Heap Γx (lo k2) H2 e2 w1 := hhx.debase (wb := Wb) (Nat.le_refl _) rfl rfl rfl (fun _ _ _ => rfl) (show Heap ⟨P, τ, τok, O, Wb, fun b => b ∈ ownedL e1 (I i x).2, N, k, e1.β, some l, noPan, false⟩ (lo k2) H2 e2 w1 from m2.toHeap) (fun b hb => (hhx.mine b hb).1) (Nat.le_refl _)
    refine ⟨w1.putObj l (.loop { rec .ready none with state := .busy }), run_beginRound hlw1 (by rw [hrec]), ?_⟩
    have hk2 : KeepsCells w1 (w1.putObj l (.loop { rec .ready none with state := .busy })) := keepsCells_put hlw1 (fun _ _ _ h => nomatch h)
    have hx2 : Heap Γx (lo k2) H2 e2 (w1.putObj l (.loop { rec .ready none with state := .busy })) := hx1.turned (by simp) hk2 rfl rfl rfl fun b _ hE => World.putObj_heap_other fun hbl => hE (.inr hbl)
    generalize hw2 : w1.putObj l (.loop { rec .ready none with state := .busy }) = w2 at hk2 hx2 ⊢
    have hs12 : w1.heap.size ≤ w2.heap.size := by rw [← hw2]; simp
    have hlw2 : w2.heap[l]? = some (Obj.loop { rec .ready none with state := .busy }) := by rw [← hw2]; exact World.putObj_heap_same (lt_of_heap hlw1)
    have hB2 : Heap ⟨P, τ, τok, O, w2, fun b => b ∈ ownedL e2 H2, N, k, e2.β, some l, noPan, false⟩ (lo k2) H2 e2 w2 := m2.toHeap.rebase hs12 hk2 (fun j hj => m2.jle j hj)
    have mB : Models ⟨P, τ, τok, O, w2, fun b => b ∈ ownedL e2 H2, N, k, e2.β, some l, noPan, false⟩ (lo k2) L2 H2 e2 a1 w2 := by
      refine ⟨hB2, ?_, m2.len, fun t => Rel.turned hs12 hk2 _ _ (m2.slot t)⟩
      obtain ⟨rs, h1, h0, _, _⟩ := m2.defers
      rw [h1, h0 rfl]
      exact Marks.nil
    show Code.wpIn (wideR (some l)) 0 P body _ _ _
    refine wpIn_mono (hB _ _ _ _ e2 a1 w2 mB) ?_
    have fin : ∀ (k3 : Nat) (H3 : Hp) (e3 : Env) (w3 : World) (jump : Option Code), Heap ⟨P, τ, τok, O, w2, fun b => b ∈ ownedL e2 H2, N, k, e2.β, some l, noPan, false⟩ k3 H3 e3 w3 →
        (Instr.endRound l jump).run P w3 = .ok (.bool jump.isNone) (w3.putObj l (.loop (rec (if jump.isNone then .ready else .done) jump))) ∧ Heap Γx k3 H3 e3 (w3.putObj l (.loop (rec (if jump.isNone then .ready else .done) jump))) ∧
        (w3.putObj l (.loop (rec (if jump.isNone then .ready else .done) jump))).heap[l]? = some (Obj.loop (rec (if jump.isNone then .ready else .done) jump)) := by
      intro k3 H3 e3 w3 jump h3
      have hlw3 : w3.heap[l]? = some (Obj.loop { rec .ready none with state := .busy }) := (h3.block l (lt_of_heap hlw2) (hx2.owned_loop hlw2)).trans hlw2
      refine ⟨?_, ?_, World.putObj_heap_same (lt_of_heap hlw3)⟩
      · have := run_endRound (P := P) jump hlw3
        rw [hrec] at this ⊢
        exact this
      · have hx3 : Heap Γx (lo k3) H3 e3 w3 := hx2.debase (wb := w2) (Nat.le_refl _) rfl rfl rfl (fun _ _ _ => rfl) (show Heap ⟨P, τ, τok, O, w2, fun b => b ∈ ownedL e2 H2, N, k, e2.β, some l, noPan, false⟩ (lo k3) H3 e3 w3 from h3) (fun b hb => (hx2.mine b hb).1) (Nat.le_refl _)
        exact hx3.turned (by simp) (keepsCells_put hlw3 (fun _ _ _ h => nomatch h)) rfl rfl rfl fun b _ hE => World.putObj_heap_other fun hbl => hE (.inr hbl)
    rintro ex a3 w3 (⟨k3, L3, H3, e3, m3, hq⟩ | ⟨_, _, _, _, hE, _⟩)
    rotate_left
    · exact hE.elim
    cases ex with
    | normal =>
      obtain ⟨y, hy, hent⟩ := hq
      obtain ⟨e4, m4⟩ := hent _ _ _ m3
      obtain ⟨f1, f2, f3⟩ := fin _ _ _ _ none m4.toHeap
      exact ⟨_, _, f1, .inl ⟨rfl, y, hy, e4, hnarrow _ _ _ _ f2 f3⟩⟩
    | ret =>
      obtain ⟨k4, H4, hent, hq⟩ := hq
      obtain ⟨e4, m4⟩ := hent _ _ _ m3
      obtain ⟨f1, f2, f3⟩ := fin _ _ _ _ (some .ret) m4.toHeap
      exact ⟨_, _, f1, .inr ⟨rfl, (by rw [show (if (some Code.ret).isNone = true then LoopState.ready else LoopState.done) = LoopState.done from rfl] at f3 ⊢; rw [hrec] at f3 ⊢; exact f3), k4, H4, e4, f2, hq⟩⟩
    | exit id => exact hq.elim
    | goto t => exact hq.elim
    | panic ch => exact hq.elim
    | outgrown => exact hq.elim

end Go.Proofs.Ytapciiffpnociaa

/- A plain logic over the walk: iterators. No program is named here. Condition: none. -/
namespace Go.Proofs.Ytapciiffpnociaa
open Go Go.RowKit

/-- Slots that say the same in every world. -/
def SV.flat : SV → Bool
  | .val _ => true
  | .junk => true
  | .d (.int _ _) => true
  | .d (.bool _) => true
  | _ => false
theorem Rel.flat {X e w X' e' w'} : ∀ (s : SV) (v : Value), s.flat = true → Rel X e w s v → Rel X' e' w' s v
  | .val _, _, _, h => h
  | .junk, _, _, _ => trivial
  | .d (.int _ _), _, _, h => by
    have h' : RepC _ _ _ _ := h
    cases h' with
    | int g => exact RepC.int g
  | .d (.bool _), _, _, h => by
    have h : RepC _ _ _ _ := h
    cases h
    exact RepC.bool
  | .d (.str _), _, h, _ => nomatch h
  | .d (.slice _ _), _, h, _ => nomatch h
  | .nils, _, h, _ => nomatch h
  | .pd _, _, h, _ => nomatch h
  | .loc _ _, _, h, _ => nomatch h
  | .row _, _, h, _ => nomatch h
  | .prow _ _ _ _, _, h, _ => nomatch h
  | .sl _ _ _ _, _, h, _ => nomatch h
  | .fn _ _, _, h, _ => nomatch h
  | .agg _, _, h, _ => nomatch h
  | .tup _, _, h, _ => nomatch h
def flatB : Sl → Bool
  | [] => true
  | (_, s) :: r => s.flat && flatB r
theorem flat_get : ∀ {L : Sl}, flatB L = true → ∀ t, (L.get t).flat = true
  | [], _, _ => rfl
  | (d, s) :: r, h, t => by
    simp only [flatB, Bool.and_eq_true] at h
    rw [Sl.get_cons]
    split
    · exact h.1
    · exact flat_get h.2 t
theorem kepts_get {L : Sl} : ∀ {L' : Sl}, Kepts L L' → ∀ t, L'.get t = .junk ∨ L'.get t = L.get t
  | [], _, _ => .inl rfl
  | (d, s) :: r, h, t => by
    rw [Sl.get_cons]
    split
    · rename_i hd; subst hd; exact .inr h.1.symm
    · exact kepts_get h.2 t

/-- An activation, whatever the world is. -/
structure Flat (N : Nat) (L : Sl) (a : Act) : Prop where
  len : a.tmps.size = N
  defers : a.defers = []
  slot : ∀ t X e w, Rel X e w (L.get t) (a.tmps.getD t undef)

abbrev Γit (P : Program) (τ : List (Nat × TI)) (τok : TabOk P τ) (O : Nat → Prop) (W : World) (N : Nat) : Ctx := ⟨P, τ, τok, O, W, fun _ => False, N, 0, fun _ => 0, none, noPan, false⟩

section
variable {P : Program} {τ : List (Nat × TI)} {τok : TabOk P τ} {O : Nat → Prop} {N : Nat} {L : Sl}
theorem Flat.models {a : Act} (h : Flat N L a) (W : World) (hO : ∀ b, O b → b < W.heap.size) : Models (Γit P τ τok O W N) (lo 0) L [] ⟨fun _ => 0, fun _ => undef, lo 0⟩ a W where
  top _ := Iff.rfl
  heap _ hp := nomatch hp
  ids := .nil
  nodup := .nil
  mine _ hb := nomatch hb
  os := rfl
  tape := rfl
  output := rfl
  size := Nat.le_refl _
  block _ _ _ := rfl
  obound b hb := ⟨hO b hb, id⟩
  jle _ hj := nomatch hj
  anchor _ hj := nomatch hj
  defers := by rw [h.defers]; exact Marks.nil
  len := h.len
  slot t := h.slot t _ _ _

theorem Models.flatten {W : World} {k : Nat → Prop} {H : Hp} {e : Env} {a : Act} {w : World} (m : Models (Γit P τ τok O W N) k L H e a w) {Ls : Sl} (hK : Kepts L Ls) (hf : flatB Ls = true) : Flat N Ls a where
  len := m.len
  defers := by
    obtain ⟨rs, h1, h0, _⟩ := m.defers
    rw [h1, h0 rfl]; rfl
  slot t X e' w' := by
    have hg := flat_get hf t
    rcases kepts_get hK t with h | h
    · rw [h]; trivial
    · rw [h] at hg ⊢; exact Rel.flat _ _ hg (m.slot t)

theorem Heap.it_below {W : World} {k : Nat → Prop} {H : Hp} {e : Env} {w : World} (h : Heap (Γit P τ τok O W N) k H e w) : Below W.heap.size W w := ⟨h.os, h.tape, h.output, h.size, fun b hb => h.block b hb id⟩
end

section
variable {Γ : Ctx} {k : Nat} {L : Sl} {H : Hp} {K : Next'} {ops : List Oper} {rest : List Oper} {x y : Operand} {t ty : TypeId}
theorem ev_val {op : Op} {s : SV} (L2 : Sl) (hm : ∀ e a w, Models Γ (lo k) L H e a w → Models Γ (lo k) L2 H e a w) (h : Ev Γ (lo k) L2 H op ty s) : Ev Γ (lo k) L H op ty s := fun e a w m => h e a w (hm e a w m)
theorem Models.val_as {e : Env} {a : Act} {w : World} {k : Nat → Prop} (m : Models Γ k L H e a w) (t : Nat) {v : Value} {s : SV} (hv : L.get t = .val v) (hr : Rel (Γ.X e H) e w s v) : Models Γ k ((t, s) :: L) H e a w where
  toHeap := m.toHeap
  defers := m.defers
  len := m.len
  slot t' := by
    rw [Sl.get_cons]
    split
    · rename_i h
      subst h
      have h1 := m.slot t
      rw [hv] at h1
      have h1 : a.tmps.getD t undef = v := h1
      rw [h1]; exact hr
    · exact m.slot t'

theorem ev_fa_val {s : TypeId} {f off fty sz b o : Nat} {l} (hs : Γ.sh s = .struct l) (hf : l[f]? = some (off, fty, sz)) (hz : Nat.beq sz 0 = false) (t : Nat) (hx : L.get t = .val (.pointer (some ⟨b, o, none⟩))) :
    Ev Γ (lo k) L H (.fieldAddr s (.tmp t) f) ty (.val (.pointer (some ⟨b, o + off, none⟩))) := by
  obtain ⟨fs, hu, hl⟩ := Ctx.struct hs
  subst hl
  rw [List.getElem?_map] at hf
  cases hff : fs.toList[f]? with
  | none => rw [hff] at hf; cases hf
  | some fd =>
    rw [hff] at hf
    simp only [Option.map_some, Option.some.injEq, Prod.mk.injEq] at hf
    obtain ⟨h1, h2, h3⟩ := hf
    have hfa : fs[f]? = some fd := by rw [← Array.getElem?_toList]; exact hff
    have hinf : ∃ inf, Γ.P.info? fd.type = some inf ∧ inf.size ≠ 0 := by
      cases hi : Γ.P.info? fd.type with
      | none => rw [hi] at h3; exact absurd h3.symm (Nat.ne_of_beq_eq_false hz)
      | some inf => rw [hi] at h3; exact ⟨inf, rfl, fun h => Nat.ne_of_beq_eq_false hz (by rw [← h3, ← h]; rfl)⟩
    obtain ⟨inf, hi, hne⟩ := hinf
    intro e A w m
    have hA : A.eval (.tmp t) = .pointer (some ⟨b, o, none⟩) := by
      have h1 := m.slot t
      rw [hx] at h1
      exact h1
    refine ⟨_, fun dst pos after guard w' _ => ?_, rfl⟩
    simp [execOp, Instr.fieldAt, hA, run_underlying hu, hfa, Instr.sureAddr, fieldPlace, run_sizeOf hi, hne, h1, Addr.add_at]

theorem ev_ld_val {b o : Nat} {u : Value} (t2 : Nat) (hkn : (Γ.sh t).known = true) (hg : (Γ.sh t).isAgg = false) (hx : L.get t2 = .val (.pointer (some ⟨b, o, none⟩))) (hc : Γ.w0.cell? ⟨b, o, none⟩ = some u) (hE : ∀ b, ¬ Γ.E0 b) :
    Ev Γ (lo k) L H (.load t (.tmp t2)) ty (.val u) := by
  intro e a w m
  have ho := Sh.known_ne hkn
  have hv : a.eval (.tmp t2) = .pointer (some ⟨b, o, none⟩) := by
    have h1 := m.slot t2
    rw [hx] at h1
    exact h1
  have hb : b < Γ.w0.heap.size := by
    unfold World.cell? at hc
    split at hc
    · rename_i hh; exact lt_of_heap hh
    · cases hc
  have hcw : w.cell? ⟨b, o, none⟩ = some u := (World.cell?_of_block (w := Γ.w0) (m.block b hb (hE b))).trans hc
  exact ⟨u, fun _ _ _ _ w' hw => run_load1 ho hg hv (cell_below hw hcw) _ _ _ _, rfl⟩

theorem ev_len_val {t' : TypeId} {ao : Option Addr} {n : Nat} {cap : Nat} (t2 : Nat) (ht : Γ.sh t = .slice t') (hx : L.get t2 = .val (.slice ao n cap)) (hn : n ≤ maxLen) : Ev Γ (lo k) L H (.call { callee := .builtin .len, args := #[.tmp t2], argTypes := #[t] }) ty (.d (.int .i64 n)) := by
  intro e a w m
  have hv : a.eval (.tmp t2) = .slice ao n cap := by
    have h1 := m.slot t2
    rw [hx] at h1
    exact h1
  refine ⟨.int .i64 n, fun _ _ _ _ w' _ => ?_, .int (WalkArith.wf_i64 (by unfold maxLen at hn; omega))⟩
  simp [execOp, resolve, invoke, builtin, hv, Builtin.len_, goInt, run_underlying (Ctx.slice ht)]
end

/-! The raw walk around a call of yield. -/
theorem Oper.wp_in2 {ro : Option Nat} {P : Program} {o : Oper} {a : Act} {w : World} {K K' : Act → World → Prop} {Q Q' : Exit → Act → World → Prop} (hd : ∀ c, o.op ≠ .defer c) (hK : ∀ a w, K a w → K' a w)
    (hQ : ∀ c a w, Q (.panic c) a w → Q' (.panic c) a w) (hL : ¬ LetsOut Q) (h : o.wp P a w K Q) : o.wpIn (wideR ro) 0 P a w K' Q' := by
  refine ⟨fun _ _ => trivial, ?_⟩
  rw [Oper.semAt_eq _ _ _ hd]
  unfold Oper.wp at h
  generalize (execOp a.eval o).run P w = r at h
  cases r with
  | ok x w' =>
    cases x <;> simp only [Oper.upon, Oper.uponIn] at h ⊢ <;> first
      | exact hK _ _ h
      | exact h.elim
      | exact ⟨depth_wideR, callsIn_wideR (h.mono fun e w'' he => by cases e <;> first | exact hK _ _ he | exact hQ _ _ _ he | exact absurd he hL)⟩
      | exact ⟨depth_wideR, fun c cs _ => let ⟨v, w'', r, s⟩ := h c cs; ⟨v, w'', hK _ _ r, stepsIn_wide.2 s⟩⟩
  | halt x w' => cases x <;> simp only [Oper.upon, Oper.uponIn] at h ⊢ <;> first | exact hQ _ _ _ h | exact h

theorem wpList_app {ro : Option Nat} {P : Program} {ops : Array Oper} {Q Q' : Exit → Act → World → Prop} (hQ : ∀ c a w, Q (.panic c) a w → Q' (.panic c) a w) (hL : ¬ LetsOut Q) (post : List Oper)
    (hn : ∀ a w, Q .normal a w → wpListIn (wideR ro) 0 P ops Q' post a w) : ∀ (l : List Oper), noDefer l = true → ∀ a w, wpList P ops Q l a w → wpListIn (wideR ro) 0 P ops Q' (l ++ post) a w
  | [], _, a, w, h => hn a w h
  | o :: l, hd, a, w, h => by
    have hd1 := noDefer_spec hd o (List.mem_cons_self ..)
    have hd2 : noDefer l = true := by simp only [noDefer, Bool.and_eq_true] at hd; exact hd.2
    unfold wpList at h
    show wpListIn (wideR ro) 0 P ops Q' (o :: (l ++ post)) a w
    unfold wpListIn
    split at h
    · rename_i hw
      rw [if_pos hw]
      rcases h with h | h
      · exact Oper.wp_in2 hd1 (fun a w => wpList_app hQ hL post hn l hd2 a w) hQ hL h
      · exact absurd h.2 hL
    · rename_i hw
      rw [if_neg hw]
      exact ⟨fun _ _ => trivial, wpList_app hQ hL post hn l hd2 _ _ h⟩

/-- Code, walked to an end that is told raw. -/
def DWr (Γ : Ctx) (c : Code) (R : Exit → Act → World → Prop) (k : Nat) (L : Sl) (H : Hp) : Prop := ∀ e a w, Models Γ (lo k) L H e a w → c.wpIn (wideR Γ.rd) 0 Γ.P R a w

/-- An end that is told raw, as the end of a walk over data. -/
def rawQ (Γ : Ctx) (R : Exit → Act → World → Prop) : Post := fun ex k L H => ∀ e a w, Models Γ (lo k) L H e a w → R ex a w

section
variable {Γ : Ctx} {k : Nat} {L : Sl} {H : Hp} {R : Exit → Act → World → Prop}
theorem dwr_of {c : Code} (hp : Γ.pan = noPan) (h : DW Γ c (rawQ Γ R) k L H) : DWr Γ c R k L H := fun e a w m => wpIn_mono (h e a w m) (by
  rintro ex a' w' (⟨k', L', H', e', m', hq⟩ | ⟨v, _, _, _, hv, _⟩)
  · exact hq _ _ _ m'
  · rw [hp] at hv; exact hv.elim)
theorem dwr_seq {x y : Code} (hp : Γ.pan = noPan) (h : DW Γ x (thenD (DWr Γ y R) (rawQ Γ R)) k L H) : DWr Γ (.seq x y) R k L H := fun e a w m => by
  refine wpIn_seq (wpIn_mono (h e a w m) ?_)
  rintro ex a' w' (⟨k', L', H', e', m', hq⟩ | ⟨v, _, _, _, hv, _⟩)
  · cases ex with
    | normal => exact hq _ _ _ m'
    | _ => exact hq _ _ _ m'
  · rw [hp] at hv; exact hv.elim
theorem dwr_run {c : Code} {e : Env} {a : Act} {w : World} (m : Models Γ (lo k) L H e a w) (h : DWr Γ c R k L H) : c.wpIn (wideR Γ.rd) 0 Γ.P R a w := h e a w m
theorem dw_run {Q : Post} {c : Code} {e : Env} {a : Act} {w : World} (m : Models Γ (lo k) L H e a w) (h : DW Γ c Q k L H) : c.wpIn (wideR Γ.rd) 0 Γ.P (lift Γ Q) a w := h e a w m
theorem dw_regionE {Q : Post} {id : Nat} {l : List Oper} (h : DS false Γ l l (Q .normal) k L H) (hn : noDefer l = true := by rfl) : DW Γ (.region id l.toArray false) Q k L H := ds_region hn h
theorem dwr_ent {c : Code} {k' L' H'} (he : Ent Γ k L H k' L' H') (h : DWr Γ c R k' L' H') : DWr Γ c R k L H := fun e a w m =>
  let ⟨e', m'⟩ := he e a w m
  h e' a w m'
end

section
variable {Γ : Ctx} {k : Nat} {L : Sl} {H : Hp} {R : Exit → Act → World → Prop}
theorem dwr_seqR {x y : Code} (h : DWr Γ x (Exit.then (y.wpIn (wideR Γ.rd) 0 Γ.P R) R) k L H) : DWr Γ (.seq x y) R k L H := fun e a w m => wpIn_seq (h e a w m)
theorem dwr_block {id : Nat} {c : Code} (h : DWr Γ c (Exit.inBlock id R) k L H) : DWr Γ (.block id c) R k L H := fun e a w m => wpIn_block (h e a w m)
theorem rawQ_i {ex : Exit} (h : ∀ e a w, Models Γ (lo k) L H e a w → R ex a w) : rawQ Γ R ex k L H := h
end

abbrev Oit (X : Nat → Prop) (W0 W : World) : Nat → Prop := fun b => b < W.heap.size ∧ (X b ∨ W0.heap.size ≤ b)
/-- What an iterator was handed, in a later world. -/
theorem it_rel {P : Program} {τ : List (Nat × TI)} {τok : TabOk P τ} {N : Nat} {X : Nat → Prop} {W0 W : World} (hs : W0.heap.size ≤ W.heap.size) (hfr : ∀ b, b < W0.heap.size → ¬ X b → W.heap[b]? = W0.heap[b]?)
    {s : SV} {v : Value} {e0 : Env} (hlow : s.low 0 = true) (h : Rel X e0 W0 s v) {k : Nat → Prop} {H : Hp} {e : Env} {w : World} (hh : Heap (Γit P τ τok (Oit X W0 W) W N) k H e w) : Rel (Ctx.X (Γit P τ τok (Oit X W0 W) W N) e H) e w s v := by
  have hb := hh.it_below
  refine Rel.keep (Nat.le_trans hs hb.size) (fun b hb1 hx => (hb.block b (Nat.lt_of_lt_of_le hb1 hs)).trans (hfr b hb1 hx)) (fun b hb1 hx => ?_) _ _ (Rel.env _ _ hlow h)
  rcases hx with hx | hx
  · rcases hx.2 with h1 | h1
    · exact h1
    · omega
  · rcases (hh.mine b hx).1 with h1 | h1
    · exact h1.elim
    · have h1 : W.heap.size ≤ b := h1
      omega

/-- A block of data that nothing turns from here on, captured by a function. -/
theorem ent_freeze {Γ : Ctx} {k : Nat} {L : Sl} {H : Hp} (t i : Nat) {f : FuncId} {ty : TypeId} {ds : List D} (hL : L.get t = .fn f [.loc i 0]) (hH : Hp.get H i = some (.blk ty (ds.map .d))) : Ent Γ k L H k ((t, .fn f [.pd ds]) :: L) (Hp.del H i) := by
  intro e a w m
  obtain ⟨m2, hX⟩ := m.del i
  have hmem := Hp.mem_of hH
  refine ⟨e, m2.toHeap, m2.defers, m2.len, fun t' => ?_⟩
  rw [Sl.get_cons]
  split
  · rename_i ht
    subst ht
    have hs := m.slot t
    rw [hL] at hs
    obtain ⟨vs, h1, h2⟩ := hs
    refine ⟨vs, h1, ?_⟩
    match vs, h2 with
    | [v], ⟨⟨_, hv⟩, _⟩ =>
      refine ⟨?_, trivial⟩
      obtain ⟨us, g1, g2, _⟩ := (m.heap _ hmem).2
      have hown : HB.owned e (i, .blk ty (ds.map .d)) = some (e.β i) := rfl
      refine ⟨e.β i, 0, hv, lt_of_heap g1, fun hx => ?_, fun j hj => ?_⟩
      · rcases hx with hx | hx
        · exact (m.mine _ (List.mem_filterMap.2 ⟨_, hmem, hown⟩)).2 hx
        · obtain ⟨p, hp, hpg⟩ := List.mem_filterMap.1 hx
          have hd := Hp.del_mem (i := i) H m.ids p hp
          exact m.owned_ne hd.1 hmem hd.2 hpg hown
      · obtain ⟨u, g3, g4⟩ := RelL.get _ _ g2 j (.d ds[j]) (by rw [List.getElem?_map, List.getElem?_eq_getElem hj]; rfl)
        refine ⟨u, ?_, RepC.keep (Nat.le_refl _) (fun _ _ _ => rfl) (fun b _ h => hX b h) g4⟩
        rw [cell_of_row w _ _ _ ty (0, 0) g1, Nat.zero_add]; simpa using g3
  · exact m2.slot t'

/-- A call of yield within a region that goes in the text's order. -/
theorem dwr_yield {P : Program} {τ : List (Nat × TI)} {τok : TabOk P τ} {O : Nat → Prop} {W : World} {N : Nat} {k : Nat} {L : Sl} {H : Hp} {R : Exit → Act → World → Prop}
    {id l d : Nat} {xs : List Operand} {ts : Array TypeId} {ty : TypeId} {pos : String} {af : Array Edge} {pre post : List Oper} {fy : Nat} (hn : noDefer pre = true) (hnp : noDefer post = true) (hdN : d < N) (Lf : Sl) (hf : flatB Lf = true) (Lp : Bool → Sl)
    (J' Jx : World → Prop)
    (hpre : DL (Γit P τ τok O W N) (pre ++ ⟨some d, .call { callee := .value (.tmp fy), args := xs.toArray, argTypes := ts }, ty, pos, af, none⟩ :: post) pre (fun _ L' _ => L'.get fy = .val (.func (.yield l) #[] #[]) ∧ opsOk xs = true ∧ Kepts L' Lf ∧
      ∀ e W' vs, Below W.heap.size W W' → RelL O e W' (opsL L' xs) vs → ∃ r : Loop, W'.heap[l]? = some (Obj.loop r) ∧ vs.toArray.size = r.params.size ∧
        RoundIn Fence.wide 0 P l r.fn ((r.params.zip vs.toArray).foldl (fun t (p, v) => t.setIfInBounds p v) r.tmps) r.assign r.body W'
          (fun en W'' => (en = .returned (.bool true) ∧ J' W'') ∨ (en = .returned (.bool false) ∧ Jx W''))) k L H)
    (hpost : ∀ (b : Bool) (W' : World), DL (Γit P τ τok (fun _ => False) W' N) (pre ++ ⟨some d, .call { callee := .value (.tmp fy), args := xs.toArray, argTypes := ts }, ty, pos, af, none⟩ :: post) post (fun _ L' H' => H' = [] ∧ Kepts L' (Lp b) ∧ flatB (Lp b) = true) 0 ((d, .d (.bool b)) :: Lf) [])
    (hR : ∀ (b : Bool) a' W', Flat N (Lp b) a' → (∃ W1, Below W1.heap.size W1 W' ∧ ((b = true ∧ J' W1) ∨ (b = false ∧ Jx W1))) → R .normal a' W') :
    DWr (Γit P τ τok O W N) (.region id (pre ++ ⟨some d, .call { callee := .value (.tmp fy), args := xs.toArray, argTypes := ts }, ty, pos, af, none⟩ :: post).toArray false) R k L H := by
  intro e a w m
  refine wpIn_region_lit ?_
  refine wpList_app (Q := lift (Γit P τ τok O W N) (onNormal _)) ?_ letsOut_lift _ ?_ pre hn a w (hpre e a w m)
  · rintro c a' w' (⟨_, _, _, _, _, hx, _⟩ | ⟨_, _, _, _, hv, _⟩)
    · cases hx
    · exact hv.elim
  rintro a' w' (⟨k', L', H', e', m', _, hy, hok, hkf, hround⟩ | ⟨_, _, _, hx, _⟩)
  rotate_left
  · cases hx
  have hfl := m'.flatten hkf hf
  unfold wpListIn
  rw [if_pos (by rfl)]
  refine ⟨fun _ _ => trivial, ?_⟩
  rw [Oper.semAt_eq _ _ _ (by intro c h; cases h)]
  have hyv : a'.eval (.tmp fy) = .func (.yield l) #[] #[] := by
    have h1 := m'.slot fy
    rw [hy] at h1
    exact h1
  have hb := m'.toHeap.it_below
  obtain ⟨r, h1, h2, h3⟩ := hround e' w' (xs.map a'.eval) hb (RelL.keep (Nat.le_refl _) (fun _ _ _ => rfl) (fun b _ hx => .inl hx) _ _ (opsL_rel m' xs hok))
  have hrun : (execOp a'.eval ⟨some d, .call { callee := .value (.tmp fy), args := xs.toArray, argTypes := ts }, ty, pos, af, none⟩).run P w' =
      .ok (.round l r.fn ((r.params.zip (xs.map a'.eval).toArray).foldl (fun t (p, v) => t.setIfInBounds p v) r.tmps) r.assign r.body) w' := by
    simp only [execOp, resolve]
    simp only [hyv]
    have := run_yield (P := P) (w := w') h1 h2
    simp [Deferred.ofValue, invoke, this]
  rw [hrun]
  rw [Oper.uponIn_round]
  refine ⟨depth_wideR, h3.mono ?_⟩
  have fin : ∀ (b : Bool) W1, ((b = true ∧ J' W1) ∨ (b = false ∧ Jx W1)) → wpListIn (wideR none) 0 P (pre ++ ⟨some d, .call { callee := .value (.tmp fy), args := xs.toArray, argTypes := ts }, ty, pos, af, none⟩ :: post).toArray R post (a'.put (some d) (.bool b)) W1 := by
    intro b W1 hj
    have m2 : Models (Γit P τ τok (fun _ => False) W1 N) (lo 0) ((d, .d (.bool b)) :: Lf) [] ⟨fun _ => 0, fun _ => undef, lo 0⟩ (a'.put (some d) (.bool b)) W1 :=
      (hfl.models W1 (fun _ h => h.elim)).put (s := .d (.bool b)) hdN RepC.bool
    have := wpList_app (ro := none) (Q := lift (Γit P τ τok (fun _ => False) W1 N) (onNormal _)) (Q' := R) ?_ letsOut_lift [] ?_ post hnp _ _ (hpost b W1 _ _ _ m2)
    · rw [List.append_nil] at this; exact this
    · rintro c a' w' (⟨_, _, _, _, _, hx, _⟩ | ⟨_, _, _, _, hv, _⟩)
      · cases hx
      · exact hv.elim
    · rintro a3 w3 (⟨k3, L3, H3, e3, m3, _, rfl, hk3, hf3⟩ | ⟨_, _, _, hx, _⟩)
      · exact hR b a3 w3 (m3.flatten hk3 hf3) ⟨W1, m3.toHeap.it_below, hj⟩
      · cases hx
  rintro en W1 (⟨rfl, hj⟩ | ⟨rfl, hj⟩)
  · exact fin true W1 (.inl ⟨rfl, hj⟩)
  · exact fin false W1 (.inr ⟨rfl, hj⟩)
/-- .. with the operations as they stand. -/
theorem dwr_yieldL {P : Program} {τ : List (Nat × TI)} {τok : TabOk P τ} {O : Nat → Prop} {W : World} {N : Nat} {k : Nat} {L : Sl} {H : Hp} {R : Exit → Act → World → Prop}
    {id l d : Nat} {xs : List Operand} {ts : Array TypeId} {ty : TypeId} {pos : String} {af : Array Edge} {ops pre post : List Oper} {fy : Nat} (hl : ops = pre ++ ⟨some d, .call { callee := .value (.tmp fy), args := xs.toArray, argTypes := ts }, ty, pos, af, none⟩ :: post)
    (hn : noDefer pre = true) (hnp : noDefer post = true) (hdN : Nat.blt d N = true) (Lf : Sl) (hf : flatB Lf = true) (Lp : Bool → Sl)
    (J' Jx : World → Prop)
    (hpre : DS false (Γit P τ τok O W N) ops pre (fun _ L' _ => L'.get fy = .val (.func (.yield l) #[] #[]) ∧ opsOk xs = true ∧ Kepts L' Lf ∧
      ∀ e W' vs, Below W.heap.size W W' → RelL O e W' (opsL L' xs) vs → ∃ r : Loop, W'.heap[l]? = some (Obj.loop r) ∧ vs.toArray.size = r.params.size ∧
        RoundIn Fence.wide 0 P l r.fn ((r.params.zip vs.toArray).foldl (fun t (p, v) => t.setIfInBounds p v) r.tmps) r.assign r.body W'
          (fun en W'' => (en = .returned (.bool true) ∧ J' W'') ∨ (en = .returned (.bool false) ∧ Jx W''))) k L H)
    (hpost : ∀ (b : Bool) (W' : World), DS false (Γit P τ τok (fun _ => False) W' N) ops post (fun _ L' H' => H' = [] ∧ Kepts L' (Lp b) ∧ flatB (Lp b) = true) 0 ((d, .d (.bool b)) :: Lf) [])
    (hR : ∀ (b : Bool) a' W', Flat N (Lp b) a' → (∃ W1, Below W1.heap.size W1 W' ∧ ((b = true ∧ J' W1) ∨ (b = false ∧ Jx W1))) → R .normal a' W') :
    DWr (Γit P τ τok O W N) (.region id ops.toArray false) R k L H := by
  subst hl
  exact dwr_yield hn hnp (Nat.le_of_ble_eq_true hdN) Lf hf Lp J' Jx hpre hpost hR
end Go.Proofs.Ytapciiffpnociaa

/- The table of the types of this seat's translation, as the data logic reads it; it is borne out by the program. Condition: none. -/
namespace Go.Proofs.Ytapciiffpnociaa
open Go
def tab : List (Nat × TI) := [
  (2, ⟨.int .i64, 1, 8, [.int .i64 0], false⟩),
  (3, ⟨.int .i64, 1, 8, [.int .i64 0], false⟩),
  (4, ⟨.bool, 1, 1, [.bool false], false⟩),
  (5, ⟨.int .u8, 1, 1, [.int .u8 0], false⟩),
  (6, ⟨.int .u8, 1, 1, [.int .u8 0], false⟩),
  (7, ⟨.struct [(0, 2, 1), (1, 3, 1), (2, 4, 1), (3, 6, 1)], 4, 24, [.int .i64 0, .int .i64 0, .bool false, .int .u8 0], true⟩),
  (8, ⟨.struct [(0, 2, 1), (1, 3, 1), (2, 4, 1), (3, 6, 1)], 4, 24, [.int .i64 0, .int .i64 0, .bool false, .int .u8 0], true⟩),
  (9, ⟨.str, 1, 16, [.string ⟨#[]⟩], false⟩),
  (10, ⟨.str, 1, 16, [.string ⟨#[]⟩], false⟩),
  (11, ⟨.str, 1, 16, [.string ⟨#[]⟩], false⟩),
  (12, ⟨.int .u64, 1, 8, [.int .u64 0], false⟩),
  (13, ⟨.struct [(0, 9, 1), (1, 12, 1)], 2, 24, [.string ⟨#[]⟩, .int .u64 0], false⟩),
  (14, ⟨.struct [(0, 9, 1), (1, 12, 1)], 2, 24, [.string ⟨#[]⟩, .int .u64 0], false⟩),
  (15, ⟨.ptr 268, 1, 8, [.pointer none], false⟩),
  (16, ⟨.ptr 271, 1, 8, [.pointer none], false⟩),
  (17, ⟨.ptr 279, 1, 8, [.pointer none], false⟩),
  (18, ⟨.struct [(0, 17, 1)], 1, 8, [.pointer none], false⟩),
  (19, ⟨.struct [(0, 17, 1)], 1, 8, [.pointer none], false⟩),
  (21, ⟨.int .i32, 1, 4, [.int .i32 0], false⟩),
  (22, ⟨.slice 34, 1, 24, [.slice none 0 0], false⟩),
  (23, ⟨.int .i64, 1, 8, [.int .i64 0], false⟩),
  (33, ⟨.struct [(0, 3, 1), (1, 3, 1), (2, 9, 1)], 3, 32, [.int .i64 0, .int .i64 0, .string ⟨#[]⟩], true⟩),
  (34, ⟨.struct [(0, 3, 1), (1, 3, 1), (2, 9, 1)], 3, 32, [.int .i64 0, .int .i64 0, .string ⟨#[]⟩], true⟩),
  (35, ⟨.struct [(0, 3, 1), (1, 3, 1)], 2, 16, [.int .i64 0, .int .i64 0], true⟩),
  (36, ⟨.struct [(0, 3, 1), (1, 3, 1)], 2, 16, [.int .i64 0, .int .i64 0], true⟩),
  (37, ⟨.slice 36, 1, 24, [.slice none 0 0], false⟩),
  (38, ⟨.slice 89, 1, 24, [.slice none 0 0], false⟩),
  (39, ⟨.struct [(0, 36, 2), (2, 37, 1), (3, 38, 1), (4, 37, 1)], 5, 88, [.int .i64 0, .int .i64 0, .slice none 0 0, .slice none 0 0, .slice none 0 0], true⟩),
  (40, ⟨.struct [(0, 36, 2), (2, 37, 1), (3, 38, 1), (4, 37, 1)], 5, 88, [.int .i64 0, .int .i64 0, .slice none 0 0, .slice none 0 0, .slice none 0 0], true⟩),
  (48, ⟨.slice 3, 1, 24, [.slice none 0 0], false⟩),
  (49, ⟨.slice 9, 1, 24, [.slice none 0 0], false⟩),
  (50, ⟨.slice 143, 1, 24, [.slice none 0 0], false⟩),
  (51, ⟨.struct [(0, 48, 1), (1, 49, 1), (2, 50, 1)], 3, 72, [.slice none 0 0, .slice none 0 0, .slice none 0 0], true⟩),
  (52, ⟨.struct [(0, 48, 1), (1, 49, 1), (2, 50, 1)], 3, 72, [.slice none 0 0, .slice none 0 0, .slice none 0 0], true⟩),
  (55, ⟨.slice 4, 1, 24, [.slice none 0 0], false⟩),
  (71, ⟨.slice 40, 1, 24, [.slice none 0 0], false⟩),
  (72, ⟨.struct [(0, 71, 1), (1, 71, 1)], 2, 48, [.slice none 0 0, .slice none 0 0], true⟩),
  (73, ⟨.struct [(0, 71, 1), (1, 71, 1)], 2, 48, [.slice none 0 0, .slice none 0 0], true⟩),
  (88, ⟨.struct [(0, 3, 1), (1, 48, 1)], 2, 32, [.int .i64 0, .slice none 0 0], true⟩),
  (89, ⟨.struct [(0, 3, 1), (1, 48, 1)], 2, 32, [.int .i64 0, .slice none 0 0], true⟩),
  (97, ⟨.ptr 99, 1, 8, [.pointer none], false⟩),
  (98, ⟨.struct [(0, 9, 1), (1, 3, 1)], 2, 24, [.string ⟨#[]⟩, .int .i64 0], true⟩),
  (99, ⟨.struct [(0, 9, 1), (1, 3, 1)], 2, 24, [.string ⟨#[]⟩, .int .i64 0], true⟩),
  (106, ⟨.ptr 109, 1, 8, [.pointer none], false⟩),
  (107, ⟨.slice 5, 1, 24, [.slice none 0 0], false⟩),
  (108, ⟨.struct [(0, 107, 1)], 1, 24, [.slice none 0 0], true⟩),
  (109, ⟨.struct [(0, 107, 1)], 1, 24, [.slice none 0 0], true⟩),
  (113, ⟨.ptr 115, 1, 8, [.pointer none], false⟩),
  (114, ⟨.struct [(0, 9, 1), (1, 4, 1)], 2, 24, [.string ⟨#[]⟩, .bool false], true⟩),
  (115, ⟨.struct [(0, 9, 1), (1, 4, 1)], 2, 24, [.string ⟨#[]⟩, .bool false], true⟩),
  (127, ⟨.struct [(0, 9, 1), (1, 3, 1), (2, 4, 1)], 3, 32, [.string ⟨#[]⟩, .int .i64 0, .bool false], true⟩),
  (128, ⟨.struct [(0, 9, 1), (1, 3, 1), (2, 4, 1)], 3, 32, [.string ⟨#[]⟩, .int .i64 0, .bool false], true⟩),
  (140, ⟨.slice 190, 1, 24, [.slice none 0 0], false⟩),
  (141, ⟨.slice 147, 1, 24, [.slice none 0 0], false⟩),
  (142, ⟨.struct [(0, 3, 1), (1, 140, 1), (2, 3, 1), (3, 141, 1), (4, 3, 1)], 5, 72, [.int .i64 0, .slice none 0 0, .int .i64 0, .slice none 0 0, .int .i64 0], true⟩),
  (143, ⟨.struct [(0, 3, 1), (1, 140, 1), (2, 3, 1), (3, 141, 1), (4, 3, 1)], 5, 72, [.int .i64 0, .slice none 0 0, .int .i64 0, .slice none 0 0, .int .i64 0], true⟩),
  (146, ⟨.struct [(0, 3, 1), (1, 3, 1), (2, 3, 1), (3, 140, 1)], 4, 48, [.int .i64 0, .int .i64 0, .int .i64 0, .slice none 0 0], true⟩),
  (147, ⟨.struct [(0, 3, 1), (1, 3, 1), (2, 3, 1), (3, 140, 1)], 4, 48, [.int .i64 0, .int .i64 0, .int .i64 0, .slice none 0 0], true⟩),
  (150, ⟨.slice 73, 1, 24, [.slice none 0 0], false⟩),
  (169, ⟨.ptr 171, 1, 8, [.pointer none], false⟩),
  (170, ⟨.struct [(0, 169, 1), (1, 107, 1)], 2, 32, [.pointer none, .slice none 0 0], true⟩),
  (171, ⟨.struct [(0, 169, 1), (1, 107, 1)], 2, 32, [.pointer none, .slice none 0 0], true⟩),
  (178, ⟨.int .u32, 1, 4, [.int .u32 0], false⟩),
  (179, ⟨.int .u64, 1, 8, [.int .u64 0], false⟩),
  (180, ⟨.ptr 128, 1, 8, [.pointer none], false⟩),
  (189, ⟨.struct [(0, 3, 1), (1, 3, 1)], 2, 16, [.int .i64 0, .int .i64 0], true⟩),
  (190, ⟨.struct [(0, 3, 1), (1, 3, 1)], 2, 16, [.int .i64 0, .int .i64 0], true⟩),
  (199, ⟨.map 36 3, 1, 8, [.map none], false⟩),
  (204, ⟨.ptr 73, 1, 8, [.pointer none], false⟩),
  (210, ⟨.slice 38, 1, 24, [.slice none 0 0], false⟩),
  (215, ⟨.ptr 5, 1, 8, [.pointer none], false⟩),
  (222, ⟨.slice 71, 1, 24, [.slice none 0 0], false⟩),
  (226, ⟨.ptr 228, 1, 8, [.pointer none], false⟩),
  (227, ⟨.struct [(0, 71, 1), (1, 199, 1)], 2, 32, [.slice none 0 0, .map none], true⟩),
  (228, ⟨.struct [(0, 71, 1), (1, 199, 1)], 2, 32, [.slice none 0 0, .map none], true⟩),
  (246, ⟨.int .i64, 1, 8, [.int .i64 0], false⟩),
  (254, ⟨.int .u64, 1, 8, [.int .u64 0], false⟩),
  (255, ⟨.slice 37, 1, 24, [.slice none 0 0], false⟩),
  (258, ⟨.int .u64, 1, 8, [.int .u64 0], false⟩),
  (262, ⟨.ptr 3, 1, 8, [.pointer none], false⟩),
  (264, ⟨.ptr 258, 1, 8, [.pointer none], false⟩),
  (267, ⟨.struct [(0, 17, 1), (1, 17, 1), (2, 17, 1), (3, 9, 1)], 4, 40, [.pointer none, .pointer none, .pointer none, .string ⟨#[]⟩], false⟩),
  (268, ⟨.struct [(0, 17, 1), (1, 17, 1), (2, 17, 1), (3, 9, 1)], 4, 40, [.pointer none, .pointer none, .pointer none, .string ⟨#[]⟩], false⟩),
  (270, ⟨.struct [(0, 269, 0)], 0, 0, [], false⟩),
  (271, ⟨.struct [(0, 269, 0)], 0, 0, [], false⟩),
  (273, ⟨.int .u8, 1, 1, [.int .u8 0], false⟩),
  (274, ⟨.int .u8, 1, 1, [.int .u8 0], false⟩),
  (276, ⟨.int .i32, 1, 4, [.int .i32 0], false⟩),
  (277, ⟨.int .i32, 1, 4, [.int .i32 0], false⟩),
  (278, ⟨.struct [(0, 12, 1), (1, 12, 1), (2, 178, 1), (3, 273, 1), (4, 5, 1), (5, 5, 1), (6, 274, 1), (7, 275, 1), (8, 215, 1), (9, 276, 1), (10, 277, 1)], 11, 48, [.int .u64 0, .int .u64 0, .int .u32 0, .int .u8 0, .int .u8 0, .int .u8 0, .int .u8 0, .nilFunc, .pointer none, .int .i32 0, .int .i32 0], false⟩),
  (279, ⟨.struct [(0, 12, 1), (1, 12, 1), (2, 178, 1), (3, 273, 1), (4, 5, 1), (5, 5, 1), (6, 274, 1), (7, 275, 1), (8, 215, 1), (9, 276, 1), (10, 277, 1)], 11, 48, [.int .u64 0, .int .u64 0, .int .u32 0, .int .u8 0, .int .u8 0, .int .u8 0, .int .u8 0, .nilFunc, .pointer none, .int .i32 0, .int .i32 0], false⟩)]
theorem tab_ok : TabOk Try.prog tab := by
  unfold TabOk
  kernel_rfl
end Go.Proofs.Ytapciiffpnociaa

/- Plain words on tokens of a text: no program in sight. Condition: none. -/
namespace Go.Proofs.Ytapciiffpnociaa

def smallB (c : UInt8) : Bool := decide ((97:Int) ≤ c.toNat) && decide ((c.toNat:Int) ≤ 122)
def greatB (c : UInt8) : Bool := decide ((65:Int) ≤ c.toNat) && decide ((c.toNat:Int) ≤ 90)
def digitB (c : UInt8) : Bool := decide ((48:Int) ≤ c.toNat) && decide ((c.toNat:Int) ≤ 57)
def letterB (c : UInt8) : Bool := smallB c || greatB c
def alnumB (c : UInt8) : Bool := letterB c || digitB c

def takeW (p : UInt8 → Bool) : List UInt8 → Nat
  | [] => 0
  | c :: l => if p c then takeW p l + 1 else 0

theorem takeW_le (p : UInt8 → Bool) : ∀ l, takeW p l ≤ l.length
  | [] => Nat.le_refl _
  | c :: l => by
    unfold takeW
    have := takeW_le p l
    split <;> simp <;> omega

theorem takeW_step (p : UInt8 → Bool) (l : List UInt8) (i : Nat) (h : i < l.length) (hp : p l[i] = true) : takeW p (l.drop i) = takeW p (l.drop (i + 1)) + 1 := by
  rw [List.drop_eq_getElem_cons h, takeW, if_pos hp]
theorem takeW_stop (p : UInt8 → Bool) (l : List UInt8) (i : Nat) (h : i < l.length) (hp : p l[i] = false) : takeW p (l.drop i) = 0 := by
  rw [List.drop_eq_getElem_cons h, takeW, if_neg (by rw [hp]; exact Bool.false_ne_true)]
theorem takeW_end (p : UInt8 → Bool) (l : List UInt8) (i : Nat) (h : l.length ≤ i) : takeW p (l.drop i) = 0 := by
  rw [List.drop_of_length_le h]; rfl

def signs : List UInt8 := [40, 41, 44, 46, 60, 61, 43, 45, 42]

def pairB : List UInt8 → Bool
  | a :: b :: _ => (a == 58 && b == 45) || (a == 60 && b == 61) || (a == 33 && b == 61)
  | _ => false

/-- The token that begins a text: its kind, how long it is; 0: none does. -/
def tokAt : List UInt8 → Int × Nat
  | [] => (0, 0)
  | c :: l => if letterB c then (if smallB c then 1 else 2, 1 + takeW alnumB l)
    else if digitB c then (3, 1 + takeW digitB l)
    else if pairB (c :: l) then (4, 2)
    else if signs.contains c then (4, 1)
    else (0, 0)

structure Tok where
  kind : Int
  at_ : Int
  text : ByteArray

def sameAll {α : Type} (p : α → α → Bool) : List α → List α → Bool
  | [], [] => true
  | x :: xs, y :: ys => p x y && sameAll p xs ys
  | _, _ => false
theorem sameAll_drop {α : Type} (p : α → α → Bool) (xs ys : List α) (k : Nat) (h1 : k < xs.length) (h2 : k < ys.length) :
    sameAll p (xs.drop k) (ys.drop k) = (p xs[k] ys[k] && sameAll p (xs.drop (k + 1)) (ys.drop (k + 1))) := by
  rw [List.drop_eq_getElem_cons h1, List.drop_eq_getElem_cons h2]; rfl
theorem sameAll_end {α : Type} (p : α → α → Bool) (xs ys : List α) (k : Nat) (h1 : xs.length ≤ k) (h2 : ys.length ≤ k) :
    sameAll p (xs.drop k) (ys.drop k) = true := by
  rw [List.drop_of_length_le h1, List.drop_of_length_le h2]; rfl
theorem sameAll_len {α : Type} (p : α → α → Bool) : ∀ (xs ys : List α), xs.length ≠ ys.length → sameAll p xs ys = false
  | [], [], h => absurd rfl h
  | [], _ :: _, _ => rfl
  | _ :: _, [], _ => rfl
  | x :: xs, y :: ys, h => by rw [sameAll, sameAll_len p xs ys (fun e => h (by simp [e])), Bool.and_false]
def Tok.same (at_ : Bool) (x y : Tok) : Bool := decide (x.kind = y.kind) && decide (x.text = y.text) && (!at_ || decide (x.at_ = y.at_))

theorem tokAt_cons (c : UInt8) (l : List UInt8) : tokAt (c :: l) = (if letterB c then (if smallB c then 1 else 2, 1 + takeW alnumB l)
    else if digitB c then (3, 1 + takeW digitB l)
    else if pairB (c :: l) then (4, 2)
    else if signs.contains c then (4, 1)
    else (0, 0)) := rfl
theorem tokAt_le (l : List UInt8) : (tokAt l).2 ≤ l.length := by
  cases l with
  | nil => simp [tokAt]
  | cons c l =>
    have h1 := takeW_le alnumB l
    have h2 := takeW_le digitB l
    rw [tokAt_cons]
    by_cases a : letterB c = true
    · rw [if_pos a]; simp only [List.length_cons]; omega
    · rw [if_neg a]
      by_cases b : digitB c = true
      · rw [if_pos b]; simp only [List.length_cons]; omega
      · rw [if_neg b]
        by_cases d : pairB (c :: l) = true
        · rw [if_pos d]
          cases l with
          | nil => simp [pairB] at d
          | cons b l => simp
        · rw [if_neg d]
          by_cases e : signs.contains c = true
          · rw [if_pos e]; simp
          · rw [if_neg e]; simp
theorem tokAt_pos (l : List UInt8) (h : (tokAt l).1 ≠ 0) : 1 ≤ (tokAt l).2 := by
  cases l with
  | nil => simp [tokAt] at h
  | cons c l =>
    rw [tokAt_cons] at h ⊢
    by_cases a : letterB c = true
    · rw [if_pos a]; simp
    · rw [if_neg a] at h ⊢
      by_cases b : digitB c = true
      · rw [if_pos b]; simp
      · rw [if_neg b] at h ⊢
        by_cases d : pairB (c :: l) = true
        · rw [if_pos d]; simp
        · rw [if_neg d] at h ⊢
          by_cases e : signs.contains c = true
          · rw [if_pos e]; simp
          · rw [if_neg e] at h; simp at h

/-- What is wrong with a token of a kind, so long, that begins with c: 0: nothing. -/
def tokErr (kind : Int) (n : Nat) (c : UInt8) : Int :=
  if kind = 0 then 1
  else if ((kind = 1 ∨ kind = 2) ∧ 12 < n) ∨ (kind = 3 ∧ 7 < n) then 2
  else if kind = 3 ∧ 1 < n ∧ c = 48 then 1
  else 0

/-- The tokens of a text from a place on; or what is wrong, and where. -/
def scanGo (s : ByteArray) : Nat → Bool → Nat → Except (Int × Int) (List Tok)
  | 0, _, _ => .ok []
  | f + 1, note, i =>
    if h : i < s.size then
      if note || s[i] == 37 then scanGo s f (s[i] != 10) (i + 1)
      else if s[i] == 32 || s[i] == 9 || s[i] == 10 then scanGo s f false (i + 1)
      else
        let q := tokAt (s.data.toList.drop i)
        if tokErr q.1 q.2 s[i] = 0 then (scanGo s f false (i + q.2)).map (Tok.mk q.1 i (s.extract i (i + q.2)) :: ·)
        else .error (i, tokErr q.1 q.2 s[i])
    else .ok []

theorem scanGo_fuel (s : ByteArray) : ∀ (f g : Nat) (note : Bool) (i : Nat), s.size - i ≤ f → s.size - i ≤ g → scanGo s f note i = scanGo s g note i := by
  intro f
  induction f with
  | zero =>
    intro g note i h1 h2
    cases g with
    | zero => rfl
    | succ g => simp only [scanGo]; rw [dif_neg (by omega)]
  | succ f ih =>
    intro g note i h1 h2
    cases g with
    | zero => simp only [scanGo]; rw [dif_neg (by omega)]
    | succ g =>
      simp only [scanGo]
      by_cases h : i < s.size
      · rw [dif_pos h, dif_pos h]
        split
        · exact ih g _ _ (by omega) (by omega)
        · split
          · exact ih g _ _ (by omega) (by omega)
          · split
            · rename_i he
              have hk : (tokAt (s.data.toList.drop i)).1 ≠ 0 := fun h0 => by simp [tokErr, h0] at he
              have := tokAt_pos _ hk
              rw [ih g _ _ (by omega) (by omega)]
            · rfl
      · rw [dif_neg h, dif_neg h]

def scanAt (s : ByteArray) (note : Bool) (i : Nat) : Except (Int × Int) (List Tok) := scanGo s (s.size - i) note i

theorem scanAt_end (s : ByteArray) (note : Bool) (i : Nat) (h : s.size ≤ i) : scanAt s note i = .ok [] := by
  unfold scanAt
  rw [show s.size - i = 0 by omega]; rfl
theorem scanAt_note (s : ByteArray) (note : Bool) (i : Nat) (h : i < s.size) (hn : (note || s[i] == 37) = true) : scanAt s note i = scanAt s (s[i] != 10) (i + 1) := by
  unfold scanAt
  rw [show s.size - i = (s.size - (i + 1)) + 1 by omega, scanGo, dif_pos h, if_pos hn]
theorem scanAt_blank (s : ByteArray) (i : Nat) (h : i < s.size) (hn : (s[i] == 37) = false) (hb : (s[i] == 32 || s[i] == 9 || s[i] == 10) = true) : scanAt s false i = scanAt s false (i + 1) := by
  unfold scanAt
  rw [show s.size - i = (s.size - (i + 1)) + 1 by omega, scanGo, dif_pos h, if_neg (by simp [hn]), if_pos hb]
theorem scanAt_err (s : ByteArray) (i : Nat) (h : i < s.size) (hn : (s[i] == 37) = false) (hb : (s[i] == 32 || s[i] == 9 || s[i] == 10) = false) (he : tokErr (tokAt (s.data.toList.drop i)).1 (tokAt (s.data.toList.drop i)).2 s[i] ≠ 0) :
    scanAt s false i = .error (i, tokErr (tokAt (s.data.toList.drop i)).1 (tokAt (s.data.toList.drop i)).2 s[i]) := by
  unfold scanAt
  rw [show s.size - i = (s.size - (i + 1)) + 1 by omega, scanGo, dif_pos h, if_neg (by simp [hn]), if_neg (by simp [hb])]
  exact if_neg he
theorem scanAt_tok (s : ByteArray) (i : Nat) (h : i < s.size) (hn : (s[i] == 37) = false) (hb : (s[i] == 32 || s[i] == 9 || s[i] == 10) = false) (he : tokErr (tokAt (s.data.toList.drop i)).1 (tokAt (s.data.toList.drop i)).2 s[i] = 0) :
    scanAt s false i = (scanAt s false (i + (tokAt (s.data.toList.drop i)).2)).map (Tok.mk (tokAt (s.data.toList.drop i)).1 i (s.extract i (i + (tokAt (s.data.toList.drop i)).2)) :: ·) := by
  have hk : (tokAt (s.data.toList.drop i)).1 ≠ 0 := fun h0 => by simp [tokErr, h0] at he
  have := tokAt_pos _ hk
  unfold scanAt
  rw [scanGo_fuel s (s.size - i) ((s.size - (i + 1)) + 1) false i (Nat.le_refl _) (by omega)]
  rw [scanGo, dif_pos h, if_neg (by simp [hn]), if_neg (by simp [hb])]
  show (if _ then _ else _) = _
  rw [if_pos he, scanGo_fuel s (s.size - (i + 1)) (s.size - (i + (tokAt (s.data.toList.drop i)).2)) false _ (by omega) (Nat.le_refl _)]

/-- What Scan answers. -/
def scanS (s : ByteArray) : List Tok × Int × Int :=
  if 5000 < s.size then ([], 0, 2) else match scanAt s false 0 with
    | .ok l => (l, 0, 0)
    | .error (p, e) => ([], p, e)

attribute [irreducible] smallB greatB digitB letterB alnumB pairB takeW tokAt tokErr scanGo scanAt scanS sameAll Tok.same
end Go.Proofs.Ytapciiffpnociaa

/- How tokens lie in the program's values. Condition: none. -/
namespace Go.Proofs.Ytapciiffpnociaa
open Go Go.RowKit
def encTok (t : Tok) : List D := [.int .i64 t.kind, .int .i64 t.at_, .str t.text]
def encToks (l : List Tok) : D := .slice 3 (l.map encTok)
abbrev Fn (f : FuncId) (args : List SV) (R : SV → Prop) : Prop := FnP Try.prog tab tab_ok f args R
theorem byteAt (s : ByteArray) (i : Nat) (h : i < s.size) : s.data.toList[i]'(by simpa using h) = s[i]'h := by simp [ByteArray.getElem_eq_getElem_data]
end Go.Proofs.Ytapciiffpnociaa
