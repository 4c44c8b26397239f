/- A plain logic over the walk: rows that lie in owned blocks. No program is named here. Condition: none. -/
import Derived.Test.YtapciiffpnociaaGxDo
namespace Go.Proofs.Ytapciiffpnociaa
open Go Go.RowKit

/-- What is handed back, under new names; what else is owned at the end is let go. -/
def KeptR (J : Nat) (R : Nat → SV → Hp → Prop) (_ : Nat) (r : SV) (H : Hp) : Prop :=
  ∃ (ρ : Nat → Nat) (k2 : Nat) (r2 : SV) (H2 : Hp), r = r2.ren ρ ∧ KnowsH ρ H H2 ∧ Hp.low k2 H2 = true ∧ distinct (H2.map fun p => ρ p.1) = true ∧ distinct (H2.map (·.1)) = true ∧ Nat.ble J k2 = true ∧ anchorOk ρ J = true ∧ r2.low k2 = true ∧ R k2 r2 H2

theorem fn_enterR {P : Program} {τ : List (Nat × TI)} {τok : TabOk P τ} {f : FuncId} {fn : Func} {c : Code} {args : List SV} {J k : Nat} {H : Hp} {R : Nat → SV → Hp → Prop} (N : Nat) (hf : P.funcs[f]? = some fn) (hb : fn.body = some c)
    (hN : args.length + (fn.ntmps - args.length) = N) (hcall : callable P f = true)
    (h : ∀ (O : Nat → Prop) (w0 : World) (E0 : Nat → Prop) (β0 : Nat → Nat), DW ⟨P, τ, τok, O, w0, E0, N, J, β0⟩ c (RetQ τ fn.results.toList (KeptR J R)) k (enumSl 0 args) H) : FnOk P τ τok f args J k H R := by
  have h2 := fn_enter (J := J) (k := k) (H := H) N hf hb hN hcall (R := KeptR J R) h
  refine ⟨h2.1, fun O e w vs hH hr => (h2.2 O e w vs hH hr).mono ?_⟩
  rintro en w' ⟨k', r, H', e', v, ⟨ρ, k2, r2, H2, rfl, hK, hl, hd, hd', hj, ha, hrl, hR⟩, rfl, hH', hrel⟩
  obtain ⟨g1, g2⟩ := hH'.ren ρ k2 H2 hK hl hd hd' hj ha
  exact ⟨k2, r2, H2, e'.ren ρ k2, v, hR, rfl, g1, Rel.keep (Nat.le_refl _) (fun _ _ _ => rfl) (fun b _ hy => g2 b hy) _ _ (Rel.ren ρ k2 r2 v hrl hrel)⟩

theorem set_same {α : Type} {l : List α} {i : Nat} {v : α} (h : l[i]? = some v) : l.set i v = l := by
  apply List.ext_getElem?
  intro j
  rw [List.getElem?_set]
  split
  · rename_i hij
    subst hij
    obtain ⟨h1, h2⟩ := List.getElem?_eq_some_iff.1 h
    rw [if_pos h1, h]
  · rfl

section
variable {Γ : Ctx} {k : Nat} {L : Sl} {H H' : Hp} {Q : Post} {c : Code}

/-- A nil slice in an owned block is an owned row without elements. -/
theorem ent_cellrow (i o : Nat) (te : TypeId) (es : Nat) {tb : TypeId} {cs : List SV} (hH : Hp.get H i = some (.blk tb cs)) (hc : cs[o]? = some .nils) (hS : setF ((k, .row te es []) :: H) i (.blk tb (cs.set o (.row k))) some = some H') : Ent Γ k L H (k + 1) L H' := by
  rw [setF_eq] at hS
  cases hS
  intro e a w m
  have hη : (e.bindRow k (.slice none 0 0)).η k = .slice none 0 0 := if_pos rfl
  have m2 := (m.new (lo_not k) (hb := .row te es []) (e' := e.bindRow k (.slice none 0 0)) (w' := w) (fun i => or_congr (m.top i) Iff.rfl) (e.bindRow_ext _ _ (fun h => lo_not k ((m.top k).1 h))) (Below.refl _ _)
    (fun b hb => by simp [HB.owned, hη, Value.ownBlock] at hb) (fun _ => ⟨[], by rw [hη]; exact World.ownsRow_nil w 0 te es, by simp, by simp, by simp⟩)).cast (with1_lo k)
  have hik : i < k := (m.top i).1 (m.heap _ (Hp.mem_of hH)).1
  have hH2 : Hp.get ((k, .row te es []) :: H) i = some (.blk tb cs) := by
    rw [Hp.get_cons, if_neg (by omega)]; exact hH
  refine ⟨_, m2.turn hH2 (Nat.le_refl _) rfl rfl rfl (fun _ _ _ => rfl) rfl ?_⟩
  obtain ⟨vs, h1, h2, h3⟩ := (m2.heap _ (Hp.mem_of hH2)).2
  refine ⟨vs, h1, ?_, h3⟩
  obtain ⟨v, g1, g2⟩ := RelL.get cs vs h2 o .nils hc
  have g2 : v = .slice none 0 0 := g2
  have := RelL.set cs vs h2 o (.row k) v ⟨(m2.top k).2 (Nat.lt_succ_self k), by rw [hη, g2], by rw [g2]; rfl⟩
  rwa [set_same g1] at this

/-- A row in an owned block is let go: from here on it is data. -/
theorem ent_cellseal (i o j : Nat) {es : Nat} {te tb : TypeId} {cs : List SV} {xs : List (List D)} {H1 : Hp} (hj : Hp.get H j = some (.row te es xs)) (hD : delF H j some = some H1) (hH : Hp.get H1 i = some (.blk tb cs)) (hc : cs[o]? = some (.row j))
    (hS : setF H1 i (.blk tb (cs.set o (.d (.slice es xs)))) some = some H') : Ent Γ k L H k L H' := by
  rw [delF_eq] at hD
  cases hD
  rw [setF_eq] at hS
  cases hS
  intro e a w m
  obtain ⟨m2, _⟩ := m.del j
  have hrow := row_data m hj
  refine ⟨_, m2.turn hH (Nat.le_refl _) rfl rfl rfl (fun _ _ _ => rfl) rfl ?_⟩
  obtain ⟨vs, h1, h2, h3⟩ := (m2.heap _ (Hp.mem_of hH)).2
  refine ⟨vs, h1, ?_, h3⟩
  obtain ⟨v, g1, g2⟩ := RelL.get cs vs h2 o (.row j) hc
  have := RelL.set cs vs h2 o (.d (.slice es xs)) v (by rw [g2.2.1]; exact hrow)
  rwa [set_same g1] at this

/-- What a datum in an owned block tells of itself. -/
theorem dw_lenC (i o : Nat) {tb : TypeId} {cs : List SV} {es : Nat} {xs : List (List D)} (hH : Hp.get H i = some (.blk tb cs)) (hc : cs[o]? = some (.d (.slice es xs))) (hk : xs.length ≤ 9223372036854775807 → DW Γ c Q k L H) : DW Γ c Q k L H := by
  intro e a w m
  obtain ⟨v, _, g2⟩ := HRel.blk_cell (m.heap _ (Hp.mem_of hH)).2 hc
  obtain ⟨ao, cap, _, h1, h2, _⟩ := g2.slice_inv
  exact hk (by unfold maxLen at h2; omega) e a w m
theorem dw_strC (i o : Nat) {tb : TypeId} {cs : List SV} {s : ByteArray} (hH : Hp.get H i = some (.blk tb cs)) (hc : cs[o]? = some (.d (.str s))) (hk : s.size ≤ 9223372036854775807 → DW Γ c Q k L H) : DW Γ c Q k L H := by
  intro e a w m
  obtain ⟨v, _, g2⟩ := HRel.blk_cell (m.heap _ (Hp.mem_of hH)).2 hc
  have g2 : RepC (Γ.X e H) w v (.str s) := g2
  cases g2 with
  | str h2 => exact hk (by unfold maxLen at h2; omega) e a w m

/-- A nil slice in an owned block is data without elements. -/
theorem ent_cellnil (i o es : Nat) {tb : TypeId} {cs : List SV} (hH : Hp.get H i = some (.blk tb cs)) (hc : cs[o]? = some .nils) (hS : setF H i (.blk tb (cs.set o (.d (.slice es [])))) some = some H') : Ent Γ k L H k L H' := by
  rw [setF_eq] at hS
  cases hS
  intro e a w m
  refine ⟨_, m.turn hH (Nat.le_refl _) rfl rfl rfl (fun _ _ _ => rfl) rfl ?_⟩
  obtain ⟨vs, h1, h2, h3⟩ := (m.heap _ (Hp.mem_of hH)).2
  refine ⟨vs, h1, ?_, h3⟩
  obtain ⟨v, g1, g2⟩ := RelL.get cs vs h2 o .nils hc
  have g2 : v = .slice none 0 0 := g2
  have := RelL.set cs vs h2 o (.d (.slice es [])) v (by rw [g2]; exact .nil)
  rwa [set_same g1] at this

/-- A nil slice in a slot is an owned row without elements. -/
theorem ent_nilrow {t : Nat} (te : TypeId) (es : Nat) (h : L.get t = .nils) : Ent Γ k L H (k + 1) ((t, .row k) :: L) ((k, .row te es []) :: H) := by
  intro e a w m
  have hη : (e.bindRow k (.slice none 0 0)).η k = .slice none 0 0 := if_pos rfl
  have m2 := (m.new (lo_not k) (hb := .row te es []) (e' := e.bindRow k (.slice none 0 0)) (w' := w) (fun i => or_congr (m.top i) Iff.rfl) (e.bindRow_ext _ _ (fun h => lo_not k ((m.top k).1 h))) (Below.refl _ _)
    (fun b hb => by simp [HB.owned, hη, Value.ownBlock] at hb) (fun _ => ⟨[], by rw [hη]; exact World.ownsRow_nil w 0 te es, by simp, by simp, by simp⟩)).cast (with1_lo k)
  refine ⟨_, ⟨m2.toHeap, m2.defers, m2.len, fun t' => ?_⟩⟩
  rw [Sl.get_cons]
  split
  · rename_i ht
    subst ht
    have hs := m.slot t
    rw [h] at hs
    refine ⟨.inr rfl, ?_⟩
    have hs : a.tmps.getD t undef = .slice none 0 0 := hs
    exact ⟨hs.trans hη.symm, by rw [hs]; rfl⟩
  · exact m2.slot t'

/-- A row in a slot is let go. -/
theorem ent_seal {i es : Nat} {te : TypeId} {xs : List (List D)} (t : Nat) (hL : L.get t = .row i) (hH : Hp.get H i = some (.row te es xs)) (hD : delF H i some = some H') : Ent Γ k L H k ((t, .d (.slice es xs)) :: L) H' := by
  rw [delF_eq] at hD
  cases hD
  intro e a w m
  obtain ⟨m2, _⟩ := m.del i
  refine ⟨e, ⟨m2.toHeap, m2.defers, m2.len, fun t' => ?_⟩⟩
  rw [Sl.get_cons]
  split
  · rename_i ht
    subst ht
    have hs := m.slot t
    rw [hL] at hs
    rw [hs.2.1]
    exact row_data m hH
  · exact m2.slot t'
/-- A nil slice in a slot is data without elements. -/
theorem ent_nild (t es : Nat) (hL : L.get t = .nils) : Ent Γ k L H k ((t, .d (.slice es [])) :: L) H := by
  intro e a w m
  refine ⟨e, ⟨m.toHeap, m.defers, m.len, fun t' => ?_⟩⟩
  rw [Sl.get_cons]
  split
  · rename_i ht
    subst ht
    have hs := m.slot t
    rw [hL] at hs
    rw [hs]
    exact .nil
  · exact m.slot t'
end
end Go.Proofs.Ytapciiffpnociaa
