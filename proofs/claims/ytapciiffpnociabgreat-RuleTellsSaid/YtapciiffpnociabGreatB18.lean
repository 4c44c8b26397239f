/- Several texts in one: GxRR RuG RuK RelW. Condition: none. -/
import Derived.Test.YtapciiffpnociabGreatB14
import Derived.Test.YtapciiffpnociabGreatB16
import Derived.Test.YtapciiffpnociabGreatB15

/- A plain logic over the walk: an own row held against nil; an own row put behind another one. No program is named here. Condition: none. -/
namespace Go.Proofs.YtapciiffpnociabGreat
open Go Go.RowKit
section
variable {Γ : Ctx} {k : Nat → Prop} {L : Sl} {H : Hp} {a : Act} {w : World} {e : Env} {t t' ty : TypeId} {x y : Operand}
theorem op_append_rowR [NoDr Γ] {d z : Nat} {te t2 tb : TypeId} {pos : String} {af : Array Edge} {g : Option (Nat × Bool)} {i j es : Nat} {xs ys : List (List D)}
    (hz' : ¬ k z) (ht : Γ.sh t = .slice te) (hkn : (Γ.sh te).known = true) (hes : Γ.cells te = es) (hpos : Nat.blt 0 es = true) (hz : Nat.beq (tiGet Γ.τ te).zero.length (Γ.cells te) = true)
    (hx : opSV L x = .row i) (hH : Hp.get H i = some (.row te es xs)) (hy : opSV L y = .row j) (hHj : Hp.get H j = some (.row tb es ys)) (hd : Nat.blt d Γ.n = true)
    (hroom : (xs.length + ys.length) * (tiGet Γ.τ te).bytes ≤ 140737488355328) (h63 : xs.length + ys.length ≤ maxLen) :
    OpOk Γ ⟨some d, .call { callee := .builtin .append, args := #[x, y], argTypes := #[t, t] }, t2, pos, af, g⟩ k L H (with1 k z) ((d, .row z) :: L) ((z, .row te es (xs ++ ys)) :: Hp.del H i) := by
  intro e a w Q m
  have hze : ¬ e.dom z := fun h => hz' ((m.top z).1 h)
  obtain ⟨inf, zv, hi, hzz, hs, hb, hzc⟩ := Ctx.info (Sh.known_ne hkn)
  have hut := Ctx.slice ht
  obtain ⟨_, hvx, _⟩ := evT m hx (cSV_row · _)
  obtain ⟨_, hvy, _⟩ := evT m hy (cSV_row · _)
  obtain ⟨vs, ho, hxe, hone, hrep⟩ := (m.heap _ (Hp.mem_of hH)).2
  obtain ⟨us, hoy, hye, hone2, hrep2⟩ := (m.heap _ (Hp.mem_of hHj)).2
  have hsz : inf.size = es := by rw [hs, hes]
  rw [← hsz] at ho
  have hcase : ∃ v' w', (Builtin.append_ #[t, t] t2 #[e.η i, a.eval y]).run Γ.P w = .ok v' w' ∧ w'.ownsRow 0 te inf.size v' (xs.length + ys.length) (vs ++ us) ∧ w.grownBy w' (e.η i).ownBlock ∧ (∀ c, v'.ownBlock = some c → (e.η i).ownBlock = some c ∨ w.heap.size ≤ c) := by
    rcases hoy.2 with ⟨hv, hl0⟩ | ⟨gb, cap, cur, hv, _⟩
    · have hys : ys = [] := List.eq_nil_of_length_eq_zero hl0
      have hu0 : us = [] := List.eq_nil_of_length_eq_zero (by rw [hoy.1, hl0, Nat.zero_mul])
      rw [hvy, hv, hys, hu0]
      have hrun := run_append_owned_none (P := Γ.P) (w := w) 0 t t2 te inf inf.size hut hi (e.η i) xs.length vs ho
      exact ⟨e.η i, w, hrun, by simpa using ho, ⟨rfl, rfl, rfl, Nat.le_refl _, fun _ _ _ => rfl⟩, fun c hc => .inl hc⟩
    · have hcells : ∀ j u, us[j]? = some u → w.cell? ((⟨gb, 0, none⟩ : Addr).add j) = some u := hoy.cells (g := gb) (by rw [hv]; rfl)
      rw [hvy, hv]
      exact append_own (P := Γ.P) (ty := t2) hut hi hzz (Ctx.zsize hzc hz hs) (by rw [hsz]; exact Nat.le_of_ble_eq_true hpos) ho (c := cap) (by rw [hoy.1, hsz]) hcells hone2 h63 (by rw [hb]; exact hroom)
  obtain ⟨v', w', hrun, hown', hgr, hblk⟩ := hcase
  have hop : (execOp a.eval ⟨some d, .call { callee := .builtin .append, args := #[x, y], argTypes := #[t, t] }, t2, pos, af, g⟩).run Γ.P w = .ok (.value v') w' := by
    simp only [execOp, resolve, invoke, builtin, Sem.run_bind, Sem.run_pure, Result.andThen_ok, List.map_toArray, List.map_cons, List.map_nil, hvx, hrun]
  unfold Oper.wp
  rw [hop]
  have hη : (e.bindRow z v').η z = v' := if_pos rfl
  have hl := ho.1
  have m2 := m.trade (hb := .row te es (xs ++ ys)) hH hz' (e' := e.bindRow z v') (w' := w') (fun i => or_congr (m.top i) Iff.rfl) (e.bindRow_ext _ _ hze) hgr.size hgr.os hgr.tape hgr.output NoDr.any
    (fun c hc hne => hgr.block c hc (fun h => hne (by simp [HB.owned, h]))) (fun c hc => by simp only [HB.owned, hη] at hc; exact hblk c hc) (fun hX => by
      have hkeep : ∀ b, b < w.heap.size → ¬ Γ.X e H b → w'.heap[b]? = w.heap[b]? := fun b hb hx => hgr.block b hb (fun h => hx (.inr (List.mem_filterMap.2 ⟨_, Hp.mem_of hH, by simp [HB.owned, h]⟩)))
      obtain ⟨q1, q2⟩ := rows_append hxe hye (by rw [hl, hsz]) hrep hrep2
      refine ⟨vs ++ us, ?_, q1, fun v hv => ?_, fun i' hi' j hj => ?_⟩
      · rw [hη, List.length_append, ← hsz]; exact hown'
      · rcases List.mem_append.1 hv with hv | hv
        · exact hone v hv
        · exact hone2 v hv
      · obtain ⟨v, p1, p2⟩ := q2 i' hi' j hj
        exact ⟨v, p1, RepC.keep hgr.size hkeep hX p2⟩)
  exact ⟨_, m2.put (s := .row z) (v := v') (Nat.le_of_ble_eq_true hd) ⟨.inr rfl, hη.symm, ownsRow_one hown'⟩⟩
end
section
variable {Γ : Ctx} {k : Nat} {L : Sl} {H : Hp} {K : Next'} {ops : List Oper} {rest : List Oper} {t t' ty : TypeId} {x y : Operand}
theorem ds_append_rowR [NoDr Γ] (j : Nat) {d : Nat} {te t2 tb : TypeId} {pos : String} {af : Array Edge} {g : Option (Nat × Bool)} {i es : Nat} {xs ys : List (List D)} {H' : Hp}
    (ht : Γ.sh t = .slice te) (hkn : (Γ.sh te).known = true) (hes : Γ.cells te = es) (hpos : Nat.blt 0 es = true) (hz : Nat.beq (tiGet Γ.τ te).zero.length (Γ.cells te) = true)
    (hx : opSV L x = .row i) (hH : Hp.get H i = some (.row te es xs)) (hy : opSV L y = .row j) (hHj : Hp.get H j = some (.row tb es ys)) (hw : wantedSV ops L g = some true) (hd : Nat.blt d Γ.n = true)
    (hroom : (xs.length + ys.length) * (tiGet Γ.τ te).bytes ≤ 140737488355328) (h63 : xs.length + ys.length ≤ maxLen) (hD : delF H i some = some H')
    (hk : DS false Γ ops rest K (k + 1) ((d, .row k) :: L) ((k, .row te es (xs ++ ys)) :: H')) :
    DS false Γ ops (⟨some d, .call { callee := .builtin .append, args := #[x, y], argTypes := #[t, t] }, t2, pos, af, g⟩ :: rest) K k L H := by
  rw [delF_eq] at hD
  simp only [Option.some.injEq] at hD
  subst hD
  exact dl_op hw ((op_append_rowR (lo_not k) ht hkn hes hpos hz hx hH hy hHj hd hroom h63).cast (with1_lo k)) hk
theorem ds_eqnilR {d i es : Nat} {te tb : TypeId} {pos : String} {af : Array Edge} {g : Option (Nat × Bool)} {xs : List (List D)} (hx : opSV L x = .row i) (hH : Hp.get H i = some (.row tb es xs)) (hy : opSV L y = .nils) (ht : (tiGet Γ.τ t).sh = .slice te) (hd : Nat.blt d Γ.n = true) (hw : wantedSV ops L g = some true)
    (h1 : xs = [] → DS false Γ ops rest K k ((d, .d (.bool true)) :: L) H) (h2 : DS false Γ ops rest K k ((d, .d (.bool false)) :: L) H) : DS false Γ ops (⟨some d, .binOp .eql t x y t', ty, pos, af, g⟩ :: rest) K k L H := by
  refine dl_run hw fun e a w m => ?_
  obtain ⟨_, hvx, _⟩ := evT m hx (cSV_row · _)
  obtain ⟨us, hown, _⟩ := (m.heap _ (Hp.mem_of hH)).2
  have hvy : a.eval y = .slice none 0 0 := by
    have hok : opOk y := by
      cases y with
      | const v => simp only [opSV] at hy; unfold cSV at hy; split at hy <;> simp_all [opOk, cOk]
      | _ => trivial
    have := m.op y hok
    rw [hy] at this; exact this
  have hv : ∃ ao n cap, e.η i = .slice ao n cap ∧ (ao = none → xs = []) := by
    rcases hown.2 with ⟨hv, h0⟩ | ⟨gb, cap, cur, hv, _⟩
    · exact ⟨_, _, _, hv, fun _ => List.eq_nil_of_length_eq_zero h0⟩
    · exact ⟨_, _, _, hv, fun h => by cases h⟩
  obtain ⟨ao, n, cap, hv, hnone⟩ := hv
  have hrun : (execOp a.eval ⟨some d, .binOp .eql t x y t', ty, pos, af, g⟩).run Γ.P w = .ok (.value (.bool ao.isNone)) w := by
    simp [execOp, hvx, hv, hvy, eqGuard, Lib.run_eql_slice_nil w t te ao n cap 0 0 (Ctx.slice ht)]
  unfold Oper.wp
  rw [hrun]
  cases ao with
  | none => exact ⟨k, _, H, e, m.put (s := .d (.bool true)) (v := .bool true) (Nat.le_of_ble_eq_true hd) .bool, h1 (hnone rfl)⟩
  | some ad => exact ⟨k, _, H, e, m.put (s := .d (.bool false)) (v := .bool false) (Nat.le_of_ble_eq_true hd) .bool, h2⟩
end
end Go.Proofs.YtapciiffpnociabGreat

/- Plain words: ways in order are one list. Condition: none. -/
namespace Go.Proofs.YtapciiffpnociabGreat
def SortW (l : List (List Int)) : Prop := l.Pairwise fun a b => ordL a b ≤ 0
theorem ordL_le_trans {a b c : List Int} (h : ordL a b ≤ 0) (g : ordL b c ≤ 0) : ordL a c ≤ 0 := by
  by_cases h1 : ordL a b = 0
  · rw [ordL_eq0 h1]; exact g
  · by_cases g1 : ordL b c = 0
    · rw [← ordL_eq0 g1]; exact h
    · have := ordL_trans (l := a) (m := b) (n := c) (by omega) (by omega)
      omega
theorem ordL_antisymm {a b : List Int} (h : ordL a b ≤ 0) (g : ordL b a ≤ 0) : a = b := by
  rw [ordL_anti] at g
  exact ordL_eq0 (by omega)
theorem sortW_unique : ∀ {a b : List (List Int)}, SortW a → SortW b → a.Perm b → a = b
  | [], b, _, _, h => by rw [List.nil_perm.1 h]
  | x :: a, b, ha, hb, h => by
    match b, h, hb with
    | [], h, _ => simp at h
    | y :: b, h, hb =>
      obtain ⟨a1, a2⟩ := List.pairwise_cons.1 ha
      obtain ⟨b1, b2⟩ := List.pairwise_cons.1 hb
      have hxy : x = y := by
        rcases List.mem_cons.1 (h.mem_iff.1 List.mem_cons_self) with h1 | h1
        · exact h1
        · rcases List.mem_cons.1 (h.mem_iff.2 (List.mem_cons_self (a := y) (l := b))) with h2 | h2
          · exact h2.symm
          · exact ordL_antisymm (a1 y h2) (b1 x h1)
      subst hxy
      rw [sortW_unique a2 b2 (List.perm_cons x |>.1 h)]
theorem same_members {a b : List (List Int)} (ha : a.Nodup) (hb : b.Nodup) (h : ∀ x, x ∈ a ↔ x ∈ b) : a.Perm b := (List.perm_ext_iff_of_nodup ha hb).2 h
def insOk (o : List (List Int)) (k i : Nat) : Prop := ∀ (p q : Nat) (a b : List Int), p < q → q ≤ i → q ≠ k → o[p]? = some a → o[q]? = some b → ordL a b ≤ 0
def swapW (o : List (List Int)) (k : Nat) (a b : List Int) : List (List Int) := (o.set k a).set (k - 1) b
theorem swapW_get {o : List (List Int)} {k : Nat} {a b : List Int} (hk : 0 < k) (hl : k < o.length) (p : Nat) : (swapW o k a b)[p]? = if p = k - 1 then some b else if p = k then some a else o[p]? := by
  unfold swapW
  by_cases h1 : p = k - 1
  · subst h1; rw [if_pos rfl, List.getElem?_set_self (by rw [List.length_set]; omega)]
  · rw [if_neg h1, List.getElem?_set_ne (Ne.symm h1)]
    by_cases h2 : p = k
    · subst h2; rw [if_pos rfl, List.getElem?_set_self hl]
    · rw [if_neg h2, List.getElem?_set_ne (Ne.symm h2)]
theorem insOk_swap {o : List (List Int)} {k i : Nat} {a b : List Int} (hk : 0 < k) (hl : k < o.length) (hki : k ≤ i) (ha : o[k - 1]? = some a) (hb : o[k]? = some b) (hlt : ordL b a < 0) (h : insOk o k i) : insOk (swapW o k a b) (k - 1) i := by
  intro p q x y hpq hqi hqk hx hy
  rw [swapW_get hk hl] at hx hy
  rw [if_neg hqk] at hy
  by_cases q1 : q = k
  · rw [if_pos q1, Option.some.injEq] at hy
    subst hy
    by_cases p1 : p = k - 1
    · rw [if_pos p1, Option.some.injEq] at hx; subst hx; omega
    · rw [if_neg p1, if_neg (by omega)] at hx
      exact h p (k - 1) x a (by omega) (by omega) (by omega) hx ha
  · rw [if_neg q1] at hy
    by_cases p1 : p = k - 1
    · rw [if_pos p1, Option.some.injEq] at hx; subst hx
      exact h k q b y (by omega) hqi (by omega) hb hy
    · rw [if_neg p1] at hx
      by_cases p2 : p = k
      · rw [if_pos p2, Option.some.injEq] at hx; subst hx
        exact h (k - 1) q a y (by omega) hqi (by omega) ha hy
      · rw [if_neg p2] at hx
        exact h p q x y hpq hqi (by omega) hx hy
theorem swapW_perm {o : List (List Int)} {k : Nat} {a b : List Int} (hk : 0 < k) (ha : o[k - 1]? = some a) (hb : o[k]? = some b) : (swapW o k a b).Perm o := by
  obtain ⟨k, rfl⟩ : ∃ j, k = j + 1 := ⟨k - 1, by omega⟩
  simp only [Nat.add_sub_cancel] at ha
  obtain ⟨h1, h1'⟩ := List.getElem?_eq_some_iff.1 ha
  obtain ⟨h2, h2'⟩ := List.getElem?_eq_some_iff.1 hb
  have ho : o = o.take k ++ a :: b :: o.drop (k + 2) := by
    rw [← h1', ← h2', ← List.drop_eq_getElem_cons h2, ← List.drop_eq_getElem_cons h1, List.take_append_drop]
  have hs : swapW o (k + 1) a b = o.take k ++ b :: a :: o.drop (k + 2) := by
    apply List.ext_getElem?
    intro p
    rw [swapW_get hk h2]
    have ltk : (o.take k).length = k := by rw [List.length_take]; omega
    rcases Nat.lt_trichotomy p k with h | h | h
    · rw [if_neg (by omega), if_neg (by omega), List.getElem?_append_left (by omega), List.getElem?_take_of_lt h]
    · subst h
      rw [if_pos (by omega), List.getElem?_append_right (by omega), ltk, Nat.sub_self]; rfl
    · rw [if_neg (by omega), List.getElem?_append_right (by omega), ltk]
      by_cases hq : p = k + 1
      · subst hq
        rw [if_pos rfl, show k + 1 - k = 1 by omega]; rfl
      · rw [if_neg hq, show p - k = (p - (k + 2)) + 2 by omega]
        simp only [List.getElem?_cons_succ, List.getElem?_drop]
        congr 1; omega
  rw [hs]
  conv => rhs; rw [ho]
  exact List.Perm.append_left _ (List.Perm.swap _ _ _)
theorem insOk_done {o : List (List Int)} {k i : Nat} (h : insOk o k i) (hk : k = 0 ∨ ∃ a b, 0 < k ∧ o[k - 1]? = some a ∧ o[k]? = some b ∧ ¬ ordL b a < 0) : ∀ (p q : Nat) (a b : List Int), p < q → q ≤ i → o[p]? = some a → o[q]? = some b → ordL a b ≤ 0 := by
  intro p q x y hpq hqi hx hy
  by_cases hq : q = k
  · subst hq
    rcases hk with hk | ⟨a, b, hk, ha, hb, hn⟩
    · omega
    · rw [hb, Option.some.injEq] at hy; subst hy
      have h1 : ordL a b ≤ 0 := by rw [ordL_anti]; omega
      by_cases hp : p = q - 1
      · subst hp; rw [ha, Option.some.injEq] at hx; subst hx; exact h1
      · exact ordL_le_trans (h p (q - 1) x a (by omega) (by omega) (by omega) hx ha) h1
  · exact h p q x y hpq hqi hq hx hy
def sortedTo (o : List (List Int)) (i : Nat) : Prop := ∀ (p q : Nat) (a b : List Int), p < q → q < i → o[p]? = some a → o[q]? = some b → ordL a b ≤ 0
theorem sortedTo_ins {o : List (List Int)} {i : Nat} (h : sortedTo o i) : insOk o i i := fun p q a b h1 h2 h3 => h p q a b h1 (by omega)
theorem sortedTo_all {o : List (List Int)} (h : sortedTo o o.length) : SortW o := by
  unfold SortW
  rw [List.pairwise_iff_getElem]
  intro i j hi hj hij
  exact h i j _ _ hij hj (List.getElem?_eq_getElem hi) (List.getElem?_eq_getElem hj)
end Go.Proofs.YtapciiffpnociabGreat

/- Plain words: what a right program's rules are like, and that both find the same ways. Condition: none. -/
namespace Go.Proofs.YtapciiffpnociabGreat
def factE (arity : List Int) (x : Fct) : Int :=
  if inR x.pred 0 ((arity.length : Int) - 1) = false then 5
  else if (x.args.length : Int) ≠ arity.getD x.pred.toNat 0 then 1
  else if x.args.any (fun n => !numB n) then 3
  else 0
structure FctOk (arity : List Int) (x : Fct) : Prop where
  pred : 0 ≤ x.pred ∧ x.pred < arity.length
  len : (x.args.length : Int) = arity.getD x.pred.toNat 0
  nums : ∀ n ∈ x.args, -1000000 ≤ n ∧ n ≤ 1000000
theorem numB_in {n : Int} (h : numB n = true) : -1000000 ≤ n ∧ n ≤ 1000000 := by unfold numB inR at h; simpa using h
theorem factE_ok {arity : List Int} {x : Fct} (h : factE arity x = 0) : FctOk arity x := by
  unfold factE at h
  split at h; · cases h
  rename_i h1
  split at h; · cases h
  rename_i h2
  split at h; · cases h
  rename_i h3
  refine ⟨by unfold inR at h1; simp at h1; omega, by simpa using h2, fun n hn => ?_⟩
  have h3' : x.args.any (fun n => !numB n) = false := by simpa using h3
  rw [List.any_eq_false] at h3'
  have := h3' n hn
  exact numB_in (by simpa using this)
theorem firstL_all0 {α : Type} {f : α → Int} : ∀ {l : List α}, firstL f l = 0 → ∀ x ∈ l, f x = 0
  | [], _, _, h => by simp at h
  | y :: l, h, x, hx => by
    unfold firstL at h
    split at h
    · rename_i h1; exact absurd h h1
    · rename_i h1
      rcases List.mem_cons.1 hx with rfl | hx
      · exact Classical.byContradiction h1
      · exact firstL_all0 h x hx
theorem firstI_all0 {f : Nat → Int} : ∀ {k i : Nat}, firstI f i k = 0 → ∀ j, i ≤ j → j < i + k → f j = 0
  | 0, _, _, j, h1, h2 => by omega
  | k + 1, i, h, j, h1, h2 => by
    unfold firstI at h
    split at h
    · rename_i h3; exact absurd h h3
    · rename_i h3
      by_cases hj : j = i
      · subst hj; exact Classical.byContradiction h3
      · exact firstI_all0 h j (by omega) (by omega)
theorem termE_zero {vars : Int} {t : Trm} (h : termE vars t = 0) : t.var < vars ∧ -1 ≤ t.var ∧ (-1000000 ≤ t.n ∧ t.n ≤ 1000000) := by
  unfold termE at h
  split at h; · cases h
  rename_i h1
  split at h; · cases h
  rename_i h2
  have h1' : inR t.var (-1) (vars - 1) = true := by simpa using h1
  have h3 : numB t.n = true := by
    cases hn : numB t.n with
    | true => rfl
    | false => exact absurd (.inl hn) h2
  unfold inR at h1'
  simp at h1'
  exact ⟨by omega, by omega, numB_in h3⟩
structure RulR (arity : List Int) (r : Rul) : Prop where
  pred : 0 ≤ r.pred ∧ r.pred < arity.length
  tlen : (r.terms.length : Int) = arity.getD r.pred.toNat 0
  vars : 0 ≤ r.vars ∧ r.vars ≤ 8
  terms : ∀ t ∈ r.terms, t.var < r.vars ∧ -1 ≤ t.var ∧ (-1000000 ≤ t.n ∧ t.n ≤ 1000000)
  fold : 0 ≤ r.fold ∧ r.fold ≤ 4
  folded : r.fold ≠ 0 → 0 < r.terms.length ∧ 0 < r.body.length
  body : r.body.length ≤ 4
  lits : ∀ l ∈ r.body, litE arity r.vars l = 0
  safe : safeB r = true
theorem ruleE_right {arity : List Int} {r : Rul} (h : ruleE arity r = 0) : RulR arity r := by
  unfold ruleE at h
  split at h; · cases h
  rename_i h1
  split at h; · cases h
  rename_i h2
  split at h; · cases h
  rename_i h3
  split at h
  · rename_i h4; exact absurd h h4
  rename_i h4
  split at h; · cases h
  rename_i h5
  split at h; · cases h
  rename_i h6
  split at h; · cases h
  rename_i h7
  split at h
  · rename_i h8; exact absurd h h8
  rename_i h8
  split at h; · cases h
  rename_i h9
  have h1' : inR r.pred 0 ((arity.length : Int) - 1) = true := by simpa using h1
  have h3' : inR r.vars 0 8 = true := by simpa using h3
  have h5' : inR r.fold 0 4 = true := by simpa using h5
  unfold inR at h1' h3' h5'
  simp at h1' h3' h5'
  refine ⟨by omega, by simpa using h2, by omega, fun t ht => ?_, by omega, fun hf => ?_, by omega, fun l hl => ?_, by simpa using h9⟩
  · have : firstL (termE r.vars) r.terms = 0 := by unfold termsE at h4; simpa using h4
    exact termE_zero (firstL_all0 this t ht)
  · have : ¬ (r.terms.length = 0 ∨ r.body.length = 0) := fun hc => h6 ⟨hf, hc⟩
    omega
  · have : firstL (litE arity r.vars) r.body = 0 := by simpa using h8
    exact firstL_all0 this l hl
theorem progE_rule {nameB : ByteArray → Bool} {p : Prg} (h : progE nameB p = 0) : (∀ r ∈ p.rules, RulR p.arity r) ∧ (∀ i, 0 ≤ p.arity.getD i 0 ∧ p.arity.getD i 0 ≤ 3) ∧ p.arity.length ≤ 10 ∧ p.rules.length ≤ 12 := by
  unfold progE at h
  split at h; · cases h
  rename_i h1
  split at h; · cases h
  rename_i h2
  split at h
  · rename_i h3; exact absurd h h3
  rename_i h3
  refine ⟨fun r hr => ruleE_right (firstL_all0 h r hr), fun i => ?_, by omega, by omega⟩
  by_cases hi : i < p.names.length
  · have h3' : firstI (nameE nameB p) 0 p.names.length = 0 := by simpa using h3
    have := firstI_all0 h3' i (Nat.zero_le _) (by omega)
    unfold nameE at this
    split at this; · cases this
    rename_i h4
    have h4' : inR (p.arity.getD i 0) 0 3 = true := by simpa using h4
    unfold inR at h4'
    simp only [Bool.and_eq_true, decide_eq_true_eq] at h4'
    exact h4'
  · rw [List.getD, List.getElem?_eq_none (by omega)]
    exact ⟨by simp, by simp⟩
theorem litE_right {arity : List Int} {vars : Int} {l : Ltl} (h : litE arity vars l = 0) : (1 ≤ l.kind ∧ l.kind ≤ 4) ∧ opB l.kind l.op = true ∧ ((l.kind = 1 ∨ l.kind = 2) → (0 ≤ l.pred ∧ l.pred < arity.length) ∧ (l.terms.length : Int) = arity.getD l.pred.toNat 0) ∧ (¬ (l.kind = 1 ∨ l.kind = 2) → l.pred = 0 ∧ (l.terms.length : Int) = l.kind - 1) ∧ ∀ t ∈ l.terms, t.var < vars ∧ -1 ≤ t.var ∧ (-1000000 ≤ t.n ∧ t.n ≤ 1000000) := by
  unfold litE at h
  split at h; · cases h
  rename_i h1
  split at h; · cases h
  rename_i h2
  have h1' : inR l.kind 1 4 = true := by simpa using h1
  unfold inR at h1'
  simp at h1'
  have h2' : opB l.kind l.op = true := by simpa using h2
  split at h
  · rename_i hk
    split at h; · cases h
    rename_i h3
    split at h; · cases h
    rename_i h4
    have h3' : inR l.pred 0 ((arity.length : Int) - 1) = true := by simpa using h3
    unfold inR at h3'
    simp at h3'
    exact ⟨by omega, h2', fun _ => ⟨by omega, by simpa using h4⟩, fun hn => absurd hk hn, fun t ht => termE_zero (firstL_all0 h t ht)⟩
  · rename_i hk
    split at h; · cases h
    rename_i h3
    refine ⟨by omega, h2', fun hc => absurd hc hk, fun _ => ?_, fun t ht => termE_zero (firstL_all0 h t ht)⟩
    exact ⟨Classical.byContradiction fun hc => h3 (.inl hc), Classical.byContradiction fun hc => h3 (.inr hc)⟩
theorem lit_okL {arity : List Int} {vars : Int} {l : Ltl} {S : List Fct} (h : litE arity vars l = 0) (hv : 0 ≤ vars) (hS : ∀ x ∈ S, FctOk arity x) : okL S vars.toNat l := by
  obtain ⟨h1, h2, h3, h4, h5⟩ := litE_right h
  refine ⟨h1, fun t ht => ?_, fun hk => ?_, fun hk => ?_, fun hk x hx hp => ?_⟩
  · have := h5 t ht; unfold okT; omega
  · have := h4 (by omega); omega
  · have := h4 (by omega); omega
  · have g1 := (h3 (.inl hk)).2
    have g2 := (hS x hx).len
    rw [hp] at g2; omega
theorem setT_into {bs cs : List Bool} {t : Trm} (h : leB bs cs) (ht : isT cs t = true) : leB (setT bs t) cs := by
  refine ⟨(setT_len bs t).trans h.1, fun i hi => ?_⟩
  unfold setT at hi
  split at hi
  · exact h.2 i hi
  · rename_i hv
    by_cases hq : t.var.toNat = i
    · subst hq
      unfold isT at ht
      rw [decide_eq_false hv, Bool.false_or] at ht
      exact ht
    · rw [List.getD, List.getElem?_set_ne hq, ← List.getD] at hi
      exact h.2 i hi
theorem setTs_into {cs : List Bool} : ∀ {l : List Trm} {bs : List Bool}, leB bs cs → (∀ t ∈ l, isT cs t = true) → leB (l.foldl setT bs) cs
  | [], _, h, _ => h
  | t :: l, _, h, ht => setTs_into (l := l) (setT_into h (ht t (List.mem_cons_self ..))) fun x hx => ht x (List.mem_cons_of_mem _ hx)
theorem bLit_into {body : List Ltl} {bs cs : List Bool} {l : Ltl} (hl : l ∈ body) (h : leB bs cs) (hc : closedB body cs) : leB (bLit bs l) cs := by
  unfold bLit
  split
  · rename_i hf; exact setTs_into h (hc l hl (fires_mono h hf))
  · exact h
theorem bRound_into {body : List Ltl} {cs : List Bool} (hc : closedB body cs) : ∀ (ls : List Ltl) {bs : List Bool}, (∀ l ∈ ls, l ∈ body) → leB bs cs → leB (bRound ls bs) cs
  | [], _, _, h => h
  | l :: ls, _, hs, h => bRound_into hc ls (fun x hx => hs x (List.mem_cons_of_mem _ hx)) (bLit_into (hs l (List.mem_cons_self ..)) h hc)
theorem bIter_into {body : List Ltl} {cs : List Bool} (hc : closedB body cs) : ∀ (n : Nat) {bs : List Bool}, leB bs cs → leB (bIter body n bs) cs
  | 0, _, h => h
  | n + 1, _, h => bIter_into hc n (bRound_into hc body (fun _ hl => hl) h)
theorem safe_Bd {r : Rul} (h : safeB r = true) : Bd r.body (List.replicate r.vars.toNat false) := by
  intro cs h1 h2 v hv
  refine (bIter_into h2 (r.body.length + 1) h1).2 v ?_
  unfold safeB boundL at h
  rw [List.all_eq_true] at h
  have hl : v < (bIter r.body (r.body.length + 1) (List.replicate r.vars.toNat false)).length := by rw [bIter_len, h1.1]; exact hv
  rw [List.getD, List.getElem?_eq_getElem hl]
  exact h _ (List.getElem_mem hl)
abbrev e0 (v : Nat) : RE := List.replicate v none
theorem hasE_e0 (v : Nat) : hasE (e0 v) = List.replicate v false := by unfold hasE e0; rw [List.map_replicate]; rfl
theorem outE_e0 (v : Nat) : outE (e0 v) = List.replicate v 0 := by unfold outE e0; rw [List.map_replicate]; rfl
def yesOf (body : List Ltl) : List Ltl := body.filter fun l => decide (l.kind = 1)
theorem ways_perm {S : List Fct} {v : Nat} {body : List Ltl} (hS : S.Nodup) (hok : ∀ l ∈ body, okL S v l) (hB : Bd body (List.replicate v false)) :
    (findE S body.length body (e0 v)).Perm (fromE S body (yesOf body) (e0 v)) ∧ (fromE S body (yesOf body) (e0 v)).Nodup ∧ (∀ a, a ∈ fromE S body (yesOf body) (e0 v) ↔ a.length = v ∧ ∀ l ∈ body, holdE S l a = true) := by
  have hl : (e0 v).length = v := List.length_replicate
  have hok' : ∀ l ∈ body, okL S (e0 v).length l := fun l h => by rw [hl]; exact hok l h
  have hB' : Bd body (hasE (e0 v)) := by rw [hasE_e0]; exact hB
  obtain ⟨g1, g2⟩ := fromE_spec S hS body (yesOf body) (e0 v) (fun l h => ⟨(List.mem_filter.1 h).1, of_decide_eq_true (List.mem_filter.1 h).2⟩) hok' hB' (fun l h h1 => .inl (List.mem_filter.2 ⟨h, decide_eq_true h1⟩))
  have g3 := findE_mem S body.length body (e0 v) (Nat.le_refl _) hok' hB'
  have g4 := findE_nodup S hS body.length body (e0 v) (Nat.le_refl _) hok' hB'
  refine ⟨same_members g4 g2 fun a => (g3 a).trans (g1 a).symm, g2, fun a => (g1 a).trans (and_congr_left fun _ => ?_)⟩
  unfold extE
  rw [hl]
  refine ⟨fun h => h.1, fun h => ⟨h, fun u x hx => ?_⟩⟩
  unfold e0 at hx
  rw [List.getElem?_replicate] at hx
  split at hx <;> simp at hx
def waysL (S : List Fct) (v : Nat) (body : List Ltl) : List (List Int) := (fromE S body (yesOf body) (e0 v)).mergeSort fun a b => decide (ordL a b ≤ 0)
theorem waysL_perm (S : List Fct) (v : Nat) (body : List Ltl) : (waysL S v body).Perm (fromE S body (yesOf body) (e0 v)) := List.mergeSort_perm _ _
theorem waysL_sort (S : List Fct) (v : Nat) (body : List Ltl) : SortW (waysL S v body) := by
  have := List.pairwise_mergeSort (le := fun a b => decide (ordL a b ≤ 0)) (fun a b c h g => decide_eq_true (ordL_le_trans (of_decide_eq_true h) (of_decide_eq_true g))) (fun a b => by
    rw [Bool.or_eq_true, decide_eq_true_eq, decide_eq_true_eq, ordL_anti b a]; omega) (fromE S body (yesOf body) (e0 v))
  exact this.imp fun h => of_decide_eq_true h
theorem waysL_eq {S : List Fct} {v : Nat} {body : List Ltl} {o : List (List Int)} (h : SortW o) (hp : o.Perm (fromE S body (yesOf body) (e0 v))) : o = waysL S v body :=
  sortW_unique h (waysL_sort S v body) (hp.trans (waysL_perm S v body).symm)
end Go.Proofs.YtapciiffpnociabGreat

/- BinarySearchFunc over facts, In. Condition: none. -/
namespace Go.Proofs.YtapciiffpnociabGreat
open Go Go.RowKit
attribute [local irreducible] DW DS DL DQ Ev FnOk FnP thenD inBlockD DT
theorem half_u64 (i j : Nat) (h : i + j ≤ 9223372036854775807) : shrN .u64 (IntKind.u64.wrap ((i : Int) + j)) 1 = (((i + j) / 2 : Nat) : Int) := by
  have hw : IntKind.u64.wrap ((i : Int) + j) = (i : Int) + j := by simp [IntKind.wrap, IntKind.bits, IntKind.signed]; omega
  rw [hw]
  unfold shrN
  rw [show (2 : Int) ^ min (1 : Int).toNat IntKind.u64.bits = 2 from by decide, Int.fdiv_eq_ediv_of_nonneg _ (by decide)]
  omega
theorem found_at {l : List Fct} {f : Fct} {i : Nat} (hs : Strict l) (h1 : ∀ p (hp : p < l.length), p < i → ordF l[p] f < 0) (h2 : ∀ p (hp : p < l.length), i ≤ p → 0 ≤ ordF l[p] f) : hasF l f = (if h : i < l.length then decide (ordF l[i] f = 0) else false) := by
  rw [Bool.eq_iff_iff, hasF_iff]
  have hpi := List.pairwise_iff_getElem.1 hs
  constructor
  · intro hm
    obtain ⟨p, hp, rfl⟩ := List.mem_iff_getElem.1 hm
    have hpi' : ¬ p < i := fun h => lt_irrefl (h1 p hp h)
    rw [dif_pos (by omega)]
    by_cases he : p = i
    · subst he; exact decide_eq_true (ordF_self _)
    · have := hpi i p (by omega) hp (by omega)
      have := h2 i (by omega) (Nat.le_refl _)
      omega
  · intro h
    split at h
    · rename_i hi
      rw [← ordF_eq0 (of_decide_eq_true h)]
      exact List.getElem_mem hi
    · cases h
theorem below_step {l : List Fct} {f : Fct} {h i : Nat} (hs : Strict l) (hml : h < l.length) (_ : ∀ p (hp : p < l.length), p < i → ordF l[p] f < 0) (hg : ordF l[h] f < 0) : ∀ p (hp : p < l.length), p < h + 1 → ordF l[p] f < 0 := by
  intro p hp hlt
  by_cases he : p = h
  · subst he; exact hg
  · exact ordF_trans (List.pairwise_iff_getElem.1 hs p h hp hml (by omega)) hg
theorem above_step {l : List Fct} {f : Fct} {h : Nat} (hs : Strict l) (hml : h < l.length) (hg : 0 ≤ ordF l[h] f) : ∀ p (hp : p < l.length), h ≤ p → 0 ≤ ordF l[p] f := by
  intro p hp hlt
  by_cases he : p = h
  · subst he; exact hg
  · have h1 := List.pairwise_iff_getElem.1 hs h p hml hp (by omega)
    have h2 := ordF_anti l[p] l[h]
    exact ordF_le (by omega) hg
set_option maxHeartbeats 8000000 in
theorem bsearch_fn (l : List Fct) (f : Fct) (hl : l.length ≤ 4398046511104) (hs : Strict l) : Fn 219 [.d (.slice 2 (l.map encFct)), elFct f, .fn 115 []] (fun r => ∃ n : Int, r = .tup [.d (.int .i64 n), .d (.bool (hasF l f))]) := by
  refine fnp_enter' _ Tryz.func219 rfl rfl (by kernel_rfl) ?_
  intro O w0 E0 β0
  have ll : (l.map encFct).length = l.length := List.length_map _
  repeat' (first | (apply ds_evC; exact rfl; (with_reducible exact trivial); (with_reducible exact rfl); exact rfl; exact rfl; exact rfl) | apply ds_nil | apply dw_seq2 | (apply ds_region; exact rfl) | apply dw_block | apply thenD_n | (apply ds_newC; exact rfl; (with_reducible exact trivial); exact rfl; exact rfl; exact rfl))
  refine ds_loop (ι := Nat × Nat) (fun x => ⟨1, [(0, .d (.slice 2 (l.map encFct))), (2, .fn 115 []), (4, .loc 0 0), (8, .d (.int .i64 l.length)), (9, .d (.int .i64 x.1)), (10, .d (.int .i64 x.2))], [(0, .blk 95 [.d (.int .i64 f.pred), .d (.slice 1 (f.args.map encI))])]⟩)
    (fun x => x.1 ≤ x.2 ∧ x.2 ≤ l.length ∧ (∀ p (hp : p < l.length), p < x.1 → ordF l[p] f < 0) ∧ (∀ p (hp : p < l.length), x.2 ≤ p → 0 ≤ ordF l[p] f)) (fun x => x.2 - x.1)
    (0, l.length) ⟨Nat.zero_le _, Nat.le_refl _, fun p _ h => absurd h (Nat.not_lt_zero p), fun p hp h => by omega⟩ (ent_ren id ⟨rfl, rfl, rfl, by rw [← ll]; rfl, rfl, by rw [← ll]; rfl, trivial⟩ ⟨rfl, trivial⟩ rfl rfl rfl rfl rfl rfl) ?_
  rintro ⟨i, j⟩ ⟨g1, g2, g3, g4⟩
  dsimp only at g1 g2 g3 g4 ⊢
  by_cases hij : i < j
  · have he := half_u64 i j (by omega)
    have hm1 : i ≤ (i + j) / 2 := by omega
    have hm2 : (i + j) / 2 < j := by omega
    have hml : (i + j) / 2 < l.length := by omega
    have hw := orderF_fn (l[(i + j) / 2]'hml) f
    repeat' ((fail_if_success (apply dw_stopS 5)); (first | (apply ds_evC; exact rfl; (first | (with_reducible exact trivial) | omega); (with_reducible exact rfl); exact rfl; exact rfl; exact rfl) | apply ds_nil | (apply dt_ev; exact rfl; exact rfl; (first | (with_reducible exact trivial) | omega); (first | ((with_reducible apply hv_row); (exact rfl); (omega)) | (with_reducible exact rfl)); exact rfl; exact rfl; exact rfl; exact rfl) | (apply dt_skipD; exact rfl; exact rfl; exact rfl) | (apply dt_nil0; exact rfl; exact rfl; exact rfl; exact rfl) | apply dw_seq2 | (apply ds_region; exact rfl) | (apply dw_any; kernel_rfl; kernel_rfl; exact rfl; exact rfl) | apply dw_block | apply dw_skip | apply dw_exit | apply dw_ret | apply thenD_n | apply thenD_e | (apply inB_e; exact rfl) | (apply dw_condP; exact rfl; all_goals intro hg) | ((fail_if_success (apply dt_known; exact rfl)); apply dt_guardP; exact rfl; exact rfl; exact rfl; all_goals intro hg)))
    all_goals try (exfalso; omega)
    refine dw_ent (k' := 1) (L' := [(11, .d (.int .i64 (((i + j) / 2 : Nat) : Int))), (0, .d (.slice 2 (l.map encFct))), (2, .fn 115 []), (4, .loc 0 0), (8, .d (.int .i64 l.length)), (9, .d (.int .i64 i)), (10, .d (.int .i64 j))]) (H' := [(0, .blk 95 [.d (.int .i64 f.pred), .d (.slice 1 (f.args.map encI))])]) ?_ ?_
    · rw [← he]
      exact ent_ren id ⟨rfl, rfl, rfl, rfl, rfl, rfl, rfl, trivial⟩ ⟨rfl, trivial⟩ rfl rfl rfl rfl rfl rfl
    generalize (i + j) / 2 = h at *
    repeat' (first | (apply ds_evC; exact rfl; (first | (with_reducible exact trivial) | omega); (with_reducible exact rfl); exact rfl; exact rfl; exact rfl) | apply ds_nil | (apply dt_ev; exact rfl; exact rfl; (first | (with_reducible exact trivial) | omega); (first | ((with_reducible apply hv_row); (exact rfl); (omega)) | (with_reducible exact rfl)); exact rfl; exact rfl; exact rfl; exact rfl) | (apply dt_nil0; exact rfl; exact rfl; exact rfl; exact rfl) | apply dw_seq2 | (apply ds_region; exact rfl) | (apply dw_any; kernel_rfl; kernel_rfl; exact rfl; exact rfl) | apply thenD_n | apply inB_n | (apply dt_callV; exact rfl; exact rfl; exact rfl; exact rfl; apply hw; exact rfl; (exact rfl); exact rfl; exact rfl; exact ⟨_, rfl⟩; rintro _ rfl) | (apply dw_condP; exact rfl; all_goals intro hg))
    all_goals try (exfalso; omega)
    all_goals first
      | exact ⟨(h + 1, j), ⟨by dsimp only; omega, g2, below_step hs hml g3 hg, g4⟩, ent_ren id ⟨rfl, rfl, rfl, rfl, rfl, rfl, trivial⟩ ⟨rfl, trivial⟩ rfl rfl rfl rfl rfl rfl, by show j - (h + 1) < j - i; omega⟩
      | exact ⟨(i, h), ⟨hm1, by dsimp only; omega, g3, above_step hs hml (Int.not_lt.1 hg)⟩, ent_ren id ⟨rfl, rfl, rfl, rfl, rfl, rfl, trivial⟩ ⟨rfl, trivial⟩ rfl rfl rfl rfl rfl rfl, by show h - i < j - i; omega⟩
  · have hij' : i = j := by omega
    subst hij'
    have hf := found_at hs g3 g4
    by_cases hil : i < l.length
    · rw [dif_pos hil] at hf
      have hw := orderF_fn l[i] f
      rw [hf]
      repeat' (first | (apply ds_evC; exact rfl; (first | (with_reducible exact trivial) | omega); (with_reducible exact rfl); exact rfl; exact rfl; exact rfl) | apply ds_nil | (apply dt_ev; exact rfl; exact rfl; (first | (with_reducible exact trivial) | omega); (first | ((with_reducible apply hv_row); (first | exact rfl | exact (Int.toNat_of_nonneg (by omega)).symm); (omega)) | (with_reducible exact rfl)); exact rfl; exact rfl; exact rfl; exact rfl) | (apply dt_skipD; exact rfl; exact rfl; exact rfl) | (apply dt_nil0; exact rfl; exact rfl; exact rfl; exact rfl) | apply dw_seq2 | (apply ds_region; exact rfl) | (apply dw_any; kernel_rfl; kernel_rfl; exact rfl; exact rfl) | apply dw_block | apply dw_skip | apply dw_exit | apply dw_ret | apply thenD_n | apply thenD_e | (apply inB_e; exact rfl) | (apply dt_callV; exact rfl; exact rfl; exact rfl; exact rfl; apply hw; exact rfl; (exact rfl); exact rfl; exact rfl; exact ⟨_, rfl⟩; rintro _ rfl) | (apply dw_condP; exact rfl; all_goals intro hg) | ((fail_if_success (apply dt_known; exact rfl)); apply dt_guardP; exact rfl; exact rfl; exact rfl; all_goals intro hg))
      all_goals try (exfalso; omega)
      all_goals exact ⟨.inl rfl, _, rfl, rfl, _, rfl⟩
    · rw [dif_neg hil] at hf
      rw [hf]
      repeat' (first | (apply ds_evC; exact rfl; (first | (with_reducible exact trivial) | omega); (with_reducible exact rfl); exact rfl; exact rfl; exact rfl) | apply ds_nil | (apply dt_ev; exact rfl; exact rfl; (first | (with_reducible exact trivial) | omega); (first | ((with_reducible apply hv_row); (first | exact rfl | exact (Int.toNat_of_nonneg (by omega)).symm); (omega)) | (with_reducible exact rfl)); exact rfl; exact rfl; exact rfl; exact rfl) | (apply dt_skipD; exact rfl; exact rfl; exact rfl) | (apply dt_nil0; exact rfl; exact rfl; exact rfl; exact rfl) | apply dw_seq2 | (apply ds_region; exact rfl) | (apply dw_any; kernel_rfl; kernel_rfl; exact rfl; exact rfl) | apply dw_block | apply dw_skip | apply dw_exit | apply dw_ret | apply thenD_n | apply thenD_e | (apply inB_e; exact rfl) | (apply dw_condP; exact rfl; all_goals intro hg) | ((fail_if_success (apply dt_known; exact rfl)); apply dt_guardP; exact rfl; exact rfl; exact rfl; all_goals intro hg))
      all_goals try (exfalso; omega)
      exact ⟨.inl rfl, _, rfl, rfl, _, rfl⟩
set_option maxHeartbeats 8000000 in
theorem in_fn (l : List Fct) (f : Fct) (hl : l.length ≤ 4398046511104) (hs : Strict l) : Fn 190 [.d (.slice 2 (l.map encFct)), elFct f] (fun r => r = .d (.bool (hasF l f))) := by
  refine fnp_enter' _ Tryz.func190 rfl rfl (by kernel_rfl) ?_
  intro O w0 E0 β0
  have hb := bsearch_fn l f hl hs
  repeat' (first | (apply ds_evC; exact rfl; (with_reducible exact trivial); (with_reducible exact rfl); exact rfl; exact rfl; exact rfl) | apply ds_nil | apply dw_seq2 | (apply ds_region; exact rfl) | apply thenD_n | (apply ds_newC; exact rfl; (with_reducible exact trivial); exact rfl; exact rfl; exact rfl))
  refine ds_call rfl rfl hb rfl rfl rfl ?_
  rintro r ⟨n, rfl⟩
  repeat' (first | (apply ds_evC; exact rfl; (with_reducible exact trivial); (with_reducible exact rfl); exact rfl; exact rfl; exact rfl) | apply ds_nil | apply dw_seq2 | (apply ds_region; exact rfl) | apply dw_ret | apply thenD_n)
  exact ⟨.inl rfl, _, rfl, rfl, rfl⟩
end Go.Proofs.YtapciiffpnociabGreat
