/- Several texts in one: RuH RuGp RuD. Condition: none. -/
import Derived.Test.YtapciiffpnociabGreatB18
import Derived.Test.YtapciiffpnociabGreatB09
import Derived.Test.YtapciiffpnociabGreatB19
import Derived.Test.YtapciiffpnociabGreatB17

/- Plain words: heads of a rule's ways, as the document and the program make them. Condition: none. -/
namespace Go.Proofs.YtapciiffpnociabGreat
def minI (n y : Int) : Int := if y < n then y else n
def maxI (n y : Int) : Int := if n < y then y else n
def minL : List Int → Int
  | [] => 0
  | x :: l => l.foldl minI x
def maxL : List Int → Int
  | [] => 0
  | x :: l => l.foldl maxI x
def stepN (fold : Int) (st : Int × Int) (x : Int) : Int × Int :=
  (if fold = 1 then st.2 + 1 else if fold = 2 then st.1 + x else if st.2 + 1 = 1 ∨ (fold = 3 ∧ x < st.1) ∨ (fold = 4 ∧ st.1 < x) then x else st.1, st.2 + 1)
def foldN (fold : Int) (l : List Int) : Int := (l.foldl (stepN fold) (0, 0)).1
def valP (fold : Int) (l : List Int) : Int := if fold = 1 then l.length else if fold = 3 then minL l else if fold = 4 then maxL l else l.sum
def okP (fold : Int) (l : List Int) : Bool := if fold = 1 ∨ fold = 3 ∨ fold = 4 then true else numB l.sum
theorem stepN_1 : ∀ (l : List Int) (n m : Int), l ≠ [] → (l.foldl (stepN 1) (n, m)).1 = m + l.length
  | [x], n, m, _ => by simp [stepN]
  | x :: y :: l, n, m, _ => by
    rw [List.foldl_cons, show stepN 1 (n, m) x = (m + 1, m + 1) by simp [stepN], stepN_1 (y :: l) _ _ (by simp)]
    simp only [List.length_cons]; omega
theorem stepN_2 : ∀ (l : List Int) (n m : Int), (l.foldl (stepN 2) (n, m)).1 = n + l.sum
  | [], n, m => by simp
  | x :: l, n, m => by
    rw [List.foldl_cons, show stepN 2 (n, m) x = (n + x, m + 1) by simp [stepN], stepN_2 l, List.sum_cons]; omega
theorem stepN_3 : ∀ (l : List Int) (n m : Int), 1 ≤ m → (l.foldl (stepN 3) (n, m)).1 = l.foldl minI n
  | [], n, m, _ => rfl
  | x :: l, n, m, hm => by
    have : stepN 3 (n, m) x = (minI n x, m + 1) := by
      unfold stepN minI
      have : ¬ (m + 1 = 1) := by omega
      simp [this]
    rw [List.foldl_cons, this, stepN_3 l _ _ (by omega), List.foldl_cons]
theorem stepN_4 : ∀ (l : List Int) (n m : Int), 1 ≤ m → (l.foldl (stepN 4) (n, m)).1 = l.foldl maxI n
  | [], n, m, _ => rfl
  | x :: l, n, m, hm => by
    have : stepN 4 (n, m) x = (maxI n x, m + 1) := by
      unfold stepN maxI
      have : ¬ (m + 1 = 1) := by omega
      simp [this]
    rw [List.foldl_cons, this, stepN_4 l _ _ (by omega), List.foldl_cons]
theorem minI_in {P : Int → Prop} : ∀ (l : List Int) (n : Int), P n → (∀ x ∈ l, P x) → P (l.foldl minI n)
  | [], _, h, _ => h
  | x :: l, n, h, hl => by
    rw [List.foldl_cons]
    refine minI_in l _ ?_ fun y hy => hl y (List.mem_cons_of_mem _ hy)
    unfold minI; split
    · exact hl x (List.mem_cons_self ..)
    · exact h
theorem maxI_in {P : Int → Prop} : ∀ (l : List Int) (n : Int), P n → (∀ x ∈ l, P x) → P (l.foldl maxI n)
  | [], _, h, _ => h
  | x :: l, n, h, hl => by
    rw [List.foldl_cons]
    refine maxI_in l _ ?_ fun y hy => hl y (List.mem_cons_of_mem _ hy)
    unfold maxI; split
    · exact hl x (List.mem_cons_self ..)
    · exact h
theorem numB_of {n : Int} (h : -1000000 ≤ n ∧ n ≤ 1000000) : numB n = true := by unfold numB inR; simp; omega
theorem fold_same {fold : Int} {l : List Int} (hf : fold = 1 ∨ fold = 2 ∨ fold = 3 ∨ fold = 4) (hl : l ≠ []) (hn : ∀ x ∈ l, -1000000 ≤ x ∧ x ≤ 1000000) (hlen : l.length ≤ 1000000) :
    foldN fold l = valP fold l ∧ numB (foldN fold l) = okP fold l := by
  have key : foldN fold l = valP fold l := by
    unfold foldN valP
    rcases hf with rfl | rfl | rfl | rfl
    · rw [stepN_1 l _ _ hl]; simp
    · rw [stepN_2]; simp
    · obtain ⟨x, l, rfl⟩ := List.exists_cons_of_ne_nil hl
      rw [List.foldl_cons, show stepN 3 (0, 0) x = (x, 1) by simp [stepN], stepN_3 _ _ _ (by omega)]
      simp [minL]
    · obtain ⟨x, l, rfl⟩ := List.exists_cons_of_ne_nil hl
      rw [List.foldl_cons, show stepN 4 (0, 0) x = (x, 1) by simp [stepN], stepN_4 _ _ _ (by omega)]
      simp [maxL]
  refine ⟨key, ?_⟩
  rw [key]
  unfold valP okP
  rcases hf with rfl | rfl | rfl | rfl
  · simp only [if_true, true_or]; exact numB_of (by omega)
  · simp
  · obtain ⟨x, l, rfl⟩ := List.exists_cons_of_ne_nil hl
    simp only [show ¬ ((3 : Int) = 1) by omega, if_false, if_true, true_or, or_true]
    exact numB_of (minI_in (P := fun z => -1000000 ≤ z ∧ z ≤ 1000000) l x (hn x (List.mem_cons_self ..)) fun y hy => hn y (List.mem_cons_of_mem _ hy))
  · obtain ⟨x, l, rfl⟩ := List.exists_cons_of_ne_nil hl
    simp only [show ¬ ((4 : Int) = 1) by omega, show ¬ ((4 : Int) = 3) by omega, if_false, if_true, or_true]
    exact numB_of (maxI_in (P := fun z => -1000000 ≤ z ∧ z ≤ 1000000) l x (hn x (List.mem_cons_self ..)) fun y hy => hn y (List.mem_cons_of_mem _ hy))
abbrev Gr := List Int × List Int
def grpL (ws : List (List Int × Int)) (p : List Int) : List Int := (ws.filter fun w => decide (w.1 = p)).map (·.2)
def addG (gs : List Gr) (w : List Int × Int) : List Gr := match gs[gs.findIdx fun g => decide (g.1 = w.1)]? with
  | some g => gs.set (gs.findIdx fun g => decide (g.1 = w.1)) (g.1, g.2 ++ [w.2])
  | none => gs ++ [(w.1, [w.2])]
def groupsL (ws : List (List Int × Int)) : List Gr := ws.foldl addG []
structure InvG (gs : List Gr) (ws : List (List Int × Int)) : Prop where
  uniq : ∀ (j k : Nat) (g h : Gr), gs[j]? = some g → gs[k]? = some h → g.1 = h.1 → j = k
  vals : ∀ g ∈ gs, g.2 = grpL ws g.1
  here : ∀ g ∈ gs, ∃ w ∈ ws, w.1 = g.1
  all : ∀ w ∈ ws, ∃ g ∈ gs, g.1 = w.1
theorem grpL_snoc (ws : List (List Int × Int)) (w : List Int × Int) (p : List Int) : grpL (ws ++ [w]) p = grpL ws p ++ if w.1 = p then [w.2] else [] := by
  unfold grpL
  rw [List.filter_append, List.map_append]
  congr 1
  by_cases h : w.1 = p
  · simp [h]
  · simp [h]
theorem grpL_none {ws : List (List Int × Int)} {p : List Int} (h : ∀ w ∈ ws, w.1 ≠ p) : grpL ws p = [] := by
  unfold grpL
  rw [List.filter_eq_nil_iff.2 fun w hw => by simpa using h w hw]; rfl
theorem addG_inv {gs : List Gr} {ws : List (List Int × Int)} {w : List Int × Int} (h : InvG gs ws) : InvG (addG gs w) (ws ++ [w]) := by
  unfold addG
  cases hx : gs[gs.findIdx fun g => decide (g.1 = w.1)]? with
  | none =>
    have hn : ∀ g ∈ gs, g.1 ≠ w.1 := by
      intro g hg he
      have := List.findIdx_lt_length_of_exists (xs := gs) (p := fun g => decide (g.1 = w.1)) ⟨g, hg, decide_eq_true he⟩
      rw [List.getElem?_eq_getElem this] at hx; cases hx
    refine ⟨fun j k g g' hj hk he => ?_, fun g hg => ?_, fun g hg => ?_, fun x hx => ?_⟩
    · rw [List.getElem?_append] at hj hk
      by_cases h1 : j < gs.length <;> by_cases h2 : k < gs.length
      · rw [if_pos h1] at hj; rw [if_pos h2] at hk; exact h.uniq j k g g' hj hk he
      · rw [if_pos h1] at hj; rw [if_neg h2] at hk
        have hg' : g' = (w.1, [w.2]) := by
          by_cases h3 : k - gs.length = 0
          · rw [h3] at hk; simpa using hk.symm
          · rw [List.getElem?_eq_none (by simp; omega)] at hk; cases hk
        rw [hg'] at he
        exact absurd he (hn g (List.mem_of_getElem? hj))
      · rw [if_neg h1] at hj; rw [if_pos h2] at hk
        have hg' : g = (w.1, [w.2]) := by
          by_cases h3 : j - gs.length = 0
          · rw [h3] at hj; simpa using hj.symm
          · rw [List.getElem?_eq_none (by simp; omega)] at hj; cases hj
        rw [hg'] at he
        exact absurd he.symm (hn g' (List.mem_of_getElem? hk))
      · rw [if_neg h1] at hj; rw [if_neg h2] at hk
        have h3 : j - gs.length = 0 := by
          apply Classical.byContradiction; intro h3
          rw [List.getElem?_eq_none (by simp; omega)] at hj; cases hj
        have h4 : k - gs.length = 0 := by
          apply Classical.byContradiction; intro h4
          rw [List.getElem?_eq_none (by simp; omega)] at hk; cases hk
        omega
    · rw [grpL_snoc]
      rcases List.mem_append.1 hg with hg | hg
      · rw [if_neg (Ne.symm (hn g hg)), List.append_nil]; exact h.vals g hg
      · rw [List.mem_singleton] at hg; subst hg
        rw [if_pos rfl, grpL_none fun x hx he => ?_]; · rfl
        obtain ⟨g, hg, hge⟩ := h.all x hx
        exact hn g hg (hge.trans he)
    · rcases List.mem_append.1 hg with hg | hg
      · obtain ⟨x, h1, h2⟩ := h.here g hg; exact ⟨x, List.mem_append_left _ h1, h2⟩
      · rw [List.mem_singleton] at hg; subst hg; exact ⟨w, List.mem_append_right _ (by simp), rfl⟩
    · rcases List.mem_append.1 hx with hx | hx
      · obtain ⟨g, h1, h2⟩ := h.all x hx; exact ⟨g, List.mem_append_left _ h1, h2⟩
      · rw [List.mem_singleton] at hx; subst hx; exact ⟨_, List.mem_append_right _ (List.mem_singleton.2 rfl), rfl⟩
  | some g0 =>
    obtain ⟨hi, hg0⟩ := List.getElem?_eq_some_iff.1 hx
    have hk0 : g0.1 = w.1 := by
      have := List.findIdx_getElem (xs := gs) (p := fun g => decide (g.1 = w.1)) (w := hi)
      rw [hg0] at this
      exact of_decide_eq_true this
    simp only
    generalize gs.findIdx (fun g => decide (g.1 = w.1)) = i at hx hi hg0
    have hget : ∀ (j : Nat) (g : Gr), (gs.set i (g0.1, g0.2 ++ [w.2]))[j]? = some g → ∃ g', gs[j]? = some g' ∧ g.1 = g'.1 ∧ ((j = i ∧ g = (g0.1, g0.2 ++ [w.2])) ∨ (j ≠ i ∧ g = g')) := by
      intro j g hj
      by_cases hq : i = j
      · subst hq
        rw [List.getElem?_set_self hi] at hj
        cases hj
        exact ⟨g0, hx, rfl, .inl ⟨rfl, rfl⟩⟩
      · rw [List.getElem?_set_ne hq] at hj
        exact ⟨g, hj, rfl, .inr ⟨Ne.symm hq, rfl⟩⟩
    refine ⟨fun j k g g' hj hk he => ?_, fun g hg => ?_, fun g hg => ?_, fun x hx' => ?_⟩
    · obtain ⟨a, a1, a2, _⟩ := hget j g hj
      obtain ⟨b, b1, b2, _⟩ := hget k g' hk
      exact h.uniq j k a b a1 b1 (a2.symm.trans (he.trans b2))
    · obtain ⟨j, hj⟩ := List.getElem?_of_mem hg
      obtain ⟨a, a1, a2, a3⟩ := hget j g hj
      rw [grpL_snoc]
      rcases a3 with ⟨rfl, rfl⟩ | ⟨a3, rfl⟩
      · rw [if_pos hk0.symm]
        simp only
        rw [h.vals g0 (List.mem_of_getElem? hx)]
      · rw [if_neg fun he => a3 (h.uniq j i g g0 a1 hx (he.symm.trans hk0.symm)), List.append_nil]
        exact h.vals g (List.mem_of_getElem? a1)
    · obtain ⟨j, hj⟩ := List.getElem?_of_mem hg
      obtain ⟨a, a1, a2, _⟩ := hget j g hj
      obtain ⟨x, h1, h2⟩ := h.here a (List.mem_of_getElem? a1)
      exact ⟨x, List.mem_append_left _ h1, h2.trans a2.symm⟩
    · have hmem : ∀ a ∈ gs, ∃ g ∈ gs.set i (g0.1, g0.2 ++ [w.2]), g.1 = a.1 := by
        intro a ha
        obtain ⟨j, hj⟩ := List.getElem?_of_mem ha
        by_cases hq : i = j
        · subst hq
          rw [hx] at hj; cases hj
          exact ⟨_, List.mem_of_getElem? (List.getElem?_set_self hi), rfl⟩
        · exact ⟨a, List.mem_of_getElem? ((List.getElem?_set_ne hq).trans hj), rfl⟩
      rcases List.mem_append.1 hx' with hx' | hx'
      · obtain ⟨a, h1, h2⟩ := h.all x hx'
        obtain ⟨g, k1, k2⟩ := hmem a h1
        exact ⟨g, k1, k2.trans h2⟩
      · rw [List.mem_singleton] at hx'; subst hx'
        obtain ⟨g, k1, k2⟩ := hmem g0 (List.mem_of_getElem? hx)
        exact ⟨g, k1, k2.trans hk0⟩
theorem groups_inv' : ∀ (ws vs : List (List Int × Int)) (gs : List Gr), InvG gs vs → InvG (ws.foldl addG gs) (vs ++ ws)
  | [], vs, gs, h => by rw [List.append_nil]; exact h
  | w :: ws, vs, gs, h => by
    have := groups_inv' ws (vs ++ [w]) (addG gs w) (addG_inv h)
    rw [List.append_assoc] at this
    exact this
theorem groups_inv (ws : List (List Int × Int)) : InvG (groupsL ws) ws := by
  have := groups_inv' ws [] [] ⟨fun _ _ _ _ h => by simp at h, fun _ h => by simp at h, fun _ h => by simp at h, fun _ h => by simp at h⟩
  rw [List.nil_append] at this
  exact this
def aW (r : Rul) (w : List Int) : List Int := r.terms.map (vA w)
def pW (r : Rul) (w : List Int) : List Int × Int := ((aW r w).take (r.terms.length - 1), (aW r w).getD (r.terms.length - 1) 0)
def headsD (r : Rul) (ways : List (List Int)) : List Fct := if r.fold = 0 then ways.map fun w => ⟨r.pred, aW r w⟩
  else ways.filterMap fun w => if numB (foldN r.fold (grpL (ways.map (pW r)) (pW r w).1)) then some ⟨r.pred, (pW r w).1 ++ [foldN r.fold (grpL (ways.map (pW r)) (pW r w).1)]⟩ else none
def headsP (r : Rul) (ways : List (List Int)) : List Fct := if r.fold = 0 then ways.map fun w => ⟨r.pred, aW r w⟩
  else (groupsL (ways.map (pW r))).filterMap fun g => if okP r.fold g.2 then some ⟨r.pred, g.1 ++ [valP r.fold g.2]⟩ else none
theorem heads_mem {r : Rul} {ways : List (List Int)} (hf : 0 ≤ r.fold ∧ r.fold ≤ 4) (hn : ∀ w ∈ ways, -1000000 ≤ (pW r w).2 ∧ (pW r w).2 ≤ 1000000) (hlen : ways.length ≤ 1000000) : ∀ x, x ∈ headsP r ways ↔ x ∈ headsD r ways := by
  intro x
  unfold headsP headsD
  by_cases h0 : r.fold = 0
  · rw [if_pos h0, if_pos h0]
  · rw [if_neg h0, if_neg h0]
    have hI := groups_inv (ways.map (pW r))
    have hfs : ∀ p, (∃ w ∈ ways.map (pW r), w.1 = p) → foldN r.fold (grpL (ways.map (pW r)) p) = valP r.fold (grpL (ways.map (pW r)) p) ∧ numB (foldN r.fold (grpL (ways.map (pW r)) p)) = okP r.fold (grpL (ways.map (pW r)) p) := by
      rintro p ⟨w, hw, rfl⟩
      refine fold_same (by omega) ?_ ?_ ?_
      · unfold grpL
        intro hc
        have : w.2 ∈ ((ways.map (pW r)).filter fun z => decide (z.1 = w.1)).map (·.2) := List.mem_map.2 ⟨w, List.mem_filter.2 ⟨hw, by simp⟩, rfl⟩
        rw [hc] at this; simp at this
      · intro y hy
        obtain ⟨z, hz, rfl⟩ := List.mem_map.1 hy
        obtain ⟨u, hu, rfl⟩ := List.mem_map.1 (List.mem_filter.1 hz).1
        exact hn u hu
      · unfold grpL
        rw [List.length_map]
        refine Nat.le_trans (List.length_filter_le _ _) ?_
        rw [List.length_map]; exact hlen
    rw [List.mem_filterMap, List.mem_filterMap]
    constructor
    · rintro ⟨g, hg, hx⟩
      obtain ⟨w, hw, hwg⟩ := hI.here g hg
      obtain ⟨u, hu, rfl⟩ := List.mem_map.1 hw
      obtain ⟨f1, f2⟩ := hfs g.1 ⟨_, hw, hwg⟩
      refine ⟨u, hu, ?_⟩
      rw [hwg, f2, f1, ← hI.vals g hg]; exact hx
    · rintro ⟨u, hu, hx⟩
      obtain ⟨g, hg, hwg⟩ := hI.all (pW r u) (List.mem_map_of_mem hu)
      obtain ⟨f1, f2⟩ := hfs g.1 ⟨_, List.mem_map_of_mem hu, hwg.symm⟩
      refine ⟨g, hg, ?_⟩
      rw [hI.vals g hg, ← f1, ← f2, hwg]; exact hx
theorem heads_set {r : Rul} {ways : List (List Int)} (hf : 0 ≤ r.fold ∧ r.fold ≤ 4) (hn : ∀ w ∈ ways, -1000000 ≤ (pW r w).2 ∧ (pW r w).2 ≤ 1000000) (hlen : ways.length ≤ 1000000) : setF' (headsP r ways) = setF' (headsD r ways) :=
  strict_ext (setF_spec _).1 (setF_spec _).1 fun x => by rw [(setF_spec _).2, (setF_spec _).2, heads_mem hf hn hlen]
end Go.Proofs.YtapciiffpnociabGreat

/- Groups of a fold as the program holds them: pointers. The program's Made$1 and slices.IndexFunc over groups. Condition: none. -/
namespace Go.Proofs.YtapciiffpnociabGreat
open Go Go.RowKit
def encG (g : Gr) : List D := [.ptr [.slice 1 (g.1.map encI), .slice 1 (g.2.map encI)]]
def elG (g : Gr) : SV := .d (.ptr [.slice 1 (g.1.map encI), .slice 1 (g.2.map encI)])
theorem ptr_pd {X e w} {ds : List D} {v : Value} (h : RepC X w v (.ptr ds)) : Rel X e w (.pd ds) v := by
  cases h with
  | ptr c hX hb hcell hrep => exact ⟨_, _, rfl, hb, hX, fun j hj => ⟨c j, hcell j hj, hrep j hj⟩⟩
theorem ent_pd {Γ : Ctx} {k : Nat} {L : Sl} {H : Hp} (t : Nat) {ds : List D} (hL : L.get t = .d (.ptr ds)) : Ent Γ k L H k ((t, .pd ds) :: L) H := by
  intro e a w m
  refine ⟨e, ⟨m.toHeap, m.defers, m.len, fun t' => ?_⟩⟩
  rw [Sl.get_cons]
  split
  · rename_i ht
    subst ht
    have hs := m.slot t
    rw [hL] at hs
    exact ptr_pd hs
  · exact m.slot t'
attribute [local irreducible] DW DS DL DQ Ev FnOk FnP thenD inBlockD DT
set_option maxHeartbeats 8000000 in
theorem made1_fn (a : List Int) (last : Nat) (ha : last ≤ a.length) (g : Gr) : Fn 149 ([elG g] ++ [.pd [.slice 1 (a.map encI)], .pd [.int .i64 last]]) (fun r => r = .d (.bool (decide (g.1 = a.take last)))) := by
  refine fnp_enter' _ Tryz.func149 rfl rfl (by kernel_rfl) ?_
  intro O w0 E0 β0
  have la : (a.map encI).length = a.length := List.length_map _
  have w1 := equalI_fn g.1 (a.take last)
  refine dw_ent (ent_pd 0 rfl) ?_
  repeat' (first | (apply ds_evC; exact rfl; (with_reducible exact trivial); (with_reducible exact rfl); exact rfl; exact rfl; exact rfl) | apply ds_nil | (apply dt_ev; exact rfl; exact rfl; (first | (with_reducible exact trivial) | omega); (first | ((with_reducible apply hv_sltake); (exact rfl)) | (with_reducible exact rfl)); exact rfl; exact rfl; exact rfl; exact rfl) | (apply dt_nil0; exact rfl; exact rfl; exact rfl; exact rfl) | apply dw_seq2 | (apply ds_region; exact rfl) | (apply dw_any; kernel_rfl; kernel_rfl; exact rfl; exact rfl) | apply dw_ret | apply thenD_n | (apply dt_call; exact rfl; exact rfl; apply w1; exact rfl; (exact rfl); exact rfl; exact rfl; exact ⟨_, rfl⟩; rintro _ rfl))
  exact ret_b rfl rfl
set_option maxHeartbeats 8000000 in
theorem indexG_fn {f : FuncId} {caps : List SV} (p : Gr → Bool) (l : List (Gr)) (hcap : SV.lowL 0 caps = true) (hp : ∀ x ∈ l, Fn f (elG x :: caps) (fun r => r = .d (.bool (p x)))) : Fn 148 [.d (.slice 1 (l.map encG)), .fn f caps] (fun r => r = .d (.int .i64 (idxF p l))) := by
  refine fnp_enter' _ Tryz.func148 rfl rfl (by kernel_rfl) ?_
  intro O w0 E0 β0
  refine dw_len_map (t := 0) rfl fun hb => ?_
  repeat' (first | (apply ds_evC; exact rfl; (with_reducible exact trivial); (with_reducible exact rfl); exact rfl; exact rfl; exact rfl) | apply ds_nil | apply dw_seq2 | (apply ds_region; exact rfl) | apply dw_block | apply thenD_n)
  refine ds_loop (ι := Nat) (fun i => ⟨0, [(0, .d (.slice 1 (l.map encG))), (1, .fn f caps), (7, .d (.int .i64 l.length)), (8, .d (.int .i64 i))], []⟩)
    (fun i => i ≤ l.length ∧ ∀ j (hj : j < l.length), j < i → p l[j] = false) (fun i => l.length - i) 0 ⟨Nat.zero_le _, fun j _ h => absurd h (Nat.not_lt_zero j)⟩
    (ent_ren id ⟨rfl, congrArg (SV.fn f) (SV.renL_id caps).symm, by simp; rfl, rfl, trivial⟩ trivial (by simp [Sl.low, SV.low, hcap]) rfl rfl rfl rfl rfl) ?_
  rintro i ⟨h1, h2⟩
  repeat' (first | (apply ds_evC; exact rfl; (with_reducible exact trivial); (with_reducible exact rfl); exact rfl; exact rfl; exact rfl) | apply ds_nil | apply dw_seq2 | (apply ds_region; exact rfl) | apply thenD_n)
  refine dw_condP rfl (fun h => ?_) (fun h => ?_)
  · have hi : i < l.length := by omega
    have hpx := hp l[i] (List.getElem_mem hi)
    repeat' (first | (apply ds_evC; exact rfl; (first | (with_reducible exact trivial) | (simp only [List.length_map]; omega)); (first | ((with_reducible apply hv_row); (exact rfl); (rw [List.length_map]; omega)) | (with_reducible exact rfl)); exact rfl; exact rfl; exact rfl) | apply ds_nil | apply dw_seq2 | (apply ds_region; exact rfl) | apply dw_block | apply dw_skip | apply thenD_n | (apply ds_callV; exact rfl; exact rfl; exact rfl; exact rfl; apply hpx; exact rfl; (assumption); exact rfl; rintro _ rfl))
    refine dw_cond rfl (fun hb => ?_) (fun hb => ?_)
    · repeat' (first | (apply ds_evC; exact rfl; (with_reducible exact trivial); (with_reducible exact rfl); exact rfl; exact rfl; exact rfl) | apply ds_nil | apply dw_seq2 | (apply ds_region; exact rfl) | apply dw_ret | apply thenD_n | apply thenD_r | apply inB_r)
      exact ret_i rfl (idxF_hit h2 hi hb).symm
    · repeat' (first | (apply ds_evC; exact rfl; (first | (with_reducible exact trivial) | omega); (with_reducible exact rfl); exact rfl; exact rfl; exact rfl) | apply ds_nil | (apply ds_region; exact rfl) | apply dw_skip | apply thenD_n | apply inB_n)
      exact ⟨i + 1, ⟨hi, none_step h2 hi hb⟩, ent_ren id ⟨rfl, congrArg (SV.fn f) (SV.renL_id caps).symm, rfl, rfl, trivial⟩ trivial (by simp [Sl.low, SV.low, hcap]) rfl rfl rfl rfl rfl, by omega⟩
  · repeat' (first | (apply ds_evC; exact rfl; (with_reducible exact trivial); (with_reducible exact rfl); exact rfl; exact rfl; exact rfl) | apply ds_nil | apply dw_seq2 | (apply ds_region; exact rfl) | apply dw_exit | apply dw_ret | apply thenD_n | apply thenD_e | (apply inB_e; exact rfl))
    exact ret_i rfl (idxF_none fun j hj => h2 j hj (by omega)).symm
end Go.Proofs.YtapciiffpnociabGreat

/- The document's Finder.Reckon. Condition: none. -/
namespace Go.Proofs.YtapciiffpnociabGreat
open Go Go.RowKit
theorem numE_set {e : RE} (h : numE e) {v : Nat} {n : Int} (hn : numB n = true) : numE (e.set v (some n)) := by
  intro u x hx
  by_cases hq : v = u
  · subst hq
    by_cases hl : v < e.length
    · rw [List.getElem?_set_self hl] at hx
      simp at hx; subst hx
      exact numB_iff.1 hn
    · rw [List.getElem?_eq_none (by rw [List.length_set]; omega)] at hx; cases hx
  · rw [List.getElem?_set_ne hq] at hx
    exact h u x hx
theorem recL_num {S : List Fct} {e e' : RE} {l : Ltl} (hok : okL S e.length l) (hn : numE e) (h : recL e l = some e') : numE e' := by
  unfold recL at h
  split at h
  · rename_i hc
    split at h
    · rename_i hb
      obtain ⟨t1, t2, t3, hT⟩ := drop2 (hok.calc3 hc.1)
      rw [hT] at h
      simp only [List.drop_succ_cons, List.drop_zero, List.foldl_cons, List.foldl_nil, Option.some.injEq] at h
      subst h
      exact numE_set hn hb
    · cases h
  · simp only [Option.some.injEq] at h; subst h; exact hn
theorem outE_set (e : RE) (v : Nat) (x : Int) : outE (e.set v (some x)) = (outE e).set v x := by unfold outE; rw [List.map_set]; rfl
theorem hasE_set (e : RE) (v : Nat) (x : Int) : hasE (e.set v (some x)) = (hasE e).set v true := by unfold hasE; rw [List.map_set]; rfl
theorem recP_step {body : List Ltl} {i : Nat} (hi : i < body.length) (e : RE) : recP (body.drop i) e = (recL e body[i]).bind (recP (body.drop (i + 1))) := by
  unfold recP; rw [List.drop_eq_getElem_cons hi, List.foldlM_cons]; rfl
theorem recN_step (body : List Ltl) {n k : Nat} (h : n < k) (e : RE) : recN body (k - n) e = (recP body e).bind (recN body (k - (n + 1))) := by
  rw [show k - n = (k - (n + 1)) + 1 by omega]; rfl
abbrev rkH (r : Rul) (S : List Fct) (out : List (List Int)) (m : Bool) (e : RE) : Hp := [(0, fndB r S (.row 3) m), (1, .row 3 1 ((outE e).map encI)), (2, .row 4 1 ((hasE e).map encBl)), (3, .row 22 1 (out.map encW))]
def RkR (r : Rul) (S : List Fct) (out : List (List Int)) (m : Bool) (o : Option RE) (res : SV) (H : Hp) : Prop := match o with
  | some e' => res = .d (.bool true) ∧ H = rkH r S out m e'
  | none => res = .d (.bool false) ∧ ∃ e', H = rkH r S out m e'
theorem recL_other {e : RE} {l : Ltl} (h : l.kind ≠ 4) : recL e l = some e := by unfold recL; rw [if_neg (fun g => h g.1)]
theorem recL_not12 {e : RE} {op pred : Int} {t1 t2 t3 : Trm} (h : [t1, t2].all (isT (hasE e)) = false) : recL e ⟨4, op, pred, [t1, t2, t3]⟩ = some e := by
  rw [all_isT] at h
  unfold recL; rw [if_neg (fun g => by have := g.2.1; simp only [List.take_succ_cons, List.take_zero] at this; rw [h] at this; cases this)]
theorem recL_is3 {e : RE} {op pred : Int} {t1 t2 t3 : Trm} (h : [t3].all (isT (hasE e)) = true) : recL e ⟨4, op, pred, [t1, t2, t3]⟩ = some e := by
  rw [all_isT] at h
  unfold recL; rw [if_neg (fun g => by have := g.2.2; simp only [List.drop_succ_cons, List.drop_zero] at this; rw [h] at this; cases this)]
theorem recL_new {e : RE} {op pred : Int} {t1 t2 t3 : Trm} (h : [t1, t2].all (isT (hasE e)) = true) (h3 : [t3].all (isT (hasE e)) = false) : recL e ⟨4, op, pred, [t1, t2, t3]⟩ = if numB (calcE op (vA (outE e) t1) (vA (outE e) t2)) then some (e.set t3.var.toNat (some (calcE op (vA (outE e) t1) (vA (outE e) t2)))) else none := by
  rw [all_isT] at h h3
  unfold recL; rw [if_pos ⟨rfl, by simpa using h, by simpa using h3⟩]; rfl
attribute [local irreducible] DW DS DL DQ Ev FnOk FnP thenD inBlockD DT
set_option maxHeartbeats 8000000 in
theorem reckon_fn (r : Rul) (S : List Fct) (out : List (List Int)) (m : Bool) (e : RE) (hok : okB S e.length r.body) (hn : numE e) :
    FnOk false Tryz.prog tab tab_ok 152 [.loc 0 0, .row 1, .row 2] 4 4 (rkH r S out m e) (fun _ res H => RkR r S out m (recN r.body (r.body.length + 1) e) res H) := by
  refine fn_enterR _ Tryz.func152 rfl rfl (by kernel_rfl) ?_
  intro O w0 E0 β0
  have lb : (r.body.map encLtl).length = r.body.length := List.length_map _
  have hb4 := hok.len
  repeat' (first | (apply ds_evC; exact rfl; (with_reducible exact trivial); (with_reducible exact rfl); exact rfl; exact rfl; exact rfl) | apply ds_nil | apply dw_seq2 | (apply ds_region; exact rfl) | apply dw_block | apply thenD_n)
  refine ds_loop (ι := Nat × RE) (fun x => ⟨4, [(0, .loc 0 0), (1, .row 1), (2, .row 2), (7, .d (.int .i64 x.1))], rkH r S out m x.2⟩)
    (fun x => x.1 ≤ r.body.length + 1 ∧ x.2.length = e.length ∧ numE x.2 ∧ recN r.body (r.body.length + 1) e = recN r.body (r.body.length + 1 - x.1) x.2) (fun x => r.body.length + 1 - x.1) (0, e) ⟨Nat.zero_le _, rfl, hn, rfl⟩ (ent_ren id ⟨rfl, rfl, rfl, rfl, trivial⟩ ⟨rfl, rfl, rfl, rfl, trivial⟩ rfl rfl rfl rfl rfl rfl) ?_
  rintro ⟨n, e1⟩ ⟨g1, g2, g3, g4⟩
  dsimp only at g1 g2 g3 g4 ⊢
  by_cases hnn : n < r.body.length + 1
  · rw [recN_step r.body hnn] at g4
    repeat' (first | (apply ds_evC; exact rfl; (with_reducible exact trivial); (with_reducible exact rfl); exact rfl; exact rfl; exact rfl) | apply ds_nil | apply dw_seq2 | (apply ds_region; exact rfl) | apply dw_block | apply dw_skip | apply dw_exit | apply dw_ret | apply thenD_n | apply thenD_e | (apply inB_e; exact rfl) | (apply dw_condP; exact rfl; all_goals intro hg))
    all_goals try (exfalso; omega)
    refine ds_loop (ι := Nat × RE) (fun x => ⟨4, [(0, .loc 0 0), (1, .row 1), (2, .row 2), (7, .d (.int .i64 n)), (8, .d (.int .i64 x.1))], rkH r S out m x.2⟩)
      (fun x => x.1 ≤ r.body.length ∧ x.2.length = e.length ∧ numE x.2 ∧ recP r.body e1 = recP (r.body.drop x.1) x.2) (fun x => r.body.length - x.1) (0, e1) ⟨Nat.zero_le _, g2, g3, rfl⟩ (ent_ren id ⟨rfl, rfl, rfl, rfl, rfl, trivial⟩ ⟨rfl, rfl, rfl, rfl, trivial⟩ rfl rfl rfl rfl rfl rfl) ?_
    rintro ⟨i, e2⟩ ⟨f1, f2, f3, f4⟩
    dsimp only at f1 f2 f3 f4 ⊢
    by_cases hi : i < r.body.length
    · have hm := List.getElem_mem hi
      have ho := hok.lit _ hm
      rw [← f2] at ho
      have hlen := hok.tlen _ hm
      have hnum := hok.nums _ hm
      rw [recP_step hi] at f4
      repeat' ((fail_if_success (apply dw_stopS 8)); (first | (apply ds_evC; exact rfl; (first | (with_reducible exact trivial) | omega); (first | ((with_reducible apply hv_row); (exact rfl); (omega)) | (with_reducible exact rfl)); exact rfl; exact rfl; exact rfl) | apply ds_nil | apply dw_seq2 | (apply ds_region; exact rfl) | apply dw_block | apply dw_skip | apply dw_exit | apply thenD_n | apply thenD_e | apply inB_n | (apply inB_e; exact rfl) | (apply ds_newC; exact rfl; (with_reducible exact trivial); exact rfl; exact rfl; exact rfl) | (apply ds_setC; exact rfl; exact rfl; exact rfl; exact rfl) | (apply dw_condP; exact rfl; all_goals intro hg)))
      all_goals try (exfalso; omega)
      refine dw_ent (ent_ren (k' := 5) (L' := [(0, .loc 0 0), (1, .row 1), (2, .row 2), (7, .d (.int .i64 n)), (8, .d (.int .i64 i)), (9, .loc 4 0)]) (H' := (4, litB r.body[i]) :: rkH r S out m e2) id ⟨rfl, rfl, rfl, rfl, rfl, rfl, trivial⟩ ⟨rfl, rfl, rfl, rfl, rfl, trivial⟩ rfl rfl rfl rfl rfl rfl) ?_
      generalize r.body[i] = l at ho hlen hnum f4 ⊢
      clear hm
      have hk := ho.kind
      have hT := ho.terms
      have h3 := ho.calc3
      have hrn : ∀ e', recL e2 l = some e' → e'.length = e.length ∧ numE e' := fun e' h => ⟨(recL_some ho h).1.trans f2, recL_num ho f3 h⟩
      clear ho
      obtain ⟨kind, op, pred, terms⟩ := l
      dsimp only at hk hT h3 hlen hnum
      by_cases h4 : kind = 4
      · subst h4
        match terms, h3 rfl with
        | [t1, t2, t3], _ =>
          have hT12 : ∀ t ∈ [t1, t2], okT (hasE e2).length t := fun t ht => by rw [hasE_len]; exact hT t (by simp at ht ⊢; rcases ht with rfl | rfl <;> simp)
          have hT3 : ∀ t ∈ [t3], okT (hasE e2).length t := fun t ht => by rw [hasE_len]; exact hT t (by simp at ht ⊢; subst ht; simp)
          have w1 := isReadyR_fn [t1, t2] (hasE e2) hT12
          have w2 := isReadyR_fn [t3] (hasE e2) hT3
          repeat' (first | (apply ds_slD; exact rfl; exact rfl; exact rfl; exact rfl; exact rfl; exact rfl; (refine ⟨?_, ?_, ?_⟩ <;> (first | omega | (simp only [List.length_map]; omega))); ((with_reducible apply hv_take); (exact nat_add_2 _)); exact rfl; exact rfl) | (apply ds_evC; exact rfl; (with_reducible exact trivial); (with_reducible exact rfl); exact rfl; exact rfl; exact rfl) | apply dw_seq2 | (apply ds_region; exact rfl))
          cases h12 : [t1, t2].all (isT (hasE e2)) with
          | false =>
            rw [h12] at w1
            rw [recL_not12 h12] at f4
            refine ds_callF (fun j => match j with | 0 => 2 | j => j) w1 rfl rfl rfl rfl ⟨rfl, trivial⟩ rfl rfl rfl rfl rfl rfl ?_ ?_
            · rintro k2 res H2 ⟨rfl, rfl⟩; exact ⟨rfl, rfl⟩
            rintro k2 res H2 ⟨rfl, rfl⟩
            change DS _ _ _ _ _ _ _ _
            repeat' (first | (apply ds_evC; exact rfl; (first | (with_reducible exact trivial) | omega); (with_reducible exact rfl); exact rfl; exact rfl; exact rfl) | (apply ds_skip; exact rfl; exact rfl) | apply ds_nil | (apply ds_region; exact rfl) | apply dw_exit | (apply dw_condT; exact rfl) | apply thenD_n | apply thenD_e | (apply inB_e; exact rfl))
            all_goals try (exfalso; omega)
            exact ⟨(i + 1, e2), ⟨by dsimp only; omega, f2, f3, f4⟩, ent_ren id ⟨rfl, rfl, rfl, rfl, rfl, trivial⟩ ⟨rfl, rfl, rfl, rfl, trivial⟩ rfl rfl rfl rfl rfl rfl, by show r.body.length - (i + 1) < r.body.length - i; omega⟩
          | true =>
            rw [h12] at w1
            refine ds_callF (fun j => match j with | 0 => 2 | j => j) w1 rfl rfl rfl rfl ⟨rfl, trivial⟩ rfl rfl rfl rfl rfl rfl ?_ ?_
            · rintro k2 res H2 ⟨rfl, rfl⟩; exact ⟨rfl, rfl⟩
            rintro k2 res H2 ⟨rfl, rfl⟩
            change DS _ _ _ _ _ _ _ _
            repeat' (first | (apply ds_slD; exact rfl; exact rfl; exact rfl; exact rfl; exact rfl; exact rfl; (refine ⟨?_, ?_, ?_⟩ <;> (first | omega | (simp only [List.length_map]; omega))); ((with_reducible apply hv_drop); (exact nat_add_2 _)); exact rfl; exact rfl) | (apply ds_evC; exact rfl; (with_reducible exact trivial); (with_reducible exact rfl); exact rfl; exact rfl; exact rfl))
            all_goals try (exfalso; omega)
            cases h33 : [t3].all (isT (hasE e2)) with
            | true =>
              rw [h33] at w2
              rw [recL_is3 h33] at f4
              refine ds_callF (fun j => match j with | 0 => 2 | j => j) w2 rfl rfl rfl rfl ⟨rfl, trivial⟩ rfl rfl rfl rfl rfl rfl ?_ ?_
              · rintro k2 res H2 ⟨rfl, rfl⟩; exact ⟨rfl, rfl⟩
              rintro k2 res H2 ⟨rfl, rfl⟩
              change DS _ _ _ _ _ _ _ _
              repeat' (first | (apply ds_evC; exact rfl; (first | (with_reducible exact trivial) | omega); (with_reducible exact rfl); exact rfl; exact rfl; exact rfl) | apply ds_nil | (apply ds_region; exact rfl) | apply dw_exit | (apply dw_condT; exact rfl) | apply thenD_n | apply thenD_e | (apply inB_e; exact rfl))
              all_goals try (exfalso; omega)
              exact ⟨(i + 1, e2), ⟨by dsimp only; omega, f2, f3, f4⟩, ent_ren id ⟨rfl, rfl, rfl, rfl, rfl, trivial⟩ ⟨rfl, rfl, rfl, rfl, trivial⟩ rfl rfl rfl rfl rfl rfl, by show r.body.length - (i + 1) < r.body.length - i; omega⟩
            | false =>
              rw [h33] at w2
              have hnew := recL_new (op := op) (pred := pred) h12 h33
              refine ds_callF (fun j => match j with | 0 => 2 | j => j) w2 rfl rfl rfl rfl ⟨rfl, trivial⟩ rfl rfl rfl rfl rfl rfl ?_ ?_
              · rintro k2 res H2 ⟨rfl, rfl⟩; exact ⟨rfl, rfl⟩
              rintro k2 res H2 ⟨rfl, rfl⟩
              change DS _ _ _ _ _ _ _ _
              repeat' (first | (apply ds_slD; exact rfl; exact rfl; exact rfl; exact rfl; exact rfl; exact rfl; (refine ⟨?_, ?_, ?_⟩ <;> (first | omega | (simp only [List.length_map]; omega))); ((with_reducible apply hv_take); (exact nat_add_2 _)); exact rfl; exact rfl) | (apply ds_evC; exact rfl; (with_reducible exact trivial); (with_reducible exact rfl); exact rfl; exact rfl; exact rfl) | apply ds_nil | apply dw_seq2 | (apply ds_region; exact rfl) | apply dw_skip | (apply dw_condF; exact rfl) | apply thenD_n)
              all_goals try (exfalso; omega)
              have n1 := vA_num f3 (hnum t1 (by simp))
              have n2 := vA_num f3 (hnum t2 (by simp))
              have w3 := argsOfR_fn [t1, t2] (outE e2) (fun t ht => by rw [outE_len]; exact hT t (by simp at ht ⊢; rcases ht with rfl | rfl <;> simp)) (by simp)
              simp only [List.map_cons, List.map_nil] at w3
              generalize hx : vA (outE e2) t1 = x at n1 w3 hnew
              generalize hy : vA (outE e2) t2 = y at n2 w3 hnew
              have w4 := calcOf_fn op x y n1 n2
              have w5 := sisNumber_fn (calcE op x y)
              refine ds_callF (fun j => match j with | 0 => 1 | j => j) w3 rfl rfl rfl rfl ⟨rfl, trivial⟩ rfl rfl rfl rfl rfl rfl ?_ ?_
              · rintro k2 res H2 ⟨rfl, rfl⟩; exact ⟨rfl, rfl⟩
              rintro k2 res H2 ⟨rfl, rfl⟩
              change DS _ _ _ _ _ _ _ _
              have hv3 : 0 ≤ t3.var ∧ t3.var < e2.length := by
                have ht3 := hT t3 (by simp)
                unfold okT at ht3
                refine ⟨?_, ht3⟩
                simp only [List.all_cons, List.all_nil, Bool.and_true] at h33
                unfold isT at h33
                simp only [Bool.or_eq_false_iff, decide_eq_false_iff_not] at h33
                omega
              have lo : ((outE e2).map encI).length = e2.length := by rw [List.length_map, outE_len]
              have lh : ((hasE e2).map encBl).length = e2.length := by rw [List.length_map, hasE_len]
              cases hb : numB (calcE op x y) with
              | false =>
                rw [hb] at w5 hnew
                have hnew : recL e2 ⟨4, op, pred, [t1, t2, t3]⟩ = none := hnew
                rw [hnew] at f4
                have f4' : recP r.body e1 = none := f4
                rw [f4'] at g4
                have g4' : recN r.body (r.body.length + 1) e = none := g4
                rw [g4']
                repeat' (first | (apply ds_evC; exact rfl; (with_reducible exact trivial); (with_reducible exact rfl); exact rfl; exact rfl; exact rfl) | apply ds_nil | (apply dt_ev; exact rfl; exact rfl; (first | (with_reducible exact trivial) | (simp <;> omega)); (with_reducible exact rfl); exact rfl; exact rfl; exact rfl; exact rfl) | (apply dt_nil0; exact rfl; exact rfl; exact rfl; exact rfl) | apply dw_seq2 | (apply ds_region; exact rfl) | (apply dw_any; kernel_rfl; kernel_rfl; exact rfl; exact rfl) | apply dw_ret | (apply dw_condT; exact rfl) | apply thenD_n | apply thenD_r | apply inB_r | (apply dt_call; exact rfl; exact rfl; apply w4; exact rfl; (exact rfl); exact rfl; exact rfl; exact ⟨_, rfl⟩; rintro _ rfl) | (apply ds_call; exact rfl; exact rfl; apply w5; exact rfl; (exact rfl); exact rfl; rintro _ rfl))
                all_goals try (exfalso; omega)
                exact ⟨.inl rfl, _, rfl, id, 4, _, rkH r S out m e2, rfl, ⟨rfl, rfl, rfl, rfl, trivial⟩, rfl, rfl, rfl, rfl, rfl, rfl, rfl, e2, rfl⟩
              | true =>
                rw [hb] at w5 hnew
                have hnew : recL e2 ⟨4, op, pred, [t1, t2, t3]⟩ = some (e2.set t3.var.toNat (some (calcE op x y))) := hnew
                obtain ⟨q1, q2⟩ := hrn _ hnew
                rw [hnew] at f4
                repeat' (first | (apply ds_evC; exact rfl; (first | (with_reducible exact trivial) | omega | (simp only [List.length_map]; omega)); (first | ((with_reducible apply hv_prow); (exact (Int.toNat_of_nonneg (by omega)).symm)) | (with_reducible exact rfl)); exact rfl; exact rfl; exact rfl) | apply ds_nil | (apply ds_stP; exact rfl; exact rfl; (apply hv_get; (omega)); exact rfl; exact rfl; (exact hv_set rfl); exact rfl; exact rfl; exact rfl; exact rfl; exact rfl; exact rfl) | (apply dt_ev; exact rfl; exact rfl; (first | (with_reducible exact trivial) | (simp <;> omega)); (with_reducible exact rfl); exact rfl; exact rfl; exact rfl; exact rfl) | (apply dt_nil0; exact rfl; exact rfl; exact rfl; exact rfl) | apply dw_seq2 | (apply ds_region; exact rfl) | (apply dw_any; kernel_rfl; kernel_rfl; exact rfl; exact rfl) | apply dw_skip | (apply dw_condF; exact rfl) | apply thenD_n | apply inB_n | (apply dt_call; exact rfl; exact rfl; apply w4; exact rfl; (exact rfl); exact rfl; exact rfl; exact ⟨_, rfl⟩; rintro _ rfl) | (apply ds_call; exact rfl; exact rfl; apply w5; exact rfl; (exact rfl); exact rfl; rintro _ rfl))
                all_goals try (exfalso; omega)
                have o1 := outE_set e2 t3.var.toNat (calcE op x y)
                have o2 := hasE_set e2 t3.var.toNat (calcE op x y)
                exact ⟨(i + 1, e2.set t3.var.toNat (some (calcE op x y))), ⟨by dsimp only; omega, q1, q2, f4⟩, ent_ren id ⟨rfl, rfl, rfl, rfl, rfl, trivial⟩ ⟨rfl, by rw [o1]; rfl, by rw [o2]; rfl, rfl, trivial⟩ rfl rfl rfl rfl rfl rfl, by show r.body.length - (i + 1) < r.body.length - i; omega⟩
      · have hr := recL_other (e := e2) (l := ⟨kind, op, pred, terms⟩) h4
        rw [hr] at f4
        repeat' (first | (apply ds_evC; exact rfl; (first | (with_reducible exact trivial) | omega); (with_reducible exact rfl); exact rfl; exact rfl; exact rfl) | (apply ds_skip; exact rfl; exact rfl) | apply ds_nil | apply dw_seq2 | (apply ds_region; exact rfl) | apply dw_exit | (apply dw_condT; exact rfl) | apply thenD_n | apply thenD_e | (apply inB_e; exact rfl) | ((fail_if_success (apply ds_known; exact rfl)); apply ds_guardP; exact rfl; exact rfl; exact rfl; all_goals intro hg))
        all_goals try (exfalso; omega)
        all_goals try (exfalso; exact hg h4)
        exact ⟨(i + 1, e2), ⟨by dsimp only; omega, f2, f3, f4⟩, ent_ren id ⟨rfl, rfl, rfl, rfl, rfl, trivial⟩ ⟨rfl, rfl, rfl, rfl, trivial⟩ rfl rfl rfl rfl rfl rfl, by show r.body.length - (i + 1) < r.body.length - i; omega⟩
    · rw [List.drop_of_length_le (by omega)] at f4
      have f4' : recP r.body e1 = some e2 := f4
      rw [f4'] at g4
      repeat' (first | (apply ds_slD; exact rfl; exact rfl; exact rfl; exact rfl; exact rfl; exact rfl; (refine ⟨?_, ?_, ?_⟩ <;> (omega)); ((with_reducible apply hv_take); (exact nat_add_2 _)); exact rfl; exact rfl) | (apply ds_evC; exact rfl; (first | (with_reducible exact trivial) | omega); (first | ((with_reducible apply hv_row); (exact rfl); (omega)) | (with_reducible exact rfl)); exact rfl; exact rfl; exact rfl) | (apply ds_skip; exact rfl; exact rfl) | apply ds_nil | apply dw_seq2 | (apply ds_region; exact rfl) | apply dw_block | apply dw_skip | apply dw_exit | (apply dw_condT; exact rfl) | apply thenD_n | apply thenD_e | apply inB_n | (apply inB_e; exact rfl) | (apply ds_newC; exact rfl; (with_reducible exact trivial); exact rfl; exact rfl; exact rfl) | (apply ds_setC; exact rfl; exact rfl; exact rfl; exact rfl) | (apply dw_condP; exact rfl; all_goals intro hg) | ((fail_if_success (apply ds_known; exact rfl)); apply ds_guardP; exact rfl; exact rfl; exact rfl; all_goals intro hg))
      all_goals try (exfalso; omega)
      exact ⟨(n + 1, e2), ⟨by dsimp only; omega, f2, f3, g4⟩, ent_ren id ⟨rfl, rfl, rfl, rfl, trivial⟩ ⟨rfl, rfl, rfl, rfl, trivial⟩ rfl rfl rfl rfl rfl rfl, by show r.body.length + 1 - (n + 1) < r.body.length + 1 - n; omega⟩
  · have hz : r.body.length + 1 - n = 0 := by omega
    rw [hz] at g4
    have g4' : recN r.body (r.body.length + 1) e = some e1 := g4
    rw [g4']
    repeat' (first | (apply ds_evC; exact rfl; (with_reducible exact trivial); (with_reducible exact rfl); exact rfl; exact rfl; exact rfl) | apply ds_nil | apply dw_seq2 | (apply ds_region; exact rfl) | apply dw_block | apply dw_skip | apply dw_exit | apply dw_ret | apply thenD_n | apply thenD_e | (apply inB_e; exact rfl) | (apply dw_condP; exact rfl; all_goals intro hg))
    all_goals try (exfalso; omega)
    exact ⟨.inl rfl, _, rfl, id, 4, _, rkH r S out m e1, rfl, ⟨rfl, rfl, rfl, rfl, trivial⟩, rfl, rfl, rfl, rfl, rfl, rfl, rfl, rfl⟩
end Go.Proofs.YtapciiffpnociabGreat
