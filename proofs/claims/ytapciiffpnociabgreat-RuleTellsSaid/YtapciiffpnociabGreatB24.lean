/- Several texts in one: RuN RuO. Condition: none. -/
import Derived.Test.YtapciiffpnociabGreatB23
import Derived.Test.YtapciiffpnociabGreatB16

/- The document's HeadsOf. Condition: none. -/
namespace Go.Proofs.YtapciiffpnociabGreat
open Go Go.RowKit
structure HeadOk (arity : List Int) (r : Rul) (ways : List (List Int)) : Prop where
  rul : RulR arity r
  many : ways.length ≤ 2000
  len : ∀ w ∈ ways, w.length = r.vars.toNat
  nums : ∀ w ∈ ways, ∀ y ∈ w, -1000000 ≤ y ∧ y ≤ 1000000
  tlen : r.terms.length ≤ 3
def headD (r : Rul) (ways : List (List Int)) (w : List Int) : Option Fct := if r.fold = 0 then some ⟨r.pred, aW r w⟩
  else if numB (foldN r.fold (grpL (ways.map (pW r)) (pW r w).1)) then some ⟨r.pred, (pW r w).1 ++ [foldN r.fold (grpL (ways.map (pW r)) (pW r w).1)]⟩ else none
theorem headsD_eq (r : Rul) (ways : List (List Int)) : headsD r ways = ways.filterMap (headD r ways) := by
  unfold headsD
  by_cases h : r.fold = 0
  · rw [if_pos h, ← List.filterMap_eq_map]
    congr 1
    funext w
    unfold headD
    rw [if_pos h]; rfl
  · rw [if_neg h]
    congr 1
    funext w
    unfold headD
    rw [if_neg h]
theorem HeadOk.terms {arity : List Int} {r : Rul} {ways : List (List Int)} (h : HeadOk arity r ways) {w : List Int} (hw : w ∈ ways) : ∀ t ∈ r.terms, okT w.length t := by
  intro t ht
  have h1 := h.rul.terms t ht
  have h2 := h.rul.vars
  rw [h.len w hw]
  unfold okT
  omega
theorem HeadOk.vals {arity : List Int} {r : Rul} {ways : List (List Int)} (h : HeadOk arity r ways) {w : List Int} (hw : w ∈ ways) : ∀ x ∈ aW r w, -1000000 ≤ x ∧ x ≤ 1000000 := by
  intro x hx
  obtain ⟨t, ht, rfl⟩ := List.mem_map.1 hx
  unfold vA
  split
  · exact (h.rul.terms t ht).2.2
  · rename_i hv
    have hlt : t.var.toNat < w.length := by have := h.terms hw t ht; unfold okT at this; omega
    rw [List.getD, List.getElem?_eq_getElem hlt]
    exact h.nums w hw _ (List.getElem_mem hlt)
theorem sameI_eq (a b : List Int) : sameL sameI a b = decide (a = b) := by
  by_cases h : a = b
  · subst h
    rw [decide_eq_true rfl]
    induction a with
    | nil => rfl
    | cons x a ih => unfold sameL; simp [sameI, ih]
  · rw [decide_eq_false h]
    cases hs : sameL sameI a b with
    | false => rfl
    | true =>
      exfalso; apply h
      clear h
      induction a generalizing b with
      | nil => cases b with | nil => rfl | cons y b => simp [sameL] at hs
      | cons x a ih =>
        cases b with
        | nil => simp [sameL] at hs
        | cons y b =>
          simp only [sameL, sameI, Bool.and_eq_true, decide_eq_true_eq] at hs
          rw [hs.1, ih b hs.2]
theorem filterMap_take {α β : Type} (f : α → Option β) {l : List α} {i : Nat} (hi : i < l.length) : (l.take (i + 1)).filterMap f = (l.take i).filterMap f ++ (f l[i]).toList := by
  rw [List.take_succ_eq_append_getElem hi, List.filterMap_append, List.filterMap_cons, List.filterMap_nil]
  cases f l[i] <;> rfl
theorem filterMap_len {α β : Type} (f : α → Option β) (l : List α) (i : Nat) : ((l.take i).filterMap f).length ≤ i := Nat.le_trans (List.length_filterMap_le _ _) (by rw [List.length_take]; omega)
theorem fold_small (fold : Int) : ∀ (l : List Int) (n m B : Int), 0 ≤ m → 0 ≤ B → -B ≤ n → n ≤ B → m ≤ B → (∀ x ∈ l, -1000000 ≤ x ∧ x ≤ 1000000) →
    -(B + 1000000 * l.length) ≤ (l.foldl (stepN fold) (n, m)).1 ∧ (l.foldl (stepN fold) (n, m)).1 ≤ B + 1000000 * l.length ∧ (l.foldl (stepN fold) (n, m)).2 = m + l.length
  | [], n, m, B, _, _, h1, h2, _, _ => by simp; omega
  | x :: l, n, m, B, h0, hB, h1, h2, h3, hl => by
    have hx := hl x (List.mem_cons_self ..)
    rw [List.foldl_cons]
    have hs : -(B + 1000000) ≤ (stepN fold (n, m) x).1 ∧ (stepN fold (n, m) x).1 ≤ B + 1000000 ∧ (stepN fold (n, m) x).2 = m + 1 := by
      unfold stepN
      dsimp only
      refine ⟨?_, ?_, rfl⟩ <;> (repeat' split) <;> omega
    generalize hst : stepN fold (n, m) x = st at hs
    obtain ⟨n', m'⟩ := st
    dsimp only at hs
    obtain ⟨s1, s2, rfl⟩ := hs
    obtain ⟨r1, r2, r3⟩ := fold_small fold l n' (m + 1) (B + 1000000) (by omega) (by omega) s1 s2 (by omega) fun y hy => hl y (List.mem_cons_of_mem _ hy)
    rw [List.length_cons]
    refine ⟨by omega, by omega, by omega⟩
attribute [local irreducible] DW DS DL DQ Ev FnOk FnP thenD inBlockD DT
set_option maxHeartbeats 8000000 in
theorem headsOf_fn (arity : List Int) (r : Rul) (ways : List (List Int)) (hok : HeadOk arity r ways) : Fn 40 [elRul r, .d (.slice 1 (ways.map encW))] (fun res => res = .d (.slice 2 ((setF' (headsD r ways)).map encFct))) := by
  refine fnp_enter' _ Tryz.func40 rfl rfl (by kernel_rfl) ?_
  intro O w0 E0 β0
  rw [headsD_eq]
  have hmany := hok.many
  have htl := hok.tlen
  have lw : (ways.map encW).length = ways.length := List.length_map _
  have lt : (r.terms.map encTrm).length = r.terms.length := List.length_map _
  have wset := setOf_fn (ways.filterMap (headD r ways)) (Nat.le_trans (List.length_filterMap_le _ _) (by omega))
  by_cases h0 : r.fold = 0
  · repeat' ((fail_if_success (apply dw_stopR 3)); (first | (apply ds_evC; exact rfl; (first | (with_reducible exact trivial) | omega); (with_reducible exact rfl); exact rfl; exact rfl; exact rfl) | apply ds_nil | apply dw_seq2 | (apply ds_region; exact rfl) | apply thenD_n | (apply ds_newC; exact rfl; (with_reducible exact trivial); exact rfl; exact rfl; exact rfl)))
    refine dw_ent (ent_nilrow (t := 5) 95 2 rfl) ?_
    repeat' (first | (apply ds_evC; exact rfl; (with_reducible exact trivial); (with_reducible exact rfl); exact rfl; exact rfl; exact rfl) | apply ds_nil | apply dw_seq2 | (apply ds_region; exact rfl) | apply dw_block | apply thenD_n)
    refine ds_loop (ι := Nat) (fun i => ⟨2, [(1, .d (.slice 1 (ways.map encW))), (2, .loc 0 0), (5, .row 1), (7, .d (.int .i64 i))], [(0, .blk 87 [.d (.int .i64 r.pred), .d (.slice 2 (r.terms.map encTrm)), .d (.int .i64 r.fold), .d (.slice 4 (r.body.map encLtl)), .d (.int .i64 r.vars)]), (1, .row 95 2 (((ways.take i).filterMap (headD r ways)).map encFct))]⟩)
      (fun i => i ≤ ways.length) (fun i => ways.length - i) 0 (Nat.zero_le _) (ent_ren id ⟨rfl, rfl, rfl, rfl, trivial⟩ ⟨rfl, rfl, trivial⟩ rfl rfl rfl rfl rfl rfl) ?_
    intro i g1
    by_cases hi : i < ways.length
    · have hm := List.getElem_mem hi
      have w1 := argsOf_fn r.terms ways[i] (hok.terms hm) (by omega)
      have hst := filterMap_take (headD r ways) hi
      have hhd : headD r ways ways[i] = some ⟨r.pred, aW r ways[i]⟩ := by unfold headD; rw [if_pos h0]
      rw [hhd] at hst
      have lo : ((ways.take i).filterMap (headD r ways)).length ≤ i := filterMap_len _ _ _
      clear wset
      repeat' (first | (apply ds_evC; exact rfl; (first | (with_reducible exact trivial) | omega); (with_reducible exact rfl); exact rfl; exact rfl; exact rfl) | apply ds_nil | (apply dt_ev; exact rfl; exact rfl; (first | (with_reducible exact trivial) | omega); (first | ((with_reducible apply hv_row); (exact rfl); (omega)) | (with_reducible exact rfl)); exact rfl; exact rfl; exact rfl; exact rfl) | (apply dt_nil0; exact rfl; exact rfl; exact rfl; exact rfl) | apply dw_seq2 | (apply ds_region; exact rfl) | (apply dw_any; kernel_rfl; kernel_rfl; exact rfl; exact rfl) | apply dw_block | apply dw_skip | apply dw_exit | apply thenD_n | apply thenD_e | (apply inB_e; exact rfl) | (apply dt_call; exact rfl; exact rfl; apply w1; exact rfl; (exact rfl); exact rfl; exact rfl; exact ⟨_, rfl⟩; rintro _ rfl) | (apply ds_bsC; exact rfl; exact rfl; exact rfl; exact rfl) | (apply ds_tradeC; exact rfl; (unfold maxLen; simp <;> omega); exact rfl; exact rfl; exact rfl; exact rfl) | (apply dw_condP; exact rfl; all_goals intro hg))
      all_goals try (exfalso; omega)
      exact ⟨i + 1, hi, ent_ren (fun j => match j with | 1 => 2 | j => j) ⟨rfl, rfl, rfl, rfl, trivial⟩ ⟨rfl, by rw [hst, List.map_append]; rfl, trivial⟩ rfl rfl rfl rfl rfl rfl, by omega⟩
    · rw [List.take_of_length_le (by omega)]
      repeat' (first | (apply ds_evC; exact rfl; (with_reducible exact trivial); (with_reducible exact rfl); exact rfl; exact rfl; exact rfl) | apply ds_nil | (apply dt_ev; exact rfl; exact rfl; (first | (with_reducible exact trivial) | omega); (first | ((with_reducible apply hv_row); (exact rfl); (omega)) | (with_reducible exact rfl)); exact rfl; exact rfl; exact rfl; exact rfl) | apply dw_seq2 | (apply ds_region; exact rfl) | (apply dw_any; kernel_rfl; kernel_rfl; exact rfl; exact rfl) | apply dw_block | apply dw_skip | apply dw_exit | apply thenD_n | apply thenD_e | (apply inB_e; exact rfl) | (apply dw_condP; exact rfl; all_goals intro hg))
      all_goals try (exfalso; omega)
      refine ds_ent (ent_seal 127 rfl rfl rfl) ?_
      repeat' (first | (apply ds_evC; exact rfl; (with_reducible exact trivial); (with_reducible exact rfl); exact rfl; exact rfl; exact rfl) | apply ds_nil | apply dw_ret | apply thenD_n | (apply ds_call; exact rfl; exact rfl; apply wset; exact rfl; (exact rfl); exact rfl; rintro _ rfl))
      exact ⟨.inl rfl, _, rfl, rfl, rfl⟩
  · have hpos := (hok.rul.folded h0).1
    obtain ⟨m, hm⟩ : ∃ m, r.terms.length = m + 1 := ⟨r.terms.length - 1, by omega⟩
    have hfold := hok.rul.fold
    repeat' ((fail_if_success (apply dw_stopR 3)); (first | (apply ds_evC; exact rfl; (first | (with_reducible exact trivial) | omega); (with_reducible exact rfl); exact rfl; exact rfl; exact rfl) | apply ds_nil | apply dw_seq2 | (apply ds_region; exact rfl) | apply thenD_n | (apply ds_newC; exact rfl; (with_reducible exact trivial); exact rfl; exact rfl; exact rfl)))
    refine dw_ent (ent_nilrow (t := 5) 95 2 rfl) ?_
    repeat' (first | (apply ds_evC; exact rfl; (with_reducible exact trivial); (with_reducible exact rfl); exact rfl; exact rfl; exact rfl) | apply ds_nil | apply dw_seq2 | (apply ds_region; exact rfl) | apply dw_block | apply thenD_n)
    refine ds_loop (ι := Nat) (fun i => ⟨2, [(1, .d (.slice 1 (ways.map encW))), (2, .loc 0 0), (5, .row 1), (6, .d (.int .i64 m)), (7, .d (.int .i64 i))], [(0, .blk 87 [.d (.int .i64 r.pred), .d (.slice 2 (r.terms.map encTrm)), .d (.int .i64 r.fold), .d (.slice 4 (r.body.map encLtl)), .d (.int .i64 r.vars)]), (1, .row 95 2 (((ways.take i).filterMap (headD r ways)).map encFct))]⟩)
      (fun i => i ≤ ways.length) (fun i => ways.length - i) 0 (Nat.zero_le _) (ent_ren id ⟨rfl, rfl, rfl, congrArg (fun z => SV.d (D.int .i64 z)) (show ((r.terms.map encTrm).length : Int) - 1 = m by omega), rfl, trivial⟩ ⟨rfl, rfl, trivial⟩ rfl rfl rfl rfl rfl rfl) ?_
    intro i g1
    dsimp only at g1 ⊢
    by_cases hi : i < ways.length
    · have hmi := List.getElem_mem hi
      have w1 := argsOf_fn r.terms ways[i] (hok.terms hmi) (by omega)
      have hst := filterMap_take (headD r ways) hi
      have lo : ((ways.take i).filterMap (headD r ways)).length ≤ i := filterMap_len _ _ _
      have hla : (aW r ways[i]).length = m + 1 := by unfold aW; rw [List.length_map]; exact hm
      have lla : ((aW r ways[i]).map encI).length = m + 1 := by rw [List.length_map]; exact hla
      have hp : (pW r ways[i]).1 = (aW r ways[i]).take m := by unfold pW; rw [hm]; rfl
      clear wset
      rw [show r.terms.map (vA ways[i]) = aW r ways[i] from rfl] at w1
      repeat' ((fail_if_success (apply dw_stopR 10)); (first | (apply ds_evC; exact rfl; (first | (with_reducible exact trivial) | omega); (with_reducible exact rfl); exact rfl; exact rfl; exact rfl) | apply ds_nil | (apply dt_ev; exact rfl; exact rfl; (first | (with_reducible exact trivial) | omega); (first | ((with_reducible apply hv_row); (exact rfl); (omega)) | (with_reducible exact rfl)); exact rfl; exact rfl; exact rfl; exact rfl) | (apply dt_nil0; exact rfl; exact rfl; exact rfl; exact rfl) | apply dw_seq2 | (apply ds_region; exact rfl) | (apply dw_any; kernel_rfl; kernel_rfl; exact rfl; exact rfl) | apply dw_block | apply dw_skip | apply dw_exit | apply thenD_n | apply thenD_e | (apply inB_e; exact rfl) | (apply dt_call; exact rfl; exact rfl; apply w1; exact rfl; (exact rfl); exact rfl; exact rfl; exact ⟨_, rfl⟩; rintro _ rfl) | (apply ds_bsC; exact rfl; exact rfl; exact rfl; exact rfl) | (apply ds_tradeC; exact rfl; (omega); exact rfl; exact rfl; exact rfl; exact rfl) | (apply dw_condP; exact rfl; all_goals intro hg)))
      all_goals try (exfalso; omega)
      generalize hP : (pW r ways[i]).1 = P at hp
      refine dw_cut (ι := Unit) (fun _ => ⟨2, [(1, .d (.slice 1 (ways.map encW))), (2, .loc 0 0), (5, .row 1), (6, .d (.int .i64 m)), (7, .d (.int .i64 i)), (8, .d (.slice 1 ((aW r ways[i]).map encI))), (9, .d (.int .i64 (foldN r.fold (grpL (ways.map (pW r)) P))))], [(0, .blk 87 [.d (.int .i64 r.pred), .d (.slice 2 (r.terms.map encTrm)), .d (.int .i64 r.fold), .d (.slice 4 (r.body.map encLtl)), .d (.int .i64 r.vars)]), (1, .row 95 2 (((ways.take i).filterMap (headD r ways)).map encFct))]⟩) (fun _ => True) ?_ ?_
      · repeat' (first | (apply ds_evC; exact rfl; (with_reducible exact trivial); (with_reducible exact rfl); exact rfl; exact rfl; exact rfl) | apply ds_nil | apply dw_seq2 | (apply ds_region; exact rfl) | apply dw_block | apply thenD_n)
        refine ds_loop (ι := Nat × Int × Int) (fun x => ⟨2, [(1, .d (.slice 1 (ways.map encW))), (2, .loc 0 0), (5, .row 1), (6, .d (.int .i64 m)), (7, .d (.int .i64 i)), (8, .d (.slice 1 ((aW r ways[i]).map encI))), (9, .d (.int .i64 x.2.1)), (10, .d (.int .i64 x.2.2)), (11, .d (.int .i64 x.1))], [(0, .blk 87 [.d (.int .i64 r.pred), .d (.slice 2 (r.terms.map encTrm)), .d (.int .i64 r.fold), .d (.slice 4 (r.body.map encLtl)), .d (.int .i64 r.vars)]), (1, .row 95 2 (((ways.take i).filterMap (headD r ways)).map encFct))]⟩)
          (fun x => x.1 ≤ ways.length ∧ (grpL ((ways.take x.1).map (pW r)) P).foldl (stepN r.fold) (0, 0) = (x.2.1, x.2.2)) (fun x => ways.length - x.1) (0, 0, 0) ⟨Nat.zero_le _, rfl⟩ (ent_ren id ⟨rfl, rfl, rfl, rfl, rfl, rfl, rfl, rfl, rfl, trivial⟩ ⟨rfl, rfl, trivial⟩ rfl rfl rfl rfl rfl rfl) ?_
        rintro ⟨k, n, mm⟩ ⟨f1, f2⟩
        dsimp only at f1 f2 ⊢
        by_cases hk : k < ways.length
        · have hmk := List.getElem_mem hk
          have w2 := argsOf_fn r.terms ways[k] (hok.terms hmk) (by omega)
          rw [show r.terms.map (vA ways[k]) = aW r ways[k] from rfl] at w2
          have hlb : (aW r ways[k]).length = m + 1 := by unfold aW; rw [List.length_map]; exact hm
          have llb : ((aW r ways[k]).map encI).length = m + 1 := by rw [List.length_map]; exact hlb
          have hvb := hok.vals hmk
          have w3 := sameInts_fn ((aW r ways[i]).take m) ((aW r ways[k]).take m)
          rw [sameI_eq] at w3
          have hst2 : grpL ((ways.take (k + 1)).map (pW r)) P = grpL ((ways.take k).map (pW r)) P ++ if (pW r ways[k]).1 = P then [(pW r ways[k]).2] else [] := by
            rw [List.take_succ_eq_append_getElem hk, List.map_append]; exact grpL_snoc _ _ _
          have hpk : (pW r ways[k]).1 = (aW r ways[k]).take m := by unfold pW; rw [hm]; rfl
          have hx : (pW r ways[k]).2 = (aW r ways[k])[m]'(by omega) := by
            unfold pW; rw [hm]; simp only [Nat.add_sub_cancel]; rw [List.getD, List.getElem?_eq_getElem (by omega)]; rfl
          have hxb := hvb _ (List.getElem_mem (show m < (aW r ways[k]).length by omega))
          have hsm := fold_small r.fold (grpL ((ways.take k).map (pW r)) P) 0 0 0 (Int.le_refl _) (Int.le_refl _) (by omega) (Int.le_refl _) (Int.le_refl _) (fun x hx => by
            obtain ⟨z, hz, rfl⟩ := List.mem_map.1 hx
            obtain ⟨u, hu, rfl⟩ := List.mem_map.1 (List.mem_filter.1 hz).1
            have hu' := List.mem_of_mem_take hu
            have := hok.vals hu'
            unfold pW
            rw [hm]
            simp only [Nat.add_sub_cancel]
            have hlu : m < (aW r u).length := by unfold aW; rw [List.length_map]; omega
            rw [List.getD, List.getElem?_eq_getElem hlu]
            exact this _ (List.getElem_mem hlu))
          have hgl : (grpL ((ways.take k).map (pW r)) P).length ≤ k := by
            unfold grpL
            rw [List.length_map]
            refine Nat.le_trans (List.length_filter_le _ _) ?_
            rw [List.length_map, List.length_take]; omega
          rw [f2] at hsm
          dsimp only at hsm
          by_cases he : (aW r ways[i]).take m = (aW r ways[k]).take m
          · rw [decide_eq_true he] at w3
            rw [if_pos (by rw [hpk, ← he, ← hp])] at hst2
            have f3 : (grpL ((ways.take (k + 1)).map (pW r)) P).foldl (stepN r.fold) (0, 0) = stepN r.fold (n, mm) ((aW r ways[k])[m]'(by omega)) := by rw [hst2, List.foldl_append, f2, hx]; rfl
            clear hst2 w1
            have fin : ∀ (val : Int), stepN r.fold (n, mm) ((aW r ways[k])[m]'(by omega)) = (val, mm + 1) → (grpL ((ways.take (k + 1)).map (pW r)) P).foldl (stepN r.fold) (0, 0) = (val, mm + 1) := fun val h => f3.trans h
            by_cases q1 : r.fold = 1
            · have hs : stepN r.fold (n, mm) ((aW r ways[k])[m]'(by omega)) = (mm + 1, mm + 1) := by unfold stepN; dsimp only; rw [if_pos q1]
              repeat' (first | (apply ds_evC; exact rfl; (first | (with_reducible exact trivial) | omega); (first | ((with_reducible apply hv_row); (exact rfl); (omega)) | (with_reducible exact rfl)); exact rfl; exact rfl; exact rfl) | (apply ds_skip; exact rfl; exact rfl) | apply ds_nil | (apply dt_ev; exact rfl; exact rfl; (first | (with_reducible exact trivial) | omega); (first | ((with_reducible apply hv_sltake); (exact rfl)) | ((with_reducible apply hv_row); (exact rfl); (omega)) | (with_reducible exact rfl)); exact rfl; exact rfl; exact rfl; exact rfl) | (apply dt_nil0; exact rfl; exact rfl; exact rfl; exact rfl) | apply dw_seq2 | (apply ds_region; exact rfl) | (apply dw_any; kernel_rfl; kernel_rfl; exact rfl; exact rfl) | apply dw_block | apply dw_skip | apply dw_exit | (apply dw_condT; exact rfl) | (apply dw_condF; exact rfl) | apply thenD_n | apply thenD_e | apply inB_n | (apply inB_e; exact rfl) | (apply dt_call; exact rfl; exact rfl; apply w2; exact rfl; (exact rfl); exact rfl; exact rfl; exact ⟨_, rfl⟩; rintro _ rfl) | (apply dt_call; exact rfl; exact rfl; apply w3; exact rfl; (exact rfl); exact rfl; exact rfl; exact ⟨_, rfl⟩; rintro _ rfl) | (apply dw_condP; exact rfl; all_goals intro hg) | ((fail_if_success (apply ds_known; exact rfl)); apply ds_guardP; exact rfl; exact rfl; exact rfl; all_goals intro hg))
              all_goals try (exfalso; omega)
              all_goals exact ⟨(k + 1, mm + 1, mm + 1), ⟨hk, fin _ hs⟩, ent_ren id ⟨rfl, rfl, rfl, rfl, rfl, rfl, rfl, rfl, rfl, trivial⟩ ⟨rfl, rfl, trivial⟩ rfl rfl rfl rfl rfl rfl, by show ways.length - (k + 1) < ways.length - k; omega⟩
            · by_cases q2 : r.fold = 2
              · have hs : stepN r.fold (n, mm) ((aW r ways[k])[m]'(by omega)) = (n + (aW r ways[k])[m]'(by omega), mm + 1) := by unfold stepN; dsimp only; rw [if_neg q1, if_pos q2]
                repeat' (first | (apply ds_evC; exact rfl; (first | (with_reducible exact trivial) | omega); (first | ((with_reducible apply hv_row); (exact rfl); (omega)) | (with_reducible exact rfl)); exact rfl; exact rfl; exact rfl) | (apply ds_skip; exact rfl; exact rfl) | apply ds_nil | (apply dt_ev; exact rfl; exact rfl; (first | (with_reducible exact trivial) | omega); (first | ((with_reducible apply hv_sltake); (exact rfl)) | ((with_reducible apply hv_row); (exact rfl); (omega)) | (with_reducible exact rfl)); exact rfl; exact rfl; exact rfl; exact rfl) | (apply dt_nil0; exact rfl; exact rfl; exact rfl; exact rfl) | apply dw_seq2 | (apply ds_region; exact rfl) | (apply dw_any; kernel_rfl; kernel_rfl; exact rfl; exact rfl) | apply dw_block | apply dw_skip | apply dw_exit | (apply dw_condT; exact rfl) | (apply dw_condF; exact rfl) | apply thenD_n | apply thenD_e | apply inB_n | (apply inB_e; exact rfl) | (apply dt_call; exact rfl; exact rfl; apply w2; exact rfl; (exact rfl); exact rfl; exact rfl; exact ⟨_, rfl⟩; rintro _ rfl) | (apply dt_call; exact rfl; exact rfl; apply w3; exact rfl; (exact rfl); exact rfl; exact rfl; exact ⟨_, rfl⟩; rintro _ rfl) | (apply dw_condP; exact rfl; all_goals intro hg) | ((fail_if_success (apply ds_known; exact rfl)); apply ds_guardP; exact rfl; exact rfl; exact rfl; all_goals intro hg))
                all_goals try (exfalso; omega)
                all_goals exact ⟨(k + 1, n + (aW r ways[k])[m]'(by omega), mm + 1), ⟨hk, fin _ hs⟩, ent_ren id ⟨rfl, rfl, rfl, rfl, rfl, rfl, rfl, rfl, rfl, trivial⟩ ⟨rfl, rfl, trivial⟩ rfl rfl rfl rfl rfl rfl, by show ways.length - (k + 1) < ways.length - k; omega⟩
              · by_cases q3 : mm + 1 = 1
                · have hs : stepN r.fold (n, mm) ((aW r ways[k])[m]'(by omega)) = ((aW r ways[k])[m]'(by omega), mm + 1) := by unfold stepN; dsimp only; rw [if_neg q1, if_neg q2, if_pos (.inl q3)]
                  repeat' (first | (apply ds_evC; exact rfl; (first | (with_reducible exact trivial) | omega); (first | ((with_reducible apply hv_row); (exact rfl); (omega)) | (with_reducible exact rfl)); exact rfl; exact rfl; exact rfl) | (apply ds_skip; exact rfl; exact rfl) | apply ds_nil | (apply dt_ev; exact rfl; exact rfl; (first | (with_reducible exact trivial) | omega); (first | ((with_reducible apply hv_sltake); (exact rfl)) | ((with_reducible apply hv_row); (exact rfl); (omega)) | (with_reducible exact rfl)); exact rfl; exact rfl; exact rfl; exact rfl) | (apply dt_nil0; exact rfl; exact rfl; exact rfl; exact rfl) | apply dw_seq2 | (apply ds_region; exact rfl) | (apply dw_any; kernel_rfl; kernel_rfl; exact rfl; exact rfl) | apply dw_block | apply dw_skip | apply dw_exit | (apply dw_condT; exact rfl) | (apply dw_condF; exact rfl) | apply thenD_n | apply thenD_e | apply inB_n | (apply inB_e; exact rfl) | (apply dt_call; exact rfl; exact rfl; apply w2; exact rfl; (exact rfl); exact rfl; exact rfl; exact ⟨_, rfl⟩; rintro _ rfl) | (apply dt_call; exact rfl; exact rfl; apply w3; exact rfl; (exact rfl); exact rfl; exact rfl; exact ⟨_, rfl⟩; rintro _ rfl) | (apply dw_condP; exact rfl; all_goals intro hg) | ((fail_if_success (apply ds_known; exact rfl)); apply ds_guardP; exact rfl; exact rfl; exact rfl; all_goals intro hg))
                  all_goals try (exfalso; omega)
                  all_goals exact ⟨(k + 1, (aW r ways[k])[m]'(by omega), mm + 1), ⟨hk, fin _ hs⟩, ent_ren id ⟨rfl, rfl, rfl, rfl, rfl, rfl, rfl, rfl, rfl, trivial⟩ ⟨rfl, rfl, trivial⟩ rfl rfl rfl rfl rfl rfl, by show ways.length - (k + 1) < ways.length - k; omega⟩
                · by_cases q4 : r.fold = 3
                  · by_cases q5 : ((aW r ways[k])[m]'(by omega)) < n
                    · have hs : stepN r.fold (n, mm) ((aW r ways[k])[m]'(by omega)) = ((aW r ways[k])[m]'(by omega), mm + 1) := by unfold stepN; dsimp only; rw [if_neg q1, if_neg q2, if_pos (.inr (.inl ⟨q4, q5⟩))]
                      repeat' (first | (apply ds_evC; exact rfl; (first | (with_reducible exact trivial) | omega); (first | ((with_reducible apply hv_row); (exact rfl); (omega)) | (with_reducible exact rfl)); exact rfl; exact rfl; exact rfl) | (apply ds_skip; exact rfl; exact rfl) | apply ds_nil | (apply dt_ev; exact rfl; exact rfl; (first | (with_reducible exact trivial) | omega); (first | ((with_reducible apply hv_sltake); (exact rfl)) | ((with_reducible apply hv_row); (exact rfl); (omega)) | (with_reducible exact rfl)); exact rfl; exact rfl; exact rfl; exact rfl) | (apply dt_nil0; exact rfl; exact rfl; exact rfl; exact rfl) | apply dw_seq2 | (apply ds_region; exact rfl) | (apply dw_any; kernel_rfl; kernel_rfl; exact rfl; exact rfl) | apply dw_block | apply dw_skip | apply dw_exit | (apply dw_condT; exact rfl) | (apply dw_condF; exact rfl) | apply thenD_n | apply thenD_e | apply inB_n | (apply inB_e; exact rfl) | (apply dt_call; exact rfl; exact rfl; apply w2; exact rfl; (exact rfl); exact rfl; exact rfl; exact ⟨_, rfl⟩; rintro _ rfl) | (apply dt_call; exact rfl; exact rfl; apply w3; exact rfl; (exact rfl); exact rfl; exact rfl; exact ⟨_, rfl⟩; rintro _ rfl) | (apply dw_condP; exact rfl; all_goals intro hg) | ((fail_if_success (apply ds_known; exact rfl)); apply ds_guardP; exact rfl; exact rfl; exact rfl; all_goals intro hg))
                      all_goals try (exfalso; omega)
                      all_goals exact ⟨(k + 1, (aW r ways[k])[m]'(by omega), mm + 1), ⟨hk, fin _ hs⟩, ent_ren id ⟨rfl, rfl, rfl, rfl, rfl, rfl, rfl, rfl, rfl, trivial⟩ ⟨rfl, rfl, trivial⟩ rfl rfl rfl rfl rfl rfl, by show ways.length - (k + 1) < ways.length - k; omega⟩
                    · have hs : stepN r.fold (n, mm) ((aW r ways[k])[m]'(by omega)) = (n, mm + 1) := by unfold stepN; dsimp only; rw [if_neg q1, if_neg q2, if_neg (by omega)]
                      repeat' (first | (apply ds_evC; exact rfl; (first | (with_reducible exact trivial) | omega); (first | ((with_reducible apply hv_row); (exact rfl); (omega)) | (with_reducible exact rfl)); exact rfl; exact rfl; exact rfl) | (apply ds_skip; exact rfl; exact rfl) | apply ds_nil | (apply dt_ev; exact rfl; exact rfl; (first | (with_reducible exact trivial) | omega); (first | ((with_reducible apply hv_sltake); (exact rfl)) | ((with_reducible apply hv_row); (exact rfl); (omega)) | (with_reducible exact rfl)); exact rfl; exact rfl; exact rfl; exact rfl) | (apply dt_nil0; exact rfl; exact rfl; exact rfl; exact rfl) | apply dw_seq2 | (apply ds_region; exact rfl) | (apply dw_any; kernel_rfl; kernel_rfl; exact rfl; exact rfl) | apply dw_block | apply dw_skip | apply dw_exit | (apply dw_condT; exact rfl) | (apply dw_condF; exact rfl) | apply thenD_n | apply thenD_e | apply inB_n | (apply inB_e; exact rfl) | (apply dt_call; exact rfl; exact rfl; apply w2; exact rfl; (exact rfl); exact rfl; exact rfl; exact ⟨_, rfl⟩; rintro _ rfl) | (apply dt_call; exact rfl; exact rfl; apply w3; exact rfl; (exact rfl); exact rfl; exact rfl; exact ⟨_, rfl⟩; rintro _ rfl) | (apply dw_condP; exact rfl; all_goals intro hg) | ((fail_if_success (apply ds_known; exact rfl)); apply ds_guardP; exact rfl; exact rfl; exact rfl; all_goals intro hg))
                      all_goals try (exfalso; omega)
                      all_goals exact ⟨(k + 1, n, mm + 1), ⟨hk, fin _ hs⟩, ent_ren id ⟨rfl, rfl, rfl, rfl, rfl, rfl, rfl, rfl, rfl, trivial⟩ ⟨rfl, rfl, trivial⟩ rfl rfl rfl rfl rfl rfl, by show ways.length - (k + 1) < ways.length - k; omega⟩
                  · by_cases q5 : n < ((aW r ways[k])[m]'(by omega))
                    · have hs : stepN r.fold (n, mm) ((aW r ways[k])[m]'(by omega)) = ((aW r ways[k])[m]'(by omega), mm + 1) := by unfold stepN; dsimp only; rw [if_neg q1, if_neg q2, if_pos (.inr (.inr ⟨by omega, q5⟩))]
                      repeat' (first | (apply ds_evC; exact rfl; (first | (with_reducible exact trivial) | omega); (first | ((with_reducible apply hv_row); (exact rfl); (omega)) | (with_reducible exact rfl)); exact rfl; exact rfl; exact rfl) | (apply ds_skip; exact rfl; exact rfl) | apply ds_nil | (apply dt_ev; exact rfl; exact rfl; (first | (with_reducible exact trivial) | omega); (first | ((with_reducible apply hv_sltake); (exact rfl)) | ((with_reducible apply hv_row); (exact rfl); (omega)) | (with_reducible exact rfl)); exact rfl; exact rfl; exact rfl; exact rfl) | (apply dt_nil0; exact rfl; exact rfl; exact rfl; exact rfl) | apply dw_seq2 | (apply ds_region; exact rfl) | (apply dw_any; kernel_rfl; kernel_rfl; exact rfl; exact rfl) | apply dw_block | apply dw_skip | apply dw_exit | (apply dw_condT; exact rfl) | (apply dw_condF; exact rfl) | apply thenD_n | apply thenD_e | apply inB_n | (apply inB_e; exact rfl) | (apply dt_call; exact rfl; exact rfl; apply w2; exact rfl; (exact rfl); exact rfl; exact rfl; exact ⟨_, rfl⟩; rintro _ rfl) | (apply dt_call; exact rfl; exact rfl; apply w3; exact rfl; (exact rfl); exact rfl; exact rfl; exact ⟨_, rfl⟩; rintro _ rfl) | (apply dw_condP; exact rfl; all_goals intro hg) | ((fail_if_success (apply ds_known; exact rfl)); apply ds_guardP; exact rfl; exact rfl; exact rfl; all_goals intro hg))
                      all_goals try (exfalso; omega)
                      all_goals exact ⟨(k + 1, (aW r ways[k])[m]'(by omega), mm + 1), ⟨hk, fin _ hs⟩, ent_ren id ⟨rfl, rfl, rfl, rfl, rfl, rfl, rfl, rfl, rfl, trivial⟩ ⟨rfl, rfl, trivial⟩ rfl rfl rfl rfl rfl rfl, by show ways.length - (k + 1) < ways.length - k; omega⟩
                    · have hs : stepN r.fold (n, mm) ((aW r ways[k])[m]'(by omega)) = (n, mm + 1) := by unfold stepN; dsimp only; rw [if_neg q1, if_neg q2, if_neg (by omega)]
                      repeat' (first | (apply ds_evC; exact rfl; (first | (with_reducible exact trivial) | omega); (first | ((with_reducible apply hv_row); (exact rfl); (omega)) | (with_reducible exact rfl)); exact rfl; exact rfl; exact rfl) | (apply ds_skip; exact rfl; exact rfl) | apply ds_nil | (apply dt_ev; exact rfl; exact rfl; (first | (with_reducible exact trivial) | omega); (first | ((with_reducible apply hv_sltake); (exact rfl)) | ((with_reducible apply hv_row); (exact rfl); (omega)) | (with_reducible exact rfl)); exact rfl; exact rfl; exact rfl; exact rfl) | (apply dt_nil0; exact rfl; exact rfl; exact rfl; exact rfl) | apply dw_seq2 | (apply ds_region; exact rfl) | (apply dw_any; kernel_rfl; kernel_rfl; exact rfl; exact rfl) | apply dw_block | apply dw_skip | apply dw_exit | (apply dw_condT; exact rfl) | (apply dw_condF; exact rfl) | apply thenD_n | apply thenD_e | apply inB_n | (apply inB_e; exact rfl) | (apply dt_call; exact rfl; exact rfl; apply w2; exact rfl; (exact rfl); exact rfl; exact rfl; exact ⟨_, rfl⟩; rintro _ rfl) | (apply dt_call; exact rfl; exact rfl; apply w3; exact rfl; (exact rfl); exact rfl; exact rfl; exact ⟨_, rfl⟩; rintro _ rfl) | (apply dw_condP; exact rfl; all_goals intro hg) | ((fail_if_success (apply ds_known; exact rfl)); apply ds_guardP; exact rfl; exact rfl; exact rfl; all_goals intro hg))
                      all_goals try (exfalso; omega)
                      all_goals exact ⟨(k + 1, n, mm + 1), ⟨hk, fin _ hs⟩, ent_ren id ⟨rfl, rfl, rfl, rfl, rfl, rfl, rfl, rfl, rfl, trivial⟩ ⟨rfl, rfl, trivial⟩ rfl rfl rfl rfl rfl rfl, by show ways.length - (k + 1) < ways.length - k; omega⟩
          · rw [decide_eq_false he] at w3
            rw [if_neg (by rw [hpk, hp]; exact fun h => he h.symm), List.append_nil] at hst2
            rw [← hst2] at f2
            repeat' (first | (apply ds_evC; exact rfl; (first | (with_reducible exact trivial) | omega); (with_reducible exact rfl); exact rfl; exact rfl; exact rfl) | apply ds_nil | (apply dt_ev; exact rfl; exact rfl; (first | (with_reducible exact trivial) | omega); (first | ((with_reducible apply hv_sltake); (exact rfl)) | ((with_reducible apply hv_row); (exact rfl); (omega)) | (with_reducible exact rfl)); exact rfl; exact rfl; exact rfl; exact rfl) | (apply dt_nil0; exact rfl; exact rfl; exact rfl; exact rfl) | apply dw_seq2 | (apply ds_region; exact rfl) | (apply dw_any; kernel_rfl; kernel_rfl; exact rfl; exact rfl) | apply dw_block | apply dw_skip | apply dw_exit | (apply dw_condT; exact rfl) | apply thenD_n | apply thenD_e | (apply inB_e; exact rfl) | (apply dt_call; exact rfl; exact rfl; apply w2; exact rfl; (exact rfl); exact rfl; exact rfl; exact ⟨_, rfl⟩; rintro _ rfl) | (apply dt_call; exact rfl; exact rfl; apply w3; exact rfl; (exact rfl); exact rfl; exact rfl; exact ⟨_, rfl⟩; rintro _ rfl) | (apply dw_condP; exact rfl; all_goals intro hg))
            all_goals try (exfalso; omega)
            exact ⟨(k + 1, n, mm), ⟨hk, f2⟩, ent_ren id ⟨rfl, rfl, rfl, rfl, rfl, rfl, rfl, rfl, rfl, trivial⟩ ⟨rfl, rfl, trivial⟩ rfl rfl rfl rfl rfl rfl, by show ways.length - (k + 1) < ways.length - k; omega⟩
        · rw [List.take_of_length_le (by omega)] at f2
          have hn : foldN r.fold (grpL (ways.map (pW r)) P) = n := by unfold foldN; rw [f2]
          rw [hn]
          repeat' (first | (apply ds_evC; exact rfl; (with_reducible exact trivial); (with_reducible exact rfl); exact rfl; exact rfl; exact rfl) | apply ds_nil | (apply dt_ev; exact rfl; exact rfl; (first | (with_reducible exact trivial) | omega); (first | ((with_reducible apply hv_row); (exact rfl); (omega)) | (with_reducible exact rfl)); exact rfl; exact rfl; exact rfl; exact rfl) | apply dw_seq2 | (apply ds_region; exact rfl) | (apply dw_any; kernel_rfl; kernel_rfl; exact rfl; exact rfl) | apply dw_block | apply dw_skip | apply dw_exit | apply thenD_n | apply thenD_e | (apply inB_e; exact rfl) | (apply dw_condP; exact rfl; all_goals intro hg))
          all_goals try (exfalso; omega)
          exact ⟨(), trivial, ent_ren id ⟨rfl, rfl, rfl, rfl, rfl, rfl, rfl, trivial⟩ ⟨rfl, rfl, trivial⟩ rfl rfl rfl rfl rfl rfl⟩
      · rintro _ _
        dsimp only
        have hhd : headD r ways ways[i] = if numB (foldN r.fold (grpL (ways.map (pW r)) P)) then some ⟨r.pred, P ++ [foldN r.fold (grpL (ways.map (pW r)) P)]⟩ else none := by unfold headD; rw [if_neg h0, hP]
        generalize foldN r.fold (grpL (ways.map (pW r)) P) = n at hhd ⊢
        have w4 := sisNumber_fn n
        cases hb : numB n with
        | false =>
          rw [hb] at w4 hhd
          rw [hhd] at hst
          repeat' (first | (apply ds_evC; exact rfl; (first | (with_reducible exact trivial) | omega); (with_reducible exact rfl); exact rfl; exact rfl; exact rfl) | apply ds_nil | apply dw_seq2 | (apply ds_region; exact rfl) | apply dw_skip | (apply dw_condF; exact rfl) | apply thenD_n | apply inB_n | (apply ds_call; exact rfl; exact rfl; apply w4; exact rfl; (exact rfl); exact rfl; rintro _ rfl))
          all_goals try (exfalso; omega)
          exact ⟨i + 1, hi, ent_ren id ⟨rfl, rfl, rfl, rfl, rfl, trivial⟩ ⟨rfl, by rw [hst]; simp only [Bool.false_eq_true, if_false, Option.toList_none, List.append_nil]; rfl, trivial⟩ rfl rfl rfl rfl rfl rfl, by omega⟩
        | true =>
          rw [hb] at w4 hhd
          rw [hhd] at hst
          have hPl : (P.map encI).length ≤ 3 := by rw [List.length_map, hp, List.length_take]; omega
          repeat' (first | (apply dt_bs0; exact rfl; exact rfl; exact rfl; exact rfl; exact rfl; exact rfl; exact rfl; exact rfl; exact rfl; exact rfl) | (first | (apply ds_evC; exact rfl; (first | (with_reducible exact trivial) | omega); (with_reducible exact rfl); exact rfl; exact rfl; exact rfl) | apply ds_nil | (apply dt_ev; exact rfl; exact rfl; (first | (with_reducible exact trivial) | omega); (first | ((with_reducible apply hv_sltake); (exact rfl)) | (with_reducible exact rfl)); exact rfl; exact rfl; exact rfl; exact rfl) | (apply dt_del; exact rfl; exact rfl; (with_reducible exact trivial); exact rfl; exact rfl; exact rfl; exact rfl; exact rfl; exact rfl) | (apply dt_trade; exact rfl; exact rfl; exact rfl; (unfold maxLen; simp <;> omega); exact rfl; exact rfl; exact rfl; exact rfl; exact rfl; exact rfl) | (apply dt_nil; exact rfl) | apply dw_seq2 | (apply ds_region; exact rfl) | (apply dw_any; kernel_rfl; kernel_rfl; exact rfl; exact rfl) | (apply dw_condT; exact rfl) | apply thenD_n | apply inB_n | (apply ds_call; exact rfl; exact rfl; apply w4; exact rfl; (exact rfl); exact rfl; rintro _ rfl)))
          all_goals try (exfalso; omega)
          have hen : encFct ⟨r.pred, P ++ [n]⟩ = [.int .i64 r.pred, .slice 1 (((aW r ways[i]).take m).map encI ++ [[.int .i64 n]])] := by
            unfold encFct; rw [List.map_append, hp]; rfl
          exact ⟨i + 1, hi, ent_ren (fun j => match j with | 1 => 15 | j => j) ⟨rfl, rfl, rfl, rfl, rfl, trivial⟩ ⟨rfl, by rw [hst, if_pos rfl, Option.toList_some, List.map_append, List.map_singleton, hen]; rfl, trivial⟩ rfl rfl rfl rfl rfl rfl, by omega⟩
    · rw [List.take_of_length_le (by omega)]
      repeat' (first | (apply ds_evC; exact rfl; (with_reducible exact trivial); (with_reducible exact rfl); exact rfl; exact rfl; exact rfl) | apply ds_nil | (apply dt_ev; exact rfl; exact rfl; (first | (with_reducible exact trivial) | omega); (first | ((with_reducible apply hv_row); (exact rfl); (omega)) | (with_reducible exact rfl)); exact rfl; exact rfl; exact rfl; exact rfl) | apply dw_seq2 | (apply ds_region; exact rfl) | (apply dw_any; kernel_rfl; kernel_rfl; exact rfl; exact rfl) | apply dw_block | apply dw_skip | apply dw_exit | apply thenD_n | apply thenD_e | (apply inB_e; exact rfl) | (apply dw_condP; exact rfl; all_goals intro hg))
      all_goals try (exfalso; omega)
      refine ds_ent (ent_seal 127 rfl rfl rfl) ?_
      repeat' (first | (apply ds_evC; exact rfl; (with_reducible exact trivial); (with_reducible exact rfl); exact rfl; exact rfl; exact rfl) | apply ds_nil | apply dw_ret | apply thenD_n | (apply ds_call; exact rfl; exact rfl; apply wset; exact rfl; (exact rfl); exact rfl; rintro _ rfl))
      exact ⟨.inl rfl, _, rfl, rfl, rfl⟩
end Go.Proofs.YtapciiffpnociabGreat

/- The program's rule.Made, Heads, where nothing is folded. Condition: none. -/
namespace Go.Proofs.YtapciiffpnociabGreat
open Go Go.RowKit
theorem outE_num {e : RE} (h : numE e) : ∀ y ∈ outE e, -1000000 ≤ y ∧ y ≤ 1000000 := by
  intro y hy
  obtain ⟨x, hx, rfl⟩ := List.mem_map.1 hy
  obtain ⟨v, hv⟩ := List.getElem?_of_mem hx
  cases x with
  | none => simp
  | some z => exact h v z hv
theorem fromE_num {S : List Fct} {body : List Ltl} : ∀ (ys : List Ltl) (e : RE), okB S e.length body → (∀ l ∈ ys, l ∈ body ∧ l.kind = 1) → numE e → ∀ a ∈ fromE S body ys e, ∀ y ∈ a, -1000000 ≤ y ∧ y ≤ 1000000
  | [], e, hok, _, hn, a, ha => by
    rw [fromE] at ha
    cases hr : recN body (body.length + 1) e with
    | none => rw [hr] at ha; simp at ha
    | some e' =>
      rw [hr] at ha
      simp only at ha
      split at ha
      · simp at ha
      · rw [List.mem_singleton] at ha
        subst ha
        exact outE_num (recN_num hok hn hr)
  | l :: ys, e, hok, hys, hn, a, ha => by
    rw [fromE] at ha
    cases hr : recN body (body.length + 1) e with
    | none => rw [hr] at ha; simp at ha
    | some e' =>
      rw [hr] at ha
      simp only at ha
      obtain ⟨g1, _⟩ := recN_some hok.lit hr
      have hn' := recN_num hok hn hr
      obtain ⟨hl, hl1⟩ := hys l (List.mem_cons_self ..)
      split at ha
      · simp at ha
      · unfold litW at ha
        rw [if_pos hl1, List.mem_flatMap] at ha
        obtain ⟨x, hx, ha⟩ := ha
        split at ha
        · rename_i hp
          split at ha
          · rename_i e'' he''
            have hlk := hok.lit l hl
            obtain ⟨k1, _⟩ := matchE_some (hlk.facts hl1 x hx hp).symm (by rw [g1]; exact hlk.terms) he''
            exact fromE_num ys e'' (by rw [k1, g1]; exact hok) (fun l hl => hys l (List.mem_cons_of_mem _ hl)) (matchE_num hn' (hok.facts x hx) he'') a ha
          · simp at ha
        · simp at ha
theorem way_num {S : List Fct} {v : Nat} {body : List Ltl} (hok : okB S v body) {a : List Int} (ha : a ∈ fromE S body (yesOf body) (e0 v)) : ∀ y ∈ a, -1000000 ≤ y ∧ y ≤ 1000000 :=
  fromE_num (yesOf body) (e0 v) (by rw [show (e0 v).length = v from List.length_replicate]; exact hok) (fun l hl => ⟨(List.mem_filter.1 hl).1, of_decide_eq_true (List.mem_filter.1 hl).2⟩)
    (fun u x hx => by unfold e0 at hx; rw [List.getElem?_replicate] at hx; split at hx <;> simp at hx) a ha
theorem wayL_ok {p : Prg} {n : Int} {l : List Fct} (h : WayOk p n l) : HeadOk p.arity (ruleAt p n) (wayL p n l) := by
  have hS := (setF_spec l).1
  have hnd : (setF' l).Nodup := hS.imp fun h he => by subst he; exact lt_irrefl h
  obtain ⟨_, p2, p3⟩ := ways_perm hnd h.ruls.ok.lit h.ruls.bd
  have hmem : ∀ w ∈ wayL p n l, w ∈ fromE (setF' l) (ruleAt p n).body (yesOf (ruleAt p n).body) (e0 (ruleAt p n).vars.toNat) := by
    intro w hw
    unfold wayL rawW at hw
    split at hw
    · split at hw
      · exact (waysL_perm _ _ _).mem_iff.1 hw
      · simp at hw
    · simp at hw
  refine ⟨h.rul, ?_, fun w hw => ((p3 w).1 (hmem w hw)).1, fun w hw y hy => ?_, h.tlen⟩
  · unfold wayL rawW
    split
    · split
      · rename_i hm; unfold manyW at hm; exact of_decide_eq_true hm
      · simp
    · simp
  · have hw' := hmem w hw
    exact way_num h.ruls.ok hw' y hy
attribute [local irreducible] DW DS DL DQ Ev FnOk FnP thenD inBlockD DT
set_option maxHeartbeats 8000000 in
theorem made0_fn (arity : List Int) (r : Rul) (ways : List (List Int)) (hok : HeadOk arity r ways) (h0 : r.fold = 0) : Fn 98 [elRul r, .d (.slice 1 (ways.map encW))] (fun res => res = .d (.slice 2 ((setF' (headsD r ways)).map encFct))) := by
  refine fnp_enter' _ Tryz.func98 rfl rfl (by kernel_rfl) ?_
  intro O w0 E0 β0
  rw [headsD_eq]
  have hmany := hok.many
  have htl := hok.tlen
  have lw : (ways.map encW).length = ways.length := List.length_map _
  have lt : (r.terms.map encTrm).length = r.terms.length := List.length_map _
  have hal : ∀ x ∈ ways.filterMap (headD r ways), x.args.length ≤ 17592186044416 := by
    intro x hx
    obtain ⟨w, hw, hx⟩ := List.mem_filterMap.1 hx
    unfold headD at hx
    rw [if_pos h0] at hx
    simp only [Option.some.injEq] at hx
    subst hx
    unfold aW
    simp only [List.length_map]; omega
  have wset := set_fn (ways.filterMap (headD r ways)) (Nat.le_trans (List.length_filterMap_le _ _) (by omega)) hal
  repeat' ((fail_if_success (apply dw_stopR 2)); (first | (apply ds_evC; exact rfl; (with_reducible exact trivial); (with_reducible exact rfl); exact rfl; exact rfl; exact rfl) | apply ds_nil | apply dw_seq2 | (apply ds_region; exact rfl) | apply thenD_n | (apply ds_newC; exact rfl; (with_reducible exact trivial); exact rfl; exact rfl; exact rfl)))
  refine dw_ent (ent_nilrow (t := 5) 95 2 rfl) ?_
  repeat' (first | (apply ds_evC; exact rfl; (first | (with_reducible exact trivial) | omega); (with_reducible exact rfl); exact rfl; exact rfl; exact rfl) | apply ds_nil | apply dw_seq2 | (apply ds_region; exact rfl) | apply dw_block | apply dw_skip | apply thenD_n | (apply ds_newC; exact rfl; (with_reducible exact trivial); exact rfl; exact rfl; exact rfl) | (apply ds_setC; exact rfl; exact rfl; exact rfl; exact rfl) | (apply dw_condP; exact rfl; all_goals intro hg))
  all_goals try (exfalso; omega)
  refine ds_loop (ι := Nat) (fun i => ⟨2, [(1, .d (.slice 1 (ways.map encW))), (2, .loc 0 0), (5, .row 1), (21, .d (.slice 1 (ways.map encW))), (22, .d (.int .i64 ways.length)), (23, .d (.int .i64 i))], [(0, .blk 87 [.d (.int .i64 r.pred), .d (.slice 2 (r.terms.map encTrm)), .d (.int .i64 r.fold), .d (.slice 4 (r.body.map encLtl)), .d (.int .i64 r.vars)]), (1, .row 95 2 (((ways.take i).filterMap (headD r ways)).map encFct))]⟩)
    (fun i => i ≤ ways.length) (fun i => ways.length - i) 0 (Nat.zero_le _) (ent_ren id ⟨rfl, rfl, rfl, rfl, by rw [← lw]; rfl, rfl, trivial⟩ ⟨rfl, rfl, trivial⟩ rfl rfl rfl rfl rfl rfl) ?_
  intro i g1
  by_cases hi : i < ways.length
  · have hm := List.getElem_mem hi
    have w1 := args_fn r.terms ways[i] (hok.terms hm) (by omega)
    have hst := filterMap_take (headD r ways) hi
    have hhd : headD r ways ways[i] = some ⟨r.pred, aW r ways[i]⟩ := by unfold headD; rw [if_pos h0]
    rw [hhd] at hst
    have lo : ((ways.take i).filterMap (headD r ways)).length ≤ i := filterMap_len _ _ _
    clear wset
    repeat' (first | (apply ds_evC; exact rfl; (first | (with_reducible exact trivial) | omega); (first | ((with_reducible apply hv_row); (exact rfl); (omega)) | (with_reducible exact rfl)); exact rfl; exact rfl; exact rfl) | apply ds_nil | (apply dt_ev; exact rfl; exact rfl; (with_reducible exact trivial); (with_reducible exact rfl); exact rfl; exact rfl; exact rfl; exact rfl) | (apply dt_trade; exact rfl; exact rfl; exact rfl; (unfold maxLen; simp <;> omega); exact rfl; exact rfl; exact rfl; exact rfl; exact rfl; exact rfl) | (apply dt_nil; exact rfl) | apply dw_seq2 | (apply ds_region; exact rfl) | (apply dw_any; kernel_rfl; kernel_rfl; exact rfl; exact rfl) | apply dw_block | apply dw_skip | apply dw_exit | apply thenD_n | apply thenD_e | apply inB_n | (apply inB_e; exact rfl) | (apply dt_call; exact rfl; exact rfl; apply w1; exact rfl; (exact rfl); exact rfl; exact rfl; exact ⟨_, rfl⟩; rintro _ rfl) | (apply dw_condP; exact rfl; all_goals intro hg))
    all_goals try (exfalso; omega)
    exact ⟨i + 1, hi, ent_ren (fun j => match j with | 1 => 11 | j => j) ⟨rfl, rfl, rfl, rfl, rfl, rfl, trivial⟩ ⟨rfl, by rw [hst, List.map_append]; rfl, trivial⟩ rfl rfl rfl rfl rfl rfl, by omega⟩
  · rw [List.take_of_length_le (by omega)]
    repeat' (first | (apply ds_evC; exact rfl; (first | (with_reducible exact trivial) | omega); (first | ((with_reducible apply hv_row); (exact rfl); (omega)) | (with_reducible exact rfl)); exact rfl; exact rfl; exact rfl) | apply ds_nil | (apply dt_ev; exact rfl; exact rfl; (with_reducible exact trivial); (with_reducible exact rfl); exact rfl; exact rfl; exact rfl; exact rfl) | apply dw_seq2 | (apply ds_region; exact rfl) | (apply dw_any; kernel_rfl; kernel_rfl; exact rfl; exact rfl) | apply dw_block | apply dw_skip | apply dw_exit | apply thenD_n | apply thenD_e | (apply inB_e; exact rfl) | (apply dw_condP; exact rfl; all_goals intro hg))
    all_goals try (exfalso; omega)
    refine ds_ent (ent_seal 38 rfl rfl rfl) ?_
    repeat' (first | (apply ds_evC; exact rfl; (with_reducible exact trivial); (with_reducible exact rfl); exact rfl; exact rfl; exact rfl) | apply ds_nil | apply dw_ret | apply thenD_n | apply thenD_r | (apply ds_call; exact rfl; exact rfl; apply wset; exact rfl; (exact rfl); exact rfl; rintro _ rfl))
    exact ⟨.inl rfl, _, rfl, rfl, rfl⟩
end Go.Proofs.YtapciiffpnociabGreat
