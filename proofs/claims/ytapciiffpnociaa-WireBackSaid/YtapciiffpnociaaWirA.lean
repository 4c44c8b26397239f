/- The program's orders of ids and facts; whether lists rise. Condition: none. -/
import Derived.Test.YtapciiffpnociaaWirE
namespace Go.Proofs.Ytapciiffpnociaa
open Go Go.RowKit
attribute [local irreducible] DW DS DL DQ Ev FnOk FnP thenD inBlockD DT

theorem rises_bad {α : Type} {o : α → α → Int} {l : List α} {i : Nat} (hi : i + 1 < l.length) (h : 0 ≤ o (l[i]'(by omega)) l[i + 1]) : rises o (l.drop i) = false := by
  rw [List.drop_eq_getElem_cons (by omega), List.drop_eq_getElem_cons hi, rises, decide_eq_false (by omega)]; rfl
theorem rises_ok {α : Type} {o : α → α → Int} {l : List α} {i : Nat} (hi : i + 1 < l.length) (h : o (l[i]'(by omega)) l[i + 1] < 0) : rises o (l.drop i) = rises o (l.drop (i + 1)) := by
  rw [List.drop_eq_getElem_cons (show i < l.length by omega), List.drop_eq_getElem_cons hi, rises, decide_eq_true h]; rfl
theorem rises_end {α : Type} {o : α → α → Int} {l : List α} {i : Nat} (hi : l.length ≤ i + 1) : rises o (l.drop i) = true := by
  by_cases h : i < l.length
  · rw [List.drop_eq_getElem_cons h, List.drop_of_length_le hi]; unfold rises; rfl
  · rw [List.drop_of_length_le (by omega)]; unfold rises; rfl

set_option maxHeartbeats 8000000 in
theorem isNaN_fn (a : Int) : Fn 184 [.d (.int .i64 a)] (fun r => r = .d (.bool false)) := by
  refine fnp_enter' _ Try.func184 rfl rfl (by kernel_rfl) ?_
  intro O w0 E0 β0
  repeat' (first | (apply ds_evC; exact rfl; (with_reducible exact trivial); (with_reducible exact rfl); exact rfl; exact rfl; exact rfl) | apply ds_nil | apply dw_seq2 | apply ds_region | apply dw_ret | apply thenD_n)
  exact ret_b rfl (by simp)
set_option maxHeartbeats 8000000 in
theorem compare_fn (a b : Int) : Fn 125 [.d (.int .i64 a), .d (.int .i64 b)] (fun r => r = .d (.int .i64 (cmpI a b))) := by
  refine fnp_enter' _ Try.func125 rfl rfl (by kernel_rfl) ?_
  intro O w0 E0 β0
  repeat' (first | (apply ds_evC; exact rfl; (with_reducible exact trivial); (with_reducible exact rfl); exact rfl; exact rfl; exact rfl) | apply ds_nil | apply dw_seq2 | apply ds_region | apply dw_skip | apply dw_ret | (apply dw_condF; exact rfl) | apply thenD_n | apply thenD_r | (apply ds_call; exact rfl; exact rfl; apply isNaN_fn; exact rfl; (exact rfl); exact rfl; rintro _ rfl) | (apply dw_condP; exact rfl; all_goals intro hg))
  all_goals exact ret_i rfl (by unfold cmpI; simp [*])

/-- The first that is not nothing. -/
def orL : List Int → Int
  | [] => 0
  | a :: l => if a = 0 then orL l else a
set_option maxHeartbeats 8000000 in
theorem or_fn (l : List Int) : Fn 124 [.d (.slice 1 (l.map encI))] (fun r => r = .d (.int .i64 (orL l))) := by
  refine fnp_enter' _ Try.func124 rfl rfl (by kernel_rfl) ?_
  intro O w0 E0 β0
  refine dw_len_map (t := 0) rfl fun hb => ?_
  repeat' (first | (apply ds_evC; exact rfl; (with_reducible exact trivial); (with_reducible exact rfl); exact rfl; exact rfl; exact rfl) | apply ds_nil | apply dw_seq2 | apply ds_region | apply dw_block | apply thenD_n)
  refine ds_loop (ι := Nat) (fun i => ⟨0, [(3, .d (.int .i64 0)), (6, .d (.slice 1 (l.map encI))), (7, .d (.int .i64 l.length)), (8, .d (.int .i64 i))], []⟩)
    (fun i => i ≤ l.length ∧ orL l = orL (l.drop i)) (fun i => l.length - i) 0 ⟨Nat.zero_le _, rfl⟩
    (ent_ren id ⟨rfl, rfl, by simp; rfl, rfl, trivial⟩ trivial rfl rfl rfl rfl rfl rfl) ?_
  rintro i ⟨h1, h2⟩
  repeat' (first | (apply ds_evC; exact rfl; (with_reducible exact trivial); (with_reducible exact rfl); exact rfl; exact rfl; exact rfl) | apply ds_nil | apply dw_seq2 | apply ds_region | apply thenD_n)
  refine dw_condP rfl (fun h => ?_) (fun h => ?_)
  · have hi : i < l.length := by omega
    have hd := List.drop_eq_getElem_cons hi
    repeat' (first | (apply ds_evC; exact rfl; (first | (with_reducible exact trivial) | (simp only [List.length_map]; omega)); (first | ((with_reducible apply hv_row); (exact rfl); (rw [List.length_map]; omega)) | (with_reducible exact rfl)); exact rfl; exact rfl; exact rfl) | apply ds_nil | apply dw_seq2 | apply ds_region | apply dw_block | apply dw_skip | apply thenD_n)
    refine dw_condP rfl (fun hb => ?_) (fun hb => ?_)
    · repeat' (first | (apply ds_evC; exact rfl; (with_reducible exact trivial); (with_reducible exact rfl); exact rfl; exact rfl; exact rfl) | apply ds_nil | apply dw_seq2 | apply ds_region | apply dw_ret | apply thenD_n | apply thenD_r | apply inB_r)
      exact ret_i rfl (by rw [h2, hd, orL, if_neg hb])
    · repeat' (first | (apply ds_evC; exact rfl; (first | (with_reducible exact trivial) | omega); (with_reducible exact rfl); exact rfl; exact rfl; exact rfl) | apply ds_nil | apply ds_region | apply dw_skip | apply thenD_n | apply inB_n)
      exact ⟨i + 1, ⟨hi, by rw [h2, hd, orL, if_pos (Decidable.not_not.1 hb)]⟩, ent_ren id ⟨rfl, rfl, rfl, rfl, trivial⟩ trivial rfl rfl rfl rfl rfl rfl, by omega⟩
  · repeat' (first | (apply ds_evC; exact rfl; (with_reducible exact trivial); (with_reducible exact rfl); exact rfl; exact rfl; exact rfl) | apply ds_nil | apply dw_seq2 | apply ds_region | apply dw_exit | apply dw_ret | apply thenD_n | apply thenD_e | (apply inB_e; exact rfl))
    exact ret_i rfl (by rw [h2, List.drop_of_length_le (by omega)]; rfl)

theorem ordId_or (a b : UId) : ordId a b = orL [cmpI a.author b.author, cmpI a.number b.number] := by
  unfold ordId
  simp only [orL]
  split
  · split
    · assumption
    · rfl
  · rfl
set_option maxHeartbeats 8000000 in
theorem order_fn (a b : UId) : Fn 96 [elId a, elId b] (fun r => r = .d (.int .i64 (ordId a b))) := by
  refine fnp_enter' _ Try.func96 rfl rfl (by kernel_rfl) ?_
  intro O w0 E0 β0
  have ho := or_fn [cmpI a.author b.author, cmpI a.number b.number]
  repeat' (first | (apply ds_evC; exact rfl; (with_reducible exact trivial); (with_reducible exact rfl); exact rfl; exact rfl; exact rfl) | apply ds_nil | (apply dt_ev; exact rfl; exact rfl; (with_reducible exact trivial); (with_reducible exact rfl); exact rfl; exact rfl; exact rfl; exact rfl) | (apply dt_nil0; exact rfl; exact rfl; exact rfl; exact rfl) | apply dw_seq2 | apply ds_region | (apply dw_any; kernel_rfl; kernel_rfl; exact rfl) | apply dw_ret | apply thenD_n | (apply dt_call; exact rfl; exact rfl; apply compare_fn; exact rfl; (exact rfl); exact rfl; exact rfl; exact ⟨_, rfl⟩; rintro _ rfl) | (apply dt_call; exact rfl; exact rfl; apply ho; exact rfl; (exact rfl); exact rfl; exact rfl; exact ⟨_, rfl⟩; rintro _ rfl) | (apply ds_newC; exact rfl; (with_reducible exact trivial); exact rfl; exact rfl; exact rfl))
  exact ret_i rfl (ordId_or a b).symm

theorem ordL_step {l m : List Int} {i : Nat} (h1 : i < l.length) (h2 : i < m.length) : ordL (l.drop i) (m.drop i) = if cmpI l[i] m[i] = 0 then ordL (l.drop (i + 1)) (m.drop (i + 1)) else cmpI l[i] m[i] := by
  rw [List.drop_eq_getElem_cons h1, List.drop_eq_getElem_cons h2, ordL]
theorem ordL_more {l m : List Int} {i : Nat} (h1 : i < l.length) (h2 : m.length ≤ i) : ordL (l.drop i) (m.drop i) = 1 := by
  rw [List.drop_eq_getElem_cons h1, List.drop_of_length_le h2]; unfold ordL; rfl
theorem ordL_less {l m : List Int} {i : Nat} (h1 : l.length ≤ i) (h2 : i < m.length) : ordL (l.drop i) (m.drop i) = -1 := by
  rw [List.drop_eq_getElem_cons h2, List.drop_of_length_le h1]; unfold ordL; rfl
theorem ordL_end {l m : List Int} {i : Nat} (h1 : l.length ≤ i) (h2 : m.length ≤ i) : ordL (l.drop i) (m.drop i) = 0 := by
  rw [List.drop_of_length_le h1, List.drop_of_length_le h2]; unfold ordL; rfl

set_option maxHeartbeats 8000000 in
theorem compareInts_fn (l m : List Int) : Fn 126 [.d (.slice 1 (l.map encI)), .d (.slice 1 (m.map encI))] (fun r => r = .d (.int .i64 (ordL l m))) := by
  refine fnp_enter' _ Try.func126 rfl rfl (by kernel_rfl) ?_
  intro O w0 E0 β0
  refine dw_len_map (t := 0) rfl fun hb => ?_
  refine dw_len_map (t := 1) rfl fun hb2 => ?_
  repeat' (first | (apply ds_evC; exact rfl; (with_reducible exact trivial); (with_reducible exact rfl); exact rfl; exact rfl; exact rfl) | apply ds_nil | apply dw_seq2 | apply ds_region | apply dw_block | apply thenD_n)
  refine ds_loop (ι := Nat) (fun i => ⟨0, [(0, .d (.slice 1 (l.map encI))), (1, .d (.slice 1 (m.map encI))), (9, .d (.slice 1 (l.map encI))), (10, .d (.int .i64 l.length)), (11, .d (.int .i64 i))], []⟩)
    (fun i => i ≤ l.length ∧ i ≤ m.length ∧ ordL l m = ordL (l.drop i) (m.drop i)) (fun i => l.length - i) 0 ⟨Nat.zero_le _, Nat.zero_le _, rfl⟩
    (ent_ren id ⟨rfl, rfl, rfl, by simp; rfl, rfl, trivial⟩ trivial rfl rfl rfl rfl rfl rfl) ?_
  rintro i ⟨h1, h2, h3⟩
  repeat' (first | (apply ds_evC; exact rfl; (with_reducible exact trivial); (with_reducible exact rfl); exact rfl; exact rfl; exact rfl) | apply ds_nil | apply dw_seq2 | apply ds_region | apply thenD_n)
  refine dw_condP rfl (fun h => ?_) (fun h => ?_)
  · have hi : i < l.length := by omega
    repeat' (first | (apply ds_evC; exact rfl; (first | (with_reducible exact trivial) | (simp only [List.length_map]; omega)); (first | ((with_reducible apply hv_row); (exact rfl); (rw [List.length_map]; omega)) | (with_reducible exact rfl)); exact rfl; exact rfl; exact rfl) | apply ds_nil | apply dw_seq2 | apply ds_region | apply dw_block | apply dw_skip | apply thenD_n)
    refine dw_condP rfl (fun hb => ?_) (fun hb => ?_)
    · repeat' (first | (apply ds_evC; exact rfl; (with_reducible exact trivial); (with_reducible exact rfl); exact rfl; exact rfl; exact rfl) | apply ds_nil | apply dw_seq2 | apply ds_region | apply dw_ret | apply thenD_n | apply thenD_r | apply inB_r)
      exact ret_i rfl (by rw [h3, ordL_more hi (by rw [List.length_map] at hb; omega)])
    · have hm : i < m.length := by rw [List.length_map] at hb; omega
      have hs := ordL_step hi hm
      repeat' (first | (apply ds_evC; exact rfl; (first | (with_reducible exact trivial) | omega); (first | ((with_reducible apply hv_row); (exact rfl); (omega)) | (with_reducible exact rfl)); exact rfl; exact rfl; exact rfl) | apply ds_nil | apply dw_seq2 | apply ds_region | apply dw_skip | apply thenD_n | (apply ds_call; exact rfl; exact rfl; apply compare_fn; exact rfl; (exact rfl); exact rfl; rintro _ rfl))
      refine dw_condP rfl (fun hc => ?_) (fun hc => ?_)
      · repeat' (first | (apply ds_evC; exact rfl; (with_reducible exact trivial); (with_reducible exact rfl); exact rfl; exact rfl; exact rfl) | apply ds_nil | apply dw_seq2 | apply ds_region | apply dw_ret | apply thenD_n | apply thenD_r | apply inB_r)
        exact ret_i rfl (by rw [h3, hs, if_neg hc])
      · repeat' (first | (apply ds_evC; exact rfl; (first | (with_reducible exact trivial) | omega); (with_reducible exact rfl); exact rfl; exact rfl; exact rfl) | apply ds_nil | apply ds_region | apply dw_skip | apply thenD_n | apply inB_n)
        exact ⟨i + 1, ⟨hi, hm, by rw [h3, hs, if_pos (Decidable.not_not.1 hc)]⟩, ent_ren id ⟨rfl, rfl, rfl, rfl, rfl, trivial⟩ trivial rfl rfl rfl rfl rfl rfl, by omega⟩
  · repeat' (first | (apply ds_evC; exact rfl; (with_reducible exact trivial); (with_reducible exact rfl); exact rfl; exact rfl; exact rfl) | apply ds_nil | apply dw_seq2 | apply ds_region | apply dw_exit | apply thenD_n | apply thenD_e | (apply inB_e; exact rfl))
    refine dw_condP rfl (fun hb => ?_) (fun hb => ?_)
    · repeat' (first | (apply ds_evC; exact rfl; (with_reducible exact trivial); (with_reducible exact rfl); exact rfl; exact rfl; exact rfl) | apply ds_nil | apply dw_seq2 | apply ds_region | apply dw_ret | apply thenD_n | apply thenD_r)
      exact ret_i rfl (by rw [h3, ordL_less (by omega) (by rw [List.length_map, List.length_map] at hb; omega)])
    · repeat' (first | (apply ds_evC; exact rfl; (with_reducible exact trivial); (with_reducible exact rfl); exact rfl; exact rfl; exact rfl) | apply ds_nil | apply dw_seq2 | apply ds_region | apply dw_skip | apply dw_ret | apply thenD_n)
      exact ret_i rfl (by rw [h3, ordL_end (by omega) (by rw [List.length_map, List.length_map] at hb; omega)])

theorem ordF_or (a b : Fct) : ordF a b = orL [cmpI a.pred b.pred, ordL a.args b.args] := by
  unfold ordF
  simp only [orL]
  split
  · split
    · assumption
    · rfl
  · rfl
set_option maxHeartbeats 8000000 in
theorem orderF_fn (a b : Fct) : Fn 52 [elFct a, elFct b] (fun r => r = .d (.int .i64 (ordF a b))) := by
  refine fnp_enter' _ Try.func52 rfl rfl (by kernel_rfl) ?_
  intro O w0 E0 β0
  have ho := or_fn [cmpI a.pred b.pred, ordL a.args b.args]
  repeat' (first | (apply ds_evC; exact rfl; (with_reducible exact trivial); (with_reducible exact rfl); exact rfl; exact rfl; exact rfl) | apply ds_nil | (apply dt_ev; exact rfl; exact rfl; (with_reducible exact trivial); (with_reducible exact rfl); exact rfl; exact rfl; exact rfl; exact rfl) | (apply dt_nil0; exact rfl; exact rfl; exact rfl; exact rfl) | apply dw_seq2 | apply ds_region | (apply dw_any; kernel_rfl; kernel_rfl; exact rfl) | apply dw_ret | apply thenD_n | (apply dt_call; exact rfl; exact rfl; apply compare_fn; exact rfl; (exact rfl); exact rfl; exact rfl; exact ⟨_, rfl⟩; rintro _ rfl) | (apply dt_call; exact rfl; exact rfl; apply compareInts_fn; exact rfl; (exact rfl); exact rfl; exact rfl; exact ⟨_, rfl⟩; rintro _ rfl) | (apply dt_call; exact rfl; exact rfl; apply ho; exact rfl; (exact rfl); exact rfl; exact rfl; exact ⟨_, rfl⟩; rintro _ rfl) | (apply ds_newC; exact rfl; (with_reducible exact trivial); exact rfl; exact rfl; exact rfl))
  exact ret_i rfl (ordF_or a b).symm

set_option maxHeartbeats 8000000 in
theorem risesId_fn {f : FuncId} (o : UId → UId → Int) (l : List (UId)) (hp : ∀ x y, Fn f [elId x, elId y] (fun r => r = .d (.int .i64 (o x y)))) : Fn 95 [.d (.slice 2 (l.map encId)), .fn f []] (fun r => r = .d (.bool (rises o l))) := by
  refine fnp_enter' _ Try.func95 rfl rfl (by kernel_rfl) ?_
  intro O w0 E0 β0
  refine dw_len_map (t := 0) rfl fun hb => ?_
  repeat' (first | (apply ds_evC; exact rfl; (with_reducible exact trivial); (with_reducible exact rfl); exact rfl; exact rfl; exact rfl) | apply ds_nil | apply dw_seq2 | apply ds_region | apply dw_block | apply thenD_n)
  refine ds_loop (ι := Nat) (fun i => ⟨0, [(0, .d (.slice 2 (l.map encId))), (1, .fn f []), (5, .d (.int .i64 ((i : Int) + 1)))], []⟩)
    (fun i => i ≤ l.length ∧ rises o l = rises o (l.drop i)) (fun i => l.length - i) 0 ⟨Nat.zero_le _, rfl⟩
    (ent_ren id ⟨rfl, rfl, rfl, trivial⟩ trivial rfl rfl rfl rfl rfl rfl) ?_
  rintro i ⟨h1, h2⟩
  repeat' (first | (apply ds_evC; exact rfl; (with_reducible exact trivial); (with_reducible exact rfl); exact rfl; exact rfl; exact rfl) | apply ds_nil | apply dw_seq2 | apply ds_region | apply thenD_n)
  refine dw_condP rfl (fun h => ?_) (fun h => ?_)
  · have hi : i + 1 < l.length := by have := h; rw [List.length_map] at this; omega
    have e0 : ∀ (j : Nat) (hj : j < l.length), j = i → l[j]'hj = l[i]'(by omega) := by rintro j hj rfl; rfl
    have hpx := hp (l[((i : Int) + 1 - 1).toNat]'(by omega)) (l[i + 1]'hi)
    repeat' (first | (apply dt_ev; exact rfl; exact rfl; (first | (with_reducible exact trivial) | omega); (first | ((with_reducible apply hv_row); (first | exact nat_add_1 _ | exact (Int.toNat_of_nonneg (by omega)).symm); (omega)) | (with_reducible exact rfl)); exact rfl; exact rfl; exact rfl; exact rfl) | (apply dt_nil0; exact rfl; exact rfl; exact rfl; exact rfl) | apply dw_seq2 | (apply dw_any; kernel_rfl; kernel_rfl; exact rfl) | apply dw_block | apply dw_skip | apply thenD_n | (apply dt_callV; exact rfl; exact rfl; exact rfl; exact rfl; apply hpx; exact rfl; (exact rfl); exact rfl; exact rfl; exact ⟨_, rfl⟩; rintro _ rfl))
    refine dw_condP rfl (fun hb => ?_) (fun hb => ?_)
    · repeat' (first | (apply ds_evC; exact rfl; (with_reducible exact trivial); (with_reducible exact rfl); exact rfl; exact rfl; exact rfl) | apply ds_nil | apply dw_seq2 | apply ds_region | apply dw_ret | apply thenD_n | apply thenD_r | apply inB_r)
      rw [e0 _ _ (by omega)] at hb
      exact ret_b rfl (by rw [h2, rises_bad hi (by omega)])
    · repeat' (first | (apply ds_evC; exact rfl; (first | (with_reducible exact trivial) | omega); (with_reducible exact rfl); exact rfl; exact rfl; exact rfl) | apply ds_nil | apply ds_region | apply dw_skip | apply thenD_n | apply inB_n)
      rw [e0 _ _ (by omega)] at hb
      exact ⟨i + 1, ⟨by omega, by rw [h2, rises_ok hi (by omega)]⟩, ent_ren id ⟨rfl, rfl, rfl, trivial⟩ trivial rfl rfl rfl rfl rfl rfl, by omega⟩
  · repeat' (first | (apply ds_evC; exact rfl; (with_reducible exact trivial); (with_reducible exact rfl); exact rfl; exact rfl; exact rfl) | apply ds_nil | apply dw_seq2 | apply ds_region | apply dw_exit | apply dw_ret | apply thenD_n | apply thenD_e | (apply inB_e; exact rfl))
    exact ret_b rfl (by rw [h2, rises_end (by have := h; rw [List.length_map] at this; omega)])

set_option maxHeartbeats 8000000 in
theorem risesFct_fn {f : FuncId} (o : Fct → Fct → Int) (l : List (Fct)) (hp : ∀ x y, Fn f [elFct x, elFct y] (fun r => r = .d (.int .i64 (o x y)))) : Fn 101 [.d (.slice 2 (l.map encFct)), .fn f []] (fun r => r = .d (.bool (rises o l))) := by
  refine fnp_enter' _ Try.func101 rfl rfl (by kernel_rfl) ?_
  intro O w0 E0 β0
  refine dw_len_map (t := 0) rfl fun hb => ?_
  repeat' (first | (apply ds_evC; exact rfl; (with_reducible exact trivial); (with_reducible exact rfl); exact rfl; exact rfl; exact rfl) | apply ds_nil | apply dw_seq2 | apply ds_region | apply dw_block | apply thenD_n)
  refine ds_loop (ι := Nat) (fun i => ⟨0, [(0, .d (.slice 2 (l.map encFct))), (1, .fn f []), (5, .d (.int .i64 ((i : Int) + 1)))], []⟩)
    (fun i => i ≤ l.length ∧ rises o l = rises o (l.drop i)) (fun i => l.length - i) 0 ⟨Nat.zero_le _, rfl⟩
    (ent_ren id ⟨rfl, rfl, rfl, trivial⟩ trivial rfl rfl rfl rfl rfl rfl) ?_
  rintro i ⟨h1, h2⟩
  repeat' (first | (apply ds_evC; exact rfl; (with_reducible exact trivial); (with_reducible exact rfl); exact rfl; exact rfl; exact rfl) | apply ds_nil | apply dw_seq2 | apply ds_region | apply thenD_n)
  refine dw_condP rfl (fun h => ?_) (fun h => ?_)
  · have hi : i + 1 < l.length := by have := h; rw [List.length_map] at this; omega
    have e0 : ∀ (j : Nat) (hj : j < l.length), j = i → l[j]'hj = l[i]'(by omega) := by rintro j hj rfl; rfl
    have hpx := hp (l[((i : Int) + 1 - 1).toNat]'(by omega)) (l[i + 1]'hi)
    repeat' (first | (apply dt_ev; exact rfl; exact rfl; (first | (with_reducible exact trivial) | omega); (first | ((with_reducible apply hv_row); (first | exact nat_add_1 _ | exact (Int.toNat_of_nonneg (by omega)).symm); (omega)) | (with_reducible exact rfl)); exact rfl; exact rfl; exact rfl; exact rfl) | (apply dt_nil0; exact rfl; exact rfl; exact rfl; exact rfl) | apply dw_seq2 | (apply dw_any; kernel_rfl; kernel_rfl; exact rfl) | apply dw_block | apply dw_skip | apply thenD_n | (apply dt_callV; exact rfl; exact rfl; exact rfl; exact rfl; apply hpx; exact rfl; (exact rfl); exact rfl; exact rfl; exact ⟨_, rfl⟩; rintro _ rfl))
    refine dw_condP rfl (fun hb => ?_) (fun hb => ?_)
    · repeat' (first | (apply ds_evC; exact rfl; (with_reducible exact trivial); (with_reducible exact rfl); exact rfl; exact rfl; exact rfl) | apply ds_nil | apply dw_seq2 | apply ds_region | apply dw_ret | apply thenD_n | apply thenD_r | apply inB_r)
      rw [e0 _ _ (by omega)] at hb
      exact ret_b rfl (by rw [h2, rises_bad hi (by omega)])
    · repeat' (first | (apply ds_evC; exact rfl; (first | (with_reducible exact trivial) | omega); (with_reducible exact rfl); exact rfl; exact rfl; exact rfl) | apply ds_nil | apply ds_region | apply dw_skip | apply thenD_n | apply inB_n)
      rw [e0 _ _ (by omega)] at hb
      exact ⟨i + 1, ⟨by omega, by rw [h2, rises_ok hi (by omega)]⟩, ent_ren id ⟨rfl, rfl, rfl, trivial⟩ trivial rfl rfl rfl rfl rfl rfl, by omega⟩
  · repeat' (first | (apply ds_evC; exact rfl; (with_reducible exact trivial); (with_reducible exact rfl); exact rfl; exact rfl; exact rfl) | apply ds_nil | apply dw_seq2 | apply ds_region | apply dw_exit | apply dw_ret | apply thenD_n | apply thenD_e | (apply inB_e; exact rfl))
    exact ret_b rfl (by rw [h2, rises_end (by have := h; rw [List.length_map] at this; omega)])

end Go.Proofs.Ytapciiffpnociaa
