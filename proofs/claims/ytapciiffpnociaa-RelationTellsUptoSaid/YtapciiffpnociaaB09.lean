/- Several texts in one: WirA WirB TokR. Condition: none. -/
import Derived.Test.YtapciiffpnociaaB08

/- The program's orders of ids and facts; whether lists rise. Condition: none. -/
namespace Go.Proofs.Ytapciiffpnociaa
open Go Go.RowKit
attribute [local irreducible] DW DS DL DQ Ev FnOk FnP thenD inBlockD DT

theorem rises_bad {α : Type} {o : α → α → Int} {l : List α} {i : Nat} (hi : i + 1 < l.length) (h : 0 ≤ o (l[i]'(by omega)) l[i + 1]) : rises o (l.drop i) = false := by
  rw [List.drop_eq_getElem_cons (by omega), List.drop_eq_getElem_cons hi, rises, decide_eq_false (by omega)]; rfl
theorem rises_ok {α : Type} {o : α → α → Int} {l : List α} {i : Nat} (hi : i + 1 < l.length) (h : o (l[i]'(by omega)) l[i + 1] < 0) : rises o (l.drop i) = rises o (l.drop (i + 1)) := by
  rw [List.drop_eq_getElem_cons (show i < l.length by omega), List.drop_eq_getElem_cons hi, rises, decide_eq_true h]; rfl
theorem rises_end {α : Type} {o : α → α → Int} {l : List α} {i : Nat} (hi : l.length ≤ i + 1) : rises o (l.drop i) = true := by
  by_cases h : i < l.length
  · rw [List.drop_eq_getElem_cons h, List.drop_of_length_le hi]; unfold rises; rfl
  · rw [List.drop_of_length_le (by omega)]; unfold rises; rfl

set_option maxHeartbeats 8000000 in
theorem isNaN_fnD (dr : Bool) (a : Int) : FnD dr 184 [.d (.int .i64 a)] (fun r => r = .d (.bool false)) := by
  refine fnp_enter' _ Try.func184 rfl rfl (by kernel_rfl) ?_
  intro O w0 E0 β0
  repeat' (first | (apply ds_evC; exact rfl; (with_reducible exact trivial); (with_reducible exact rfl); exact rfl; exact rfl; exact rfl) | apply ds_nil | apply dw_seq2 | (apply ds_region; exact rfl) | apply dw_ret | apply thenD_n)
  exact ret_b rfl (by simp)
theorem isNaN_fn (a : Int) : Fn 184 [.d (.int .i64 a)] (fun r => r = .d (.bool false)) := isNaN_fnD false a
set_option maxHeartbeats 8000000 in
theorem compare_fnD (dr : Bool) (a b : Int) : FnD dr 125 [.d (.int .i64 a), .d (.int .i64 b)] (fun r => r = .d (.int .i64 (cmpI a b))) := by
  refine fnp_enter' _ Try.func125 rfl rfl (by kernel_rfl) ?_
  intro O w0 E0 β0
  repeat' (first | (apply ds_evC; exact rfl; (with_reducible exact trivial); (with_reducible exact rfl); exact rfl; exact rfl; exact rfl) | apply ds_nil | apply dw_seq2 | (apply ds_region; exact rfl) | apply dw_skip | apply dw_ret | (apply dw_condF; exact rfl) | apply thenD_n | apply thenD_r | (apply ds_call; exact rfl; exact rfl; apply isNaN_fnD; exact rfl; (exact rfl); exact rfl; rintro _ rfl) | (apply dw_condP; exact rfl; all_goals intro hg))
  all_goals exact ret_i rfl (by unfold cmpI; simp [*])
theorem compare_fn (a b : Int) : Fn 125 [.d (.int .i64 a), .d (.int .i64 b)] (fun r => r = .d (.int .i64 (cmpI a b))) := compare_fnD false a b

/-- The first that is not nothing. -/
def orL : List Int → Int
  | [] => 0
  | a :: l => if a = 0 then orL l else a
set_option maxHeartbeats 8000000 in
theorem or_fnD (dr : Bool) (l : List Int) : FnD dr 124 [.d (.slice 1 (l.map encI))] (fun r => r = .d (.int .i64 (orL l))) := by
  refine fnp_enter' _ Try.func124 rfl rfl (by kernel_rfl) ?_
  intro O w0 E0 β0
  refine dw_len_map (t := 0) rfl fun hb => ?_
  repeat' (first | (apply ds_evC; exact rfl; (with_reducible exact trivial); (with_reducible exact rfl); exact rfl; exact rfl; exact rfl) | apply ds_nil | apply dw_seq2 | (apply ds_region; exact rfl) | apply dw_block | apply thenD_n)
  refine ds_loop (ι := Nat) (fun i => ⟨0, [(3, .d (.int .i64 0)), (6, .d (.slice 1 (l.map encI))), (7, .d (.int .i64 l.length)), (8, .d (.int .i64 i))], []⟩)
    (fun i => i ≤ l.length ∧ orL l = orL (l.drop i)) (fun i => l.length - i) 0 ⟨Nat.zero_le _, rfl⟩
    (ent_ren id ⟨rfl, rfl, by simp; rfl, rfl, trivial⟩ trivial rfl rfl rfl rfl rfl rfl) ?_
  rintro i ⟨h1, h2⟩
  repeat' (first | (apply ds_evC; exact rfl; (with_reducible exact trivial); (with_reducible exact rfl); exact rfl; exact rfl; exact rfl) | apply ds_nil | apply dw_seq2 | (apply ds_region; exact rfl) | apply thenD_n)
  refine dw_condP rfl (fun h => ?_) (fun h => ?_)
  · have hi : i < l.length := by omega
    have hd := List.drop_eq_getElem_cons hi
    repeat' (first | (apply ds_evC; exact rfl; (first | (with_reducible exact trivial) | (simp only [List.length_map]; omega)); (first | ((with_reducible apply hv_row); (exact rfl); (rw [List.length_map]; omega)) | (with_reducible exact rfl)); exact rfl; exact rfl; exact rfl) | apply ds_nil | apply dw_seq2 | (apply ds_region; exact rfl) | apply dw_block | apply dw_skip | apply thenD_n)
    refine dw_condP rfl (fun hb => ?_) (fun hb => ?_)
    · repeat' (first | (apply ds_evC; exact rfl; (with_reducible exact trivial); (with_reducible exact rfl); exact rfl; exact rfl; exact rfl) | apply ds_nil | apply dw_seq2 | (apply ds_region; exact rfl) | apply dw_ret | apply thenD_n | apply thenD_r | apply inB_r)
      exact ret_i rfl (by rw [h2, hd, orL, if_neg hb])
    · repeat' (first | (apply ds_evC; exact rfl; (first | (with_reducible exact trivial) | omega); (with_reducible exact rfl); exact rfl; exact rfl; exact rfl) | apply ds_nil | (apply ds_region; exact rfl) | apply dw_skip | apply thenD_n | apply inB_n)
      exact ⟨i + 1, ⟨hi, by rw [h2, hd, orL, if_pos (Decidable.not_not.1 hb)]⟩, ent_ren id ⟨rfl, rfl, rfl, rfl, trivial⟩ trivial rfl rfl rfl rfl rfl rfl, by omega⟩
  · repeat' (first | (apply ds_evC; exact rfl; (with_reducible exact trivial); (with_reducible exact rfl); exact rfl; exact rfl; exact rfl) | apply ds_nil | apply dw_seq2 | (apply ds_region; exact rfl) | apply dw_exit | apply dw_ret | apply thenD_n | apply thenD_e | (apply inB_e; exact rfl))
    exact ret_i rfl (by rw [h2, List.drop_of_length_le (by omega)]; rfl)
theorem or_fn (l : List Int) : Fn 124 [.d (.slice 1 (l.map encI))] (fun r => r = .d (.int .i64 (orL l))) := or_fnD false l

theorem ordId_or (a b : UId) : ordId a b = orL [cmpI a.author b.author, cmpI a.number b.number] := by
  unfold ordId
  simp only [orL]
  split
  · split
    · assumption
    · rfl
  · rfl
set_option maxHeartbeats 8000000 in
theorem order_fn (a b : UId) : Fn 96 [elId a, elId b] (fun r => r = .d (.int .i64 (ordId a b))) := by
  refine fnp_enter' _ Try.func96 rfl rfl (by kernel_rfl) ?_
  intro O w0 E0 β0
  have ho := or_fn [cmpI a.author b.author, cmpI a.number b.number]
  repeat' (first | (apply ds_evC; exact rfl; (with_reducible exact trivial); (with_reducible exact rfl); exact rfl; exact rfl; exact rfl) | apply ds_nil | (apply dt_ev; exact rfl; exact rfl; (with_reducible exact trivial); (with_reducible exact rfl); exact rfl; exact rfl; exact rfl; exact rfl) | (apply dt_nil0; exact rfl; exact rfl; exact rfl; exact rfl) | apply dw_seq2 | (apply ds_region; exact rfl) | (apply dw_any; kernel_rfl; kernel_rfl; exact rfl; exact rfl) | apply dw_ret | apply thenD_n | (apply dt_call; exact rfl; exact rfl; apply compare_fn; exact rfl; (exact rfl); exact rfl; exact rfl; exact ⟨_, rfl⟩; rintro _ rfl) | (apply dt_call; exact rfl; exact rfl; apply ho; exact rfl; (exact rfl); exact rfl; exact rfl; exact ⟨_, rfl⟩; rintro _ rfl) | (apply ds_newC; exact rfl; (with_reducible exact trivial); exact rfl; exact rfl; exact rfl))
  exact ret_i rfl (ordId_or a b).symm

theorem ordL_step {l m : List Int} {i : Nat} (h1 : i < l.length) (h2 : i < m.length) : ordL (l.drop i) (m.drop i) = if cmpI l[i] m[i] = 0 then ordL (l.drop (i + 1)) (m.drop (i + 1)) else cmpI l[i] m[i] := by
  rw [List.drop_eq_getElem_cons h1, List.drop_eq_getElem_cons h2, ordL]
theorem ordL_more {l m : List Int} {i : Nat} (h1 : i < l.length) (h2 : m.length ≤ i) : ordL (l.drop i) (m.drop i) = 1 := by
  rw [List.drop_eq_getElem_cons h1, List.drop_of_length_le h2]; unfold ordL; rfl
theorem ordL_less {l m : List Int} {i : Nat} (h1 : l.length ≤ i) (h2 : i < m.length) : ordL (l.drop i) (m.drop i) = -1 := by
  rw [List.drop_eq_getElem_cons h2, List.drop_of_length_le h1]; unfold ordL; rfl
theorem ordL_end {l m : List Int} {i : Nat} (h1 : l.length ≤ i) (h2 : m.length ≤ i) : ordL (l.drop i) (m.drop i) = 0 := by
  rw [List.drop_of_length_le h1, List.drop_of_length_le h2]; unfold ordL; rfl

set_option maxHeartbeats 8000000 in
theorem compareInts_fnD (dr : Bool) (l m : List Int) : FnD dr 126 [.d (.slice 1 (l.map encI)), .d (.slice 1 (m.map encI))] (fun r => r = .d (.int .i64 (ordL l m))) := by
  refine fnp_enter' _ Try.func126 rfl rfl (by kernel_rfl) ?_
  intro O w0 E0 β0
  refine dw_len_map (t := 0) rfl fun hb => ?_
  refine dw_len_map (t := 1) rfl fun hb2 => ?_
  repeat' (first | (apply ds_evC; exact rfl; (with_reducible exact trivial); (with_reducible exact rfl); exact rfl; exact rfl; exact rfl) | apply ds_nil | apply dw_seq2 | (apply ds_region; exact rfl) | apply dw_block | apply thenD_n)
  refine ds_loop (ι := Nat) (fun i => ⟨0, [(0, .d (.slice 1 (l.map encI))), (1, .d (.slice 1 (m.map encI))), (9, .d (.slice 1 (l.map encI))), (10, .d (.int .i64 l.length)), (11, .d (.int .i64 i))], []⟩)
    (fun i => i ≤ l.length ∧ i ≤ m.length ∧ ordL l m = ordL (l.drop i) (m.drop i)) (fun i => l.length - i) 0 ⟨Nat.zero_le _, Nat.zero_le _, rfl⟩
    (ent_ren id ⟨rfl, rfl, rfl, by simp; rfl, rfl, trivial⟩ trivial rfl rfl rfl rfl rfl rfl) ?_
  rintro i ⟨h1, h2, h3⟩
  repeat' (first | (apply ds_evC; exact rfl; (with_reducible exact trivial); (with_reducible exact rfl); exact rfl; exact rfl; exact rfl) | apply ds_nil | apply dw_seq2 | (apply ds_region; exact rfl) | apply thenD_n)
  refine dw_condP rfl (fun h => ?_) (fun h => ?_)
  · have hi : i < l.length := by omega
    repeat' (first | (apply ds_evC; exact rfl; (first | (with_reducible exact trivial) | (simp only [List.length_map]; omega)); (first | ((with_reducible apply hv_row); (exact rfl); (rw [List.length_map]; omega)) | (with_reducible exact rfl)); exact rfl; exact rfl; exact rfl) | apply ds_nil | apply dw_seq2 | (apply ds_region; exact rfl) | apply dw_block | apply dw_skip | apply thenD_n)
    refine dw_condP rfl (fun hb => ?_) (fun hb => ?_)
    · repeat' (first | (apply ds_evC; exact rfl; (with_reducible exact trivial); (with_reducible exact rfl); exact rfl; exact rfl; exact rfl) | apply ds_nil | apply dw_seq2 | (apply ds_region; exact rfl) | apply dw_ret | apply thenD_n | apply thenD_r | apply inB_r)
      exact ret_i rfl (by rw [h3, ordL_more hi (by rw [List.length_map] at hb; omega)])
    · have hm : i < m.length := by rw [List.length_map] at hb; omega
      have hs := ordL_step hi hm
      repeat' (first | (apply ds_evC; exact rfl; (first | (with_reducible exact trivial) | omega); (first | ((with_reducible apply hv_row); (exact rfl); (omega)) | (with_reducible exact rfl)); exact rfl; exact rfl; exact rfl) | apply ds_nil | apply dw_seq2 | (apply ds_region; exact rfl) | apply dw_skip | apply thenD_n | (apply ds_call; exact rfl; exact rfl; apply compare_fnD; exact rfl; (exact rfl); exact rfl; rintro _ rfl))
      refine dw_condP rfl (fun hc => ?_) (fun hc => ?_)
      · repeat' (first | (apply ds_evC; exact rfl; (with_reducible exact trivial); (with_reducible exact rfl); exact rfl; exact rfl; exact rfl) | apply ds_nil | apply dw_seq2 | (apply ds_region; exact rfl) | apply dw_ret | apply thenD_n | apply thenD_r | apply inB_r)
        exact ret_i rfl (by rw [h3, hs, if_neg hc])
      · repeat' (first | (apply ds_evC; exact rfl; (first | (with_reducible exact trivial) | omega); (with_reducible exact rfl); exact rfl; exact rfl; exact rfl) | apply ds_nil | (apply ds_region; exact rfl) | apply dw_skip | apply thenD_n | apply inB_n)
        exact ⟨i + 1, ⟨hi, hm, by rw [h3, hs, if_pos (Decidable.not_not.1 hc)]⟩, ent_ren id ⟨rfl, rfl, rfl, rfl, rfl, trivial⟩ trivial rfl rfl rfl rfl rfl rfl, by omega⟩
  · repeat' (first | (apply ds_evC; exact rfl; (with_reducible exact trivial); (with_reducible exact rfl); exact rfl; exact rfl; exact rfl) | apply ds_nil | apply dw_seq2 | (apply ds_region; exact rfl) | apply dw_exit | apply thenD_n | apply thenD_e | (apply inB_e; exact rfl))
    refine dw_condP rfl (fun hb => ?_) (fun hb => ?_)
    · repeat' (first | (apply ds_evC; exact rfl; (with_reducible exact trivial); (with_reducible exact rfl); exact rfl; exact rfl; exact rfl) | apply ds_nil | apply dw_seq2 | (apply ds_region; exact rfl) | apply dw_ret | apply thenD_n | apply thenD_r)
      exact ret_i rfl (by rw [h3, ordL_less (by omega) (by rw [List.length_map, List.length_map] at hb; omega)])
    · repeat' (first | (apply ds_evC; exact rfl; (with_reducible exact trivial); (with_reducible exact rfl); exact rfl; exact rfl; exact rfl) | apply ds_nil | apply dw_seq2 | (apply ds_region; exact rfl) | apply dw_skip | apply dw_ret | apply thenD_n)
      exact ret_i rfl (by rw [h3, ordL_end (by omega) (by rw [List.length_map, List.length_map] at hb; omega)])
theorem compareInts_fn (l m : List Int) : Fn 126 [.d (.slice 1 (l.map encI)), .d (.slice 1 (m.map encI))] (fun r => r = .d (.int .i64 (ordL l m))) := compareInts_fnD false l m

theorem ordF_or (a b : Fct) : ordF a b = orL [cmpI a.pred b.pred, ordL a.args b.args] := by
  unfold ordF
  simp only [orL]
  split
  · split
    · assumption
    · rfl
  · rfl
set_option maxHeartbeats 8000000 in
theorem orderF_fnD (dr : Bool) (a b : Fct) : FnD dr 52 [elFct a, elFct b] (fun r => r = .d (.int .i64 (ordF a b))) := by
  refine fnp_enter' _ Try.func52 rfl rfl (by kernel_rfl) ?_
  intro O w0 E0 β0
  have ho := or_fnD dr [cmpI a.pred b.pred, ordL a.args b.args]
  repeat' (first | (apply ds_evC; exact rfl; (with_reducible exact trivial); (with_reducible exact rfl); exact rfl; exact rfl; exact rfl) | apply ds_nil | (apply dt_ev; exact rfl; exact rfl; (with_reducible exact trivial); (with_reducible exact rfl); exact rfl; exact rfl; exact rfl; exact rfl) | (apply dt_nil0; exact rfl; exact rfl; exact rfl; exact rfl) | apply dw_seq2 | (apply ds_region; exact rfl) | (apply dw_any; kernel_rfl; kernel_rfl; exact rfl; exact rfl) | apply dw_ret | apply thenD_n | (apply dt_call; exact rfl; exact rfl; apply compare_fnD; exact rfl; (exact rfl); exact rfl; exact rfl; exact ⟨_, rfl⟩; rintro _ rfl) | (apply dt_call; exact rfl; exact rfl; apply compareInts_fnD; exact rfl; (exact rfl); exact rfl; exact rfl; exact ⟨_, rfl⟩; rintro _ rfl) | (apply dt_call; exact rfl; exact rfl; apply ho; exact rfl; (exact rfl); exact rfl; exact rfl; exact ⟨_, rfl⟩; rintro _ rfl) | (apply ds_newC; exact rfl; (with_reducible exact trivial); exact rfl; exact rfl; exact rfl))
  exact ret_i rfl (ordF_or a b).symm
theorem orderF_fn (a b : Fct) : Fn 52 [elFct a, elFct b] (fun r => r = .d (.int .i64 (ordF a b))) := orderF_fnD false a b

set_option maxHeartbeats 8000000 in
theorem risesId_fn {f : FuncId} (o : UId → UId → Int) (l : List (UId)) (hp : ∀ x y, Fn f [elId x, elId y] (fun r => r = .d (.int .i64 (o x y)))) : Fn 95 [.d (.slice 2 (l.map encId)), .fn f []] (fun r => r = .d (.bool (rises o l))) := by
  refine fnp_enter' _ Try.func95 rfl rfl (by kernel_rfl) ?_
  intro O w0 E0 β0
  refine dw_len_map (t := 0) rfl fun hb => ?_
  repeat' (first | (apply ds_evC; exact rfl; (with_reducible exact trivial); (with_reducible exact rfl); exact rfl; exact rfl; exact rfl) | apply ds_nil | apply dw_seq2 | (apply ds_region; exact rfl) | apply dw_block | apply thenD_n)
  refine ds_loop (ι := Nat) (fun i => ⟨0, [(0, .d (.slice 2 (l.map encId))), (1, .fn f []), (5, .d (.int .i64 ((i : Int) + 1)))], []⟩)
    (fun i => i ≤ l.length ∧ rises o l = rises o (l.drop i)) (fun i => l.length - i) 0 ⟨Nat.zero_le _, rfl⟩
    (ent_ren id ⟨rfl, rfl, rfl, trivial⟩ trivial rfl rfl rfl rfl rfl rfl) ?_
  rintro i ⟨h1, h2⟩
  repeat' (first | (apply ds_evC; exact rfl; (with_reducible exact trivial); (with_reducible exact rfl); exact rfl; exact rfl; exact rfl) | apply ds_nil | apply dw_seq2 | (apply ds_region; exact rfl) | apply thenD_n)
  refine dw_condP rfl (fun h => ?_) (fun h => ?_)
  · have hi : i + 1 < l.length := by have := h; rw [List.length_map] at this; omega
    have e0 : ∀ (j : Nat) (hj : j < l.length), j = i → l[j]'hj = l[i]'(by omega) := by rintro j hj rfl; rfl
    have hpx := hp (l[((i : Int) + 1 - 1).toNat]'(by omega)) (l[i + 1]'hi)
    repeat' (first | (apply dt_ev; exact rfl; exact rfl; (first | (with_reducible exact trivial) | omega); (first | ((with_reducible apply hv_row); (first | exact nat_add_1 _ | exact (Int.toNat_of_nonneg (by omega)).symm); (omega)) | (with_reducible exact rfl)); exact rfl; exact rfl; exact rfl; exact rfl) | (apply dt_nil0; exact rfl; exact rfl; exact rfl; exact rfl) | apply dw_seq2 | (apply dw_any; kernel_rfl; kernel_rfl; exact rfl; exact rfl) | apply dw_block | apply dw_skip | apply thenD_n | (apply dt_callV; exact rfl; exact rfl; exact rfl; exact rfl; apply hpx; exact rfl; (exact rfl); exact rfl; exact rfl; exact ⟨_, rfl⟩; rintro _ rfl))
    refine dw_condP rfl (fun hb => ?_) (fun hb => ?_)
    · repeat' (first | (apply ds_evC; exact rfl; (with_reducible exact trivial); (with_reducible exact rfl); exact rfl; exact rfl; exact rfl) | apply ds_nil | apply dw_seq2 | (apply ds_region; exact rfl) | apply dw_ret | apply thenD_n | apply thenD_r | apply inB_r)
      rw [e0 _ _ (by omega)] at hb
      exact ret_b rfl (by rw [h2, rises_bad hi (by omega)])
    · repeat' (first | (apply ds_evC; exact rfl; (first | (with_reducible exact trivial) | omega); (with_reducible exact rfl); exact rfl; exact rfl; exact rfl) | apply ds_nil | (apply ds_region; exact rfl) | apply dw_skip | apply thenD_n | apply inB_n)
      rw [e0 _ _ (by omega)] at hb
      exact ⟨i + 1, ⟨by omega, by rw [h2, rises_ok hi (by omega)]⟩, ent_ren id ⟨rfl, rfl, rfl, trivial⟩ trivial rfl rfl rfl rfl rfl rfl, by omega⟩
  · repeat' (first | (apply ds_evC; exact rfl; (with_reducible exact trivial); (with_reducible exact rfl); exact rfl; exact rfl; exact rfl) | apply ds_nil | apply dw_seq2 | (apply ds_region; exact rfl) | apply dw_exit | apply dw_ret | apply thenD_n | apply thenD_e | (apply inB_e; exact rfl))
    exact ret_b rfl (by rw [h2, rises_end (by have := h; rw [List.length_map] at this; omega)])

set_option maxHeartbeats 8000000 in
theorem risesFct_fn {f : FuncId} (o : Fct → Fct → Int) (l : List (Fct)) (hp : ∀ x y, Fn f [elFct x, elFct y] (fun r => r = .d (.int .i64 (o x y)))) : Fn 101 [.d (.slice 2 (l.map encFct)), .fn f []] (fun r => r = .d (.bool (rises o l))) := by
  refine fnp_enter' _ Try.func101 rfl rfl (by kernel_rfl) ?_
  intro O w0 E0 β0
  refine dw_len_map (t := 0) rfl fun hb => ?_
  repeat' (first | (apply ds_evC; exact rfl; (with_reducible exact trivial); (with_reducible exact rfl); exact rfl; exact rfl; exact rfl) | apply ds_nil | apply dw_seq2 | (apply ds_region; exact rfl) | apply dw_block | apply thenD_n)
  refine ds_loop (ι := Nat) (fun i => ⟨0, [(0, .d (.slice 2 (l.map encFct))), (1, .fn f []), (5, .d (.int .i64 ((i : Int) + 1)))], []⟩)
    (fun i => i ≤ l.length ∧ rises o l = rises o (l.drop i)) (fun i => l.length - i) 0 ⟨Nat.zero_le _, rfl⟩
    (ent_ren id ⟨rfl, rfl, rfl, trivial⟩ trivial rfl rfl rfl rfl rfl rfl) ?_
  rintro i ⟨h1, h2⟩
  repeat' (first | (apply ds_evC; exact rfl; (with_reducible exact trivial); (with_reducible exact rfl); exact rfl; exact rfl; exact rfl) | apply ds_nil | apply dw_seq2 | (apply ds_region; exact rfl) | apply thenD_n)
  refine dw_condP rfl (fun h => ?_) (fun h => ?_)
  · have hi : i + 1 < l.length := by have := h; rw [List.length_map] at this; omega
    have e0 : ∀ (j : Nat) (hj : j < l.length), j = i → l[j]'hj = l[i]'(by omega) := by rintro j hj rfl; rfl
    have hpx := hp (l[((i : Int) + 1 - 1).toNat]'(by omega)) (l[i + 1]'hi)
    repeat' (first | (apply dt_ev; exact rfl; exact rfl; (first | (with_reducible exact trivial) | omega); (first | ((with_reducible apply hv_row); (first | exact nat_add_1 _ | exact (Int.toNat_of_nonneg (by omega)).symm); (omega)) | (with_reducible exact rfl)); exact rfl; exact rfl; exact rfl; exact rfl) | (apply dt_nil0; exact rfl; exact rfl; exact rfl; exact rfl) | apply dw_seq2 | (apply dw_any; kernel_rfl; kernel_rfl; exact rfl; exact rfl) | apply dw_block | apply dw_skip | apply thenD_n | (apply dt_callV; exact rfl; exact rfl; exact rfl; exact rfl; apply hpx; exact rfl; (exact rfl); exact rfl; exact rfl; exact ⟨_, rfl⟩; rintro _ rfl))
    refine dw_condP rfl (fun hb => ?_) (fun hb => ?_)
    · repeat' (first | (apply ds_evC; exact rfl; (with_reducible exact trivial); (with_reducible exact rfl); exact rfl; exact rfl; exact rfl) | apply ds_nil | apply dw_seq2 | (apply ds_region; exact rfl) | apply dw_ret | apply thenD_n | apply thenD_r | apply inB_r)
      rw [e0 _ _ (by omega)] at hb
      exact ret_b rfl (by rw [h2, rises_bad hi (by omega)])
    · repeat' (first | (apply ds_evC; exact rfl; (first | (with_reducible exact trivial) | omega); (with_reducible exact rfl); exact rfl; exact rfl; exact rfl) | apply ds_nil | (apply ds_region; exact rfl) | apply dw_skip | apply thenD_n | apply inB_n)
      rw [e0 _ _ (by omega)] at hb
      exact ⟨i + 1, ⟨by omega, by rw [h2, rises_ok hi (by omega)]⟩, ent_ren id ⟨rfl, rfl, rfl, trivial⟩ trivial rfl rfl rfl rfl rfl rfl, by omega⟩
  · repeat' (first | (apply ds_evC; exact rfl; (with_reducible exact trivial); (with_reducible exact rfl); exact rfl; exact rfl; exact rfl) | apply ds_nil | apply dw_seq2 | (apply ds_region; exact rfl) | apply dw_exit | apply dw_ret | apply thenD_n | apply thenD_e | (apply inB_e; exact rfl))
    exact ret_b rfl (by rw [h2, rises_end (by have := h; rw [List.length_map] at this; omega)])

end Go.Proofs.Ytapciiffpnociaa

/- The program's Check of updates. Condition: none. -/
namespace Go.Proofs.Ytapciiffpnociaa
open Go Go.RowKit
attribute [local irreducible] DW DS DL DQ Ev FnOk FnP thenD inBlockD DT

set_option maxHeartbeats 8000000 in
theorem within_fn (n a b : Int) : Fn 154 [.d (.int .i64 n), .d (.int .i64 a), .d (.int .i64 b)] (fun r => r = .d (.bool (inR n a b))) := by
  refine fnp_enter' _ Try.func154 rfl rfl (by kernel_rfl) ?_
  intro O w0 E0 β0
  repeat' (first | (apply ds_evC; exact rfl; (with_reducible exact trivial); (with_reducible exact rfl); exact rfl; exact rfl; exact rfl) | (apply ds_skip; exact rfl; exact rfl) | apply ds_nil | apply dw_seq2 | (apply ds_region; exact rfl) | apply dw_ret | apply thenD_n | ((fail_if_success (apply ds_known; exact rfl)); apply ds_guardP; exact rfl; exact rfl; exact rfl; all_goals intro hg))
  all_goals exact ret_b rfl (by unfold inR; first | (simp_all; done) | (simp_all; omega))
set_option maxHeartbeats 8000000 in
theorem wwithin_fn (n a b : Int) : Fn 196 [.d (.int .i64 n), .d (.int .i64 a), .d (.int .i64 b)] (fun r => r = .d (.bool (inR n a b))) := by
  refine fnp_enter' _ Try.func196 rfl rfl (by kernel_rfl) ?_
  intro O w0 E0 β0
  repeat' (first | (apply ds_evC; exact rfl; (with_reducible exact trivial); (with_reducible exact rfl); exact rfl; exact rfl; exact rfl) | (apply ds_skip; exact rfl; exact rfl) | apply ds_nil | apply dw_seq2 | (apply ds_region; exact rfl) | apply dw_ret | apply thenD_n | ((fail_if_success (apply ds_known; exact rfl)); apply ds_guardP; exact rfl; exact rfl; exact rfl; all_goals intro hg))
  all_goals exact ret_b rfl (by unfold inR; first | (simp_all; done) | (simp_all; omega))
set_option maxHeartbeats 8000000 in
theorem number_fn (n : Int) : Fn 160 [.d (.int .i64 n)] (fun r => r = .d (.bool (numB n))) := by
  refine fnp_enter' _ Try.func160 rfl rfl (by kernel_rfl) ?_
  intro O w0 E0 β0
  repeat' (first | (apply ds_evC; exact rfl; (with_reducible exact trivial); (with_reducible exact rfl); exact rfl; exact rfl; exact rfl) | apply ds_nil | apply dw_seq2 | (apply ds_region; exact rfl) | apply dw_ret | apply thenD_n | (apply ds_call; exact rfl; exact rfl; apply wwithin_fn; exact rfl; (exact rfl); exact rfl; rintro _ rfl))
  exact ret_b rfl rfl
set_option maxHeartbeats 8000000 in
theorem right_fn (i : UId) : Fn 93 [elId i] (fun r => r = .d (.bool (idB i))) := by
  refine fnp_enter' _ Try.func93 rfl rfl (by kernel_rfl) ?_
  intro O w0 E0 β0
  repeat' (first | (apply ds_evC; exact rfl; (with_reducible exact trivial); (with_reducible exact rfl); exact rfl; exact rfl; exact rfl) | (apply ds_skip; exact rfl; exact rfl) | apply ds_nil | apply dw_seq2 | (apply ds_region; exact rfl) | apply dw_ret | apply thenD_n | (apply ds_call; exact rfl; exact rfl; apply within_fn; exact rfl; (exact rfl); exact rfl; rintro _ rfl) | (apply ds_newC; exact rfl; (with_reducible exact trivial); exact rfl; exact rfl; exact rfl) | ((fail_if_success (apply ds_known; exact rfl)); apply ds_guardB; exact rfl; exact rfl; exact rfl; all_goals intro hg))
  all_goals exact ret_b rfl (by unfold idB; simp [*])
set_option maxHeartbeats 8000000 in
theorem wrong_fn (i : UId) : Fn 92 [elId i] (fun r => r = .d (.bool (!idB i))) := by
  refine fnp_enter' _ Try.func92 rfl rfl (by kernel_rfl) ?_
  intro O w0 E0 β0
  repeat' (first | (apply ds_evC; exact rfl; (with_reducible exact trivial); (with_reducible exact rfl); exact rfl; exact rfl; exact rfl) | apply ds_nil | apply dw_seq2 | (apply ds_region; exact rfl) | apply dw_ret | apply thenD_n | (apply ds_call; exact rfl; exact rfl; apply right_fn; exact rfl; (exact rfl); exact rfl; rintro _ rfl) | (apply ds_newC; exact rfl; (with_reducible exact trivial); exact rfl; exact rfl; exact rfl))
  exact ret_b rfl rfl
set_option maxHeartbeats 8000000 in
theorem noNum_fn (n : Int) : Fn 159 [elI n] (fun r => r = .d (.bool (!numB n))) := by
  refine fnp_enter' _ Try.func159 rfl rfl (by kernel_rfl) ?_
  intro O w0 E0 β0
  repeat' (first | (apply ds_evC; exact rfl; (with_reducible exact trivial); (with_reducible exact rfl); exact rfl; exact rfl; exact rfl) | apply ds_nil | apply dw_seq2 | (apply ds_region; exact rfl) | apply dw_ret | apply thenD_n | (apply ds_call; exact rfl; exact rfl; apply number_fn; exact rfl; (exact rfl); exact rfl; rintro _ rfl))
  exact ret_b rfl rfl
set_option maxHeartbeats 8000000 in
theorem says_fn (f : Fct) : Fn 100 [elFct f] (fun r => r = .d (.bool (saysB f))) := by
  refine fnp_enter' _ Try.func100 rfl rfl (by kernel_rfl) ?_
  intro O w0 E0 β0
  have hc := containsFuncInt_fn (fun n => !numB n) f.args rfl fun x _ => noNum_fn x
  repeat' (first | (apply ds_evC; exact rfl; (with_reducible exact trivial); (with_reducible exact rfl); exact rfl; exact rfl; exact rfl) | (apply ds_skip; exact rfl; exact rfl) | apply ds_nil | apply dw_seq2 | (apply ds_region; exact rfl) | apply dw_ret | apply thenD_n | (apply ds_call; exact rfl; exact rfl; apply within_fn; exact rfl; (exact rfl); exact rfl; rintro _ rfl) | (apply ds_call; exact rfl; exact rfl; apply hc; exact rfl; (exact rfl); exact rfl; rintro _ rfl) | (apply ds_newC; exact rfl; (with_reducible exact trivial); exact rfl; exact rfl; exact rfl) | ((fail_if_success (apply ds_known; exact rfl)); apply ds_guardP; exact rfl; exact rfl; exact rfl; all_goals intro hg) | ((fail_if_success (apply ds_known; exact rfl)); apply ds_guardB; exact rfl; exact rfl; exact rfl; all_goals intro hg))
  all_goals exact ret_b rfl (by unfold saysB; rw [all_any]; first | (simp_all; done) | (simp_all; omega) | (simp_all; intros; omega))
set_option maxHeartbeats 8000000 in
theorem noSays_fn (f : Fct) : Fn 99 [elFct f] (fun r => r = .d (.bool (!saysB f))) := by
  refine fnp_enter' _ Try.func99 rfl rfl (by kernel_rfl) ?_
  intro O w0 E0 β0
  repeat' (first | (apply ds_evC; exact rfl; (with_reducible exact trivial); (with_reducible exact rfl); exact rfl; exact rfl; exact rfl) | apply ds_nil | apply dw_seq2 | (apply ds_region; exact rfl) | apply dw_ret | apply thenD_n | (apply ds_call; exact rfl; exact rfl; apply says_fn; exact rfl; (exact rfl); exact rfl; rintro _ rfl) | (apply ds_newC; exact rfl; (with_reducible exact trivial); exact rfl; exact rfl; exact rfl))
  exact ret_b rfl rfl

theorem same_beq {x y : UId} {b : Bool} (h : (decide (y.author = x.author) && (decide (y.number = x.number) && true)) = b) : UId.same x y = b := by
  rw [← h]
  unfold UId.same
  rw [Bool.and_true]
  congr 1 <;> (rw [Bool.eq_iff_iff]; simp; exact eq_comm)
set_option maxHeartbeats 8000000 in
theorem indexId_fn (y : UId) (l : List (UId)) : Fn 156 [.d (.slice 2 (l.map encId)), elId y] (fun r => r = .d (.int .i64 (idxF (fun x => UId.same x y) l))) := by
  refine fnp_enter' _ Try.func156 rfl rfl (by kernel_rfl) ?_
  intro O w0 E0 β0
  refine dw_len_map (t := 0) rfl fun hb => ?_
  repeat' (first | (apply ds_evC; exact rfl; (with_reducible exact trivial); (with_reducible exact rfl); exact rfl; exact rfl; exact rfl) | apply ds_nil | apply dw_seq2 | (apply ds_region; exact rfl) | apply dw_block | apply thenD_n | (apply ds_newC; exact rfl; (with_reducible exact trivial); exact rfl; exact rfl; exact rfl))
  refine ds_loop (ι := Nat) (fun i => ⟨1, [(0, .d (.slice 2 (l.map encId))), (3, .loc 0 0),(7, .d (.int .i64 l.length)), (8, .d (.int .i64 i))], [(0, .blk 36 [.d (.int .i64 y.author), .d (.int .i64 y.number)])]⟩)
    (fun i => i ≤ l.length ∧ ∀ j (hj : j < l.length), j < i → UId.same l[j] y = false) (fun i => l.length - i) 0 ⟨Nat.zero_le _, fun j _ h => absurd h (Nat.not_lt_zero j)⟩
    (ent_ren id ⟨rfl, rfl,by simp; rfl, rfl, trivial⟩ ⟨rfl, trivial⟩ rfl rfl rfl rfl rfl rfl) ?_
  rintro i ⟨h1, h2⟩
  repeat' (first | (apply ds_evC; exact rfl; (with_reducible exact trivial); (with_reducible exact rfl); exact rfl; exact rfl; exact rfl) | apply ds_nil | apply dw_seq2 | (apply ds_region; exact rfl) | apply thenD_n)
  refine dw_condP rfl (fun h => ?_) (fun h => ?_)
  · have hi : i < l.length := by omega
    repeat' (first | (apply ds_evC; exact rfl; (with_reducible exact trivial); (with_reducible exact rfl); exact rfl; exact rfl; exact rfl) | apply ds_nil | (apply dt_ev; exact rfl; exact rfl; (first | (with_reducible exact trivial) | (simp only [List.length_map]; omega)); (first | ((with_reducible apply hv_row); (exact rfl); (rw [List.length_map]; omega)) | (with_reducible exact rfl)); exact rfl; exact rfl; exact rfl; exact rfl) | (apply dt_nil0; exact rfl; exact rfl; exact rfl; exact rfl) | apply dw_seq2 | (apply ds_region; exact rfl) | (apply dw_any; kernel_rfl; kernel_rfl; exact rfl; exact rfl) | apply dw_block | apply dw_skip | apply thenD_n)
    refine dw_cond rfl (fun hb => ?_) (fun hb => ?_)
    · repeat' (first | (apply ds_evC; exact rfl; (with_reducible exact trivial); (with_reducible exact rfl); exact rfl; exact rfl; exact rfl) | apply ds_nil | apply dw_seq2 | (apply ds_region; exact rfl) | apply dw_ret | apply thenD_n | apply thenD_r | apply inB_r)
      exact ret_i rfl (idxF_hit (p := fun x => UId.same x y) h2 hi (same_beq hb)).symm
    · repeat' (first | (apply ds_evC; exact rfl; (first | (with_reducible exact trivial) | omega); (with_reducible exact rfl); exact rfl; exact rfl; exact rfl) | apply ds_nil | (apply ds_region; exact rfl) | apply dw_skip | apply thenD_n | apply inB_n)
      exact ⟨i + 1, ⟨hi, none_step (p := fun x => UId.same x y) h2 hi (same_beq hb)⟩, ent_ren id ⟨rfl, rfl,rfl, rfl, trivial⟩ ⟨rfl, trivial⟩ rfl rfl rfl rfl rfl rfl, by omega⟩
  · repeat' (first | (apply ds_evC; exact rfl; (with_reducible exact trivial); (with_reducible exact rfl); exact rfl; exact rfl; exact rfl) | apply ds_nil | apply dw_seq2 | (apply ds_region; exact rfl) | apply dw_exit | apply dw_ret | apply thenD_n | apply thenD_e | (apply inB_e; exact rfl))
    exact ret_i rfl (idxF_none fun j hj => h2 j hj (by omega)).symm

set_option maxHeartbeats 8000000 in
theorem containsId_fn (y : UId) (l : List UId) : Fn 97 [.d (.slice 2 (l.map encId)), elId y] (fun r => r = .d (.bool (l.any fun x => x.same y))) := by
  refine fnp_enter' _ Try.func97 rfl rfl (by kernel_rfl) ?_
  intro O w0 E0 β0
  repeat' (first | (apply ds_evC; exact rfl; (with_reducible exact trivial); (with_reducible exact rfl); exact rfl; exact rfl; exact rfl) | apply ds_nil | apply dw_seq2 | (apply ds_region; exact rfl) | apply dw_ret | apply thenD_n | (apply ds_call; exact rfl; exact rfl; apply indexId_fn; exact rfl; (exact rfl); exact rfl; rintro _ rfl) | (apply ds_newC; exact rfl; (with_reducible exact trivial); exact rfl; exact rfl; exact rfl))
  exact ret_b rfl (idxF_any _ l)

set_option maxHeartbeats 8000000 in
theorem checkU_fn (u : Upd) : Fn 26 [elUpd u] (fun r => r = .d (.int .i64 (checkU u))) := by
  refine fnp_enter' _ Try.func26 rfl rfl (by kernel_rfl) ?_
  intro O w0 E0 β0
  have h1 := containsFuncId_fn (fun i => !idB i) u.parents rfl fun x _ => wrong_fn x
  have h2 := containsFuncId_fn (fun i => !idB i) u.takes rfl fun x _ => wrong_fn x
  have h3 := risesId_fn ordId u.parents order_fn
  have h4 := risesId_fn ordId u.takes order_fn
  have h5 := containsId_fn ⟨u.id.author, u.id.number - 1⟩ u.parents
  have h6 := containsFuncFct_fn (fun f => !saysB f) u.says rfl fun x _ => noSays_fn x
  have h7 := risesFct_fn ordF u.says orderF_fn
  have h8 := wrong_fn u.id
  rw [← Bool.not_not (b := u.parents.any _), ← all_any] at h1
  rw [← Bool.not_not (b := u.takes.any _), ← all_any] at h2
  rw [← Bool.not_not (b := u.says.any _), ← all_any] at h6
  unfold checkU
  have hid := fun h => (idB_parts (i := u.id) h).2.2.2
  have hid1 := fun h => (idB_parts (i := u.id) h).2.2.1
  generalize idB u.id = b0 at *
  have hidN : b0 = false ∨ (b0 = true ∧ 1 ≤ u.id.number ∧ u.id.number ≤ 200) := by
    cases b0 with
    | false => exact .inl rfl
    | true => exact .inr ⟨rfl, hid1 rfl, hid rfl⟩
  clear hid hid1
  rcases hidN with rfl | ⟨rfl, n1, n2⟩
  · repeat' (first | (apply ds_evC; exact rfl; (with_reducible exact trivial); (with_reducible exact rfl); exact rfl; exact rfl; exact rfl) | apply ds_nil | apply dw_seq2 | (apply ds_region; exact rfl) | apply dw_block | apply dw_ret | (apply dw_condT; exact rfl) | apply thenD_n | apply thenD_r | apply inB_r | (apply ds_callV; exact rfl; exact rfl; exact rfl; exact rfl; apply h8; exact rfl; (exact rfl); exact rfl; rintro _ rfl) | (apply ds_newC; exact rfl; (with_reducible exact trivial); exact rfl; exact rfl; exact rfl))
    all_goals exact ret_i rfl (by simp)
  generalize (u.parents.all fun x => idB x) = b1 at *
  generalize (u.takes.all fun x => idB x) = b2 at *
  generalize rises ordId u.parents = b3 at *
  generalize rises ordId u.takes = b4 at *
  generalize (u.parents.any fun x => x.same ⟨u.id.author, u.id.number - 1⟩) = b5 at *
  generalize (u.says.all fun x => saysB x) = b6 at *
  generalize rises ordF u.says = b7 at *
  repeat' (first | (apply ds_evC; exact rfl; (first | (with_reducible exact trivial) | omega); (with_reducible exact rfl); exact rfl; exact rfl; exact rfl) | (apply ds_skip; exact rfl; exact rfl) | apply ds_nil | apply dw_seq2 | (apply ds_region; exact rfl) | apply dw_block | apply dw_skip | apply dw_ret | (apply dw_condT; exact rfl) | (apply dw_condF; exact rfl) | apply thenD_n | apply thenD_r | apply inB_n | apply inB_r | (apply ds_callV; exact rfl; exact rfl; exact rfl; exact rfl; apply h8; exact rfl; (exact rfl); exact rfl; rintro _ rfl) | (apply ds_call; exact rfl; exact rfl; apply h1; exact rfl; (exact rfl); exact rfl; rintro _ rfl) | (apply ds_call; exact rfl; exact rfl; apply h2; exact rfl; (exact rfl); exact rfl; rintro _ rfl) | (apply ds_call; exact rfl; exact rfl; apply h3; exact rfl; (exact rfl); exact rfl; rintro _ rfl) | (apply ds_call; exact rfl; exact rfl; apply h4; exact rfl; (exact rfl); exact rfl; rintro _ rfl) | (apply ds_call; exact rfl; exact rfl; apply h5; exact rfl; (exact rfl); exact rfl; rintro _ rfl) | (apply ds_call; exact rfl; exact rfl; apply h6; exact rfl; (exact rfl); exact rfl; rintro _ rfl) | (apply ds_call; exact rfl; exact rfl; apply h7; exact rfl; (exact rfl); exact rfl; rintro _ rfl) | (apply ds_newC; exact rfl; (with_reducible exact trivial); exact rfl; exact rfl; exact rfl) | (apply dw_condP; exact rfl; all_goals intro hg) | (apply dw_cond; exact rfl; all_goals intro hg) | ((fail_if_success (apply ds_known; exact rfl)); apply ds_guardP; exact rfl; exact rfl; exact rfl; all_goals intro hg) | ((fail_if_success (apply ds_known; exact rfl)); apply ds_guardB; exact rfl; exact rfl; exact rfl; all_goals intro hg))
  all_goals
    refine ret_i rfl ?_
    clear h1 h2 h3 h4 h5 h6 h7 h8
    first | (simp_all; done) | (simp_all; omega) | (simp_all; intros; omega)
end Go.Proofs.Ytapciiffpnociaa

/- The reference's small calls on bytes, and TokenAt, answer what the plain words say. Condition: none. -/
namespace Go.Proofs.Ytapciiffpnociaa
open Go Go.RowKit
attribute [local irreducible] DW DS DL DQ Ev FnOk FnP thenD inBlockD DT

set_option maxHeartbeats 8000000 in
theorem between_fn (n a b : Int) : Fn 84 [.d (.int .i64 n), .d (.int .i64 a), .d (.int .i64 b)] (fun r => r = .d (.bool (decide (a ≤ n) && decide (n ≤ b)))) := by
  refine fnp_enter' _ Try.func84 rfl rfl (by kernel_rfl) ?_
  intro O w0 E0 β0
  repeat' (first | (apply ds_evC; exact rfl; (with_reducible exact trivial); (with_reducible exact rfl); exact rfl; exact rfl; exact rfl) | (apply ds_skip; exact rfl; exact rfl) | apply ds_nil | apply dw_seq2 | (apply ds_region; exact rfl) | apply dw_ret | apply thenD_n | ((fail_if_success (apply ds_known; exact rfl)); apply ds_guardP; exact rfl; exact rfl; exact rfl; all_goals intro hg))
  all_goals exact ret_b rfl (by first | (simp_all; done) | (simp_all; omega))

set_option maxHeartbeats 8000000 in
theorem isSmall_fn (c : UInt8) : Fn 148 [.d (.int .u8 (c.toNat : Int))] (fun r => r = .d (.bool (smallB c))) := by
  refine fnp_enter' _ Try.func148 rfl rfl (by kernel_rfl) ?_
  intro O w0 E0 β0
  repeat' (first | (apply ds_evC; exact rfl; (first | (with_reducible exact trivial) | (with_reducible exact u8_range _)); (with_reducible exact rfl); exact rfl; exact rfl; exact rfl) | apply ds_nil | apply dw_seq2 | (apply ds_region; exact rfl) | apply dw_ret | apply thenD_n | (apply ds_call; exact rfl; exact rfl; apply between_fn; exact rfl; (exact rfl); exact rfl; rintro _ rfl))
  all_goals exact ret_b rfl (by unfold smallB; rfl)

set_option maxHeartbeats 8000000 in
theorem isLetter_fn (c : UInt8) : Fn 146 [.d (.int .u8 (c.toNat : Int))] (fun r => r = .d (.bool (letterB c))) := by
  refine fnp_enter' _ Try.func146 rfl rfl (by kernel_rfl) ?_
  intro O w0 E0 β0
  repeat' (first | (apply ds_evC; exact rfl; (first | (with_reducible exact trivial) | (with_reducible exact u8_range _)); (with_reducible exact rfl); exact rfl; exact rfl; exact rfl) | (apply ds_skip; exact rfl; exact rfl) | apply ds_nil | apply dw_seq2 | (apply ds_region; exact rfl) | apply dw_ret | apply thenD_n | (apply ds_call; exact rfl; exact rfl; apply between_fn; exact rfl; (exact rfl); exact rfl; rintro _ rfl) | (apply ds_call; exact rfl; exact rfl; apply isSmall_fn; exact rfl; (exact rfl); exact rfl; rintro _ rfl) | ((fail_if_success (apply ds_known; exact rfl)); apply ds_guardB; exact rfl; exact rfl; exact rfl; all_goals intro hg))
  all_goals exact ret_b rfl (by unfold letterB greatB; rw [hg]; rfl)

set_option maxHeartbeats 8000000 in
theorem isDigit_fn (c : UInt8) : Fn 147 [.d (.int .u8 (c.toNat : Int))] (fun r => r = .d (.bool (digitB c))) := by
  refine fnp_enter' _ Try.func147 rfl rfl (by kernel_rfl) ?_
  intro O w0 E0 β0
  repeat' (first | (apply ds_evC; exact rfl; (first | (with_reducible exact trivial) | (with_reducible exact u8_range _)); (with_reducible exact rfl); exact rfl; exact rfl; exact rfl) | apply ds_nil | apply dw_seq2 | (apply ds_region; exact rfl) | apply dw_ret | apply thenD_n | (apply ds_call; exact rfl; exact rfl; apply between_fn; exact rfl; (exact rfl); exact rfl; rintro _ rfl))
  all_goals exact ret_b rfl (by unfold digitB; rfl)

theorem ext2 (s : ByteArray) (i : Nat) (h : i + 1 < s.size) : s.extract i (i + 2) = ⟨#[s[i], s[i + 1]]⟩ := by
  apply ByteArray.ext
  simp only [ByteArray.data_extract]
  apply Array.toList_inj.1
  rw [Array.toList_extract]
  have hl : s.data.toList.length = s.size := by simp
  rw [List.extract_eq_take_drop, show i + 2 - i = 2 by omega, List.drop_eq_getElem_cons (by omega), List.drop_eq_getElem_cons (by omega), byteAt _ _ (by omega), byteAt _ _ (by omega)]
  rfl

theorem pair_ext (s : ByteArray) (i : Nat) (h : i + 1 < s.size) : pairB (s[i] :: s.data.toList.drop (i + 1)) = (decide (s.extract i (i + 2) = ⟨#[58, 45]⟩) || decide (s.extract i (i + 2) = ⟨#[60, 61]⟩) || decide (s.extract i (i + 2) = ⟨#[33, 61]⟩)) := by
  have hl : s.data.toList.length = s.size := by simp
  have key : ∀ a b c d : UInt8, decide ((⟨#[a, b]⟩ : ByteArray) = ⟨#[c, d]⟩) = (a == c && b == d) := fun a b c d => by
    rw [Bool.eq_iff_iff]; simp
  rw [ext2 s i h, key, key, key, List.drop_eq_getElem_cons (by omega), byteAt _ _ (by omega), pairB]

theorem signs_step (c : UInt8) (i : Nat) (h : i < (⟨#[40, 41, 44, 46, 60, 61, 43, 45, 42]⟩ : ByteArray).size) : (signs.drop i).contains c = (decide ((((⟨#[40, 41, 44, 46, 60, 61, 43, 45, 42]⟩ : ByteArray)[i]'h).toNat : Int) = (c.toNat : Int)) || (signs.drop (i + 1)).contains c) := by
  have h' : i < signs.length := h
  have e : signs[i] = (⟨#[40, 41, 44, 46, 60, 61, 43, 45, 42]⟩ : ByteArray)[i]'h := byteAt _ i h
  rw [List.drop_eq_getElem_cons h', List.contains_cons, e]
  congr 1
  rw [Bool.eq_iff_iff]
  simp only [beq_iff_eq, decide_eq_true_eq]
  exact ⟨fun h => by rw [h], fun h => (UInt8.toNat_inj.1 (by omega)).symm⟩

set_option maxHeartbeats 8000000 in
theorem tokenAt_fn (s : ByteArray) (at_ : Nat) (hat : at_ < s.size) (hs : s.size ≤ 5000) :
    Fn 67 [.d (.str s), .d (.int .i64 at_)] (fun r => r = .tup [.d (.int .i64 (tokAt (s.data.toList.drop at_)).1), .d (.int .i64 ((tokAt (s.data.toList.drop at_)).2 : Nat))]) := by
  refine fnp_enter' _ Try.func67 rfl rfl (by kernel_rfl) ?_
  intro O w0 E0 β0
  repeat' (first | (apply ds_evC; exact rfl; (first | (with_reducible exact trivial) | omega); (first | ((with_reducible apply hv_sat); (exact rfl); omega) | (with_reducible exact rfl)); exact rfl; exact rfl; exact rfl) | apply ds_nil | apply dw_seq2 | (apply ds_region; exact rfl) | apply dw_block | apply thenD_n | (apply ds_call; exact rfl; exact rfl; apply isLetter_fn; exact rfl; (exact rfl); exact rfl; rintro _ rfl))
  have hl0 : s.data.toList.length = s.size := by simp
  have htok : tokAt (s.data.toList.drop at_) = tokAt (s[at_] :: s.data.toList.drop (at_ + 1)) := by
    rw [List.drop_eq_getElem_cons (by omega), byteAt]
  refine dw_cond rfl (fun hl => ?_) (fun hl => ?_)
  · have hres : tokAt (s.data.toList.drop at_) = (if smallB s[at_] then 1 else 2, 1 + takeW alnumB (s.data.toList.drop (at_ + 1))) := by
      rw [htok, tokAt_cons, if_pos hl]
    repeat' (first | apply dw_seq2 | apply dw_block)
    refine ds_loop (ι := Nat) (fun n => ⟨0, [(0, .d (.str s)), (1, .d (.int .i64 at_)), (6, .d (.int .u8 s[at_].toNat)), (7, .d (.int .i64 n))], []⟩)
      (fun n => 1 ≤ n ∧ at_ + n ≤ s.size ∧ n + takeW alnumB (s.data.toList.drop (at_ + n)) = 1 + takeW alnumB (s.data.toList.drop (at_ + 1))) (fun n => s.size - n) 1 ⟨by omega, by omega, rfl⟩
      (ent_ren id ⟨rfl, rfl, rfl, rfl, trivial⟩ trivial rfl rfl rfl rfl rfl rfl) ?_
    rintro n ⟨h1, h2, h3⟩
    have hstep : (h : (at_ : Int) + n < s.size) → alnumB (s[at_ + n]'(by omega)) = true → n + 1 + takeW alnumB (s.data.toList.drop (at_ + (n + 1))) = 1 + takeW alnumB (s.data.toList.drop (at_ + 1)) := fun h hp => by
      have h4 := takeW_step alnumB s.data.toList (at_ + n) (by omega) (by rw [byteAt _ _ (by omega)]; exact hp)
      rw [← Nat.add_assoc at_ n 1]; omega
    have hstop : (h : (at_ : Int) + n < s.size) → alnumB (s[at_ + n]'(by omega)) = false → 1 + takeW alnumB (s.data.toList.drop (at_ + 1)) = n := fun h hp => by
      have h4 := takeW_stop alnumB s.data.toList (at_ + n) (by omega) (by rw [byteAt _ _ (by omega)]; exact hp)
      omega
    have hend : ¬ (at_ : Int) + n < s.size → 1 + takeW alnumB (s.data.toList.drop (at_ + 1)) = n := fun h => by
      have h4 := takeW_end alnumB s.data.toList (at_ + n) (by omega)
      omega
    clear htok
    repeat' (first | (apply ds_evC; exact rfl; (first | (with_reducible exact trivial) | omega); (first | ((with_reducible apply hv_sat); (exact rfl); omega) | (with_reducible exact rfl)); exact rfl; exact rfl; exact rfl) | (apply ds_skip; exact rfl; exact rfl) | apply ds_nil | apply dw_seq2 | (apply ds_region; exact rfl) | apply dw_block | apply dw_skip | apply dw_exit | apply dw_ret | (apply dw_condT; exact rfl) | (apply dw_condF; exact rfl) | apply thenD_n | apply thenD_e | apply thenD_r | apply inB_n | apply inB_r | (apply inB_e; exact rfl) | (apply ds_call; exact rfl; exact rfl; apply isLetter_fn; exact rfl; (exact rfl); exact rfl; rintro _ rfl) | (apply ds_call; exact rfl; exact rfl; apply isDigit_fn; exact rfl; (exact rfl); exact rfl; rintro _ rfl) | (apply ds_call; exact rfl; exact rfl; apply isSmall_fn; exact rfl; (exact rfl); exact rfl; rintro _ rfl) | (apply dw_cond; exact rfl; all_goals intro hg) | ((fail_if_success (apply ds_known; exact rfl)); apply ds_guardP; exact rfl; exact rfl; exact rfl; all_goals intro hg) | ((fail_if_success (apply ds_known; exact rfl)); apply ds_guardB; exact rfl; exact rfl; exact rfl; all_goals intro hg))
    all_goals first
      | (refine ⟨n + 1, ⟨?_, ?_, ?_⟩, ent_ren id ⟨rfl, rfl, rfl, rfl, trivial⟩ trivial rfl rfl rfl rfl rfl rfl, ?_⟩
         · omega
         · omega
         · apply hstep <;> first | assumption | (unfold alnumB; simp [*])
         · omega)
      | (refine ret_2 rfl ⟨?_, ?_⟩
         · rw [hres, hg]; rfl
         · rw [hres]
           refine congrArg (fun q : Nat => D.int .i64 (q : Int)) (Eq.symm ?_)
           first
             | (apply hend; assumption)
             | (apply hstop <;> first | assumption | (unfold alnumB; simp [*])))
  · repeat' (first | (apply ds_evC; exact rfl; (with_reducible exact trivial); (with_reducible exact rfl); exact rfl; exact rfl; exact rfl) | apply ds_nil | apply dw_seq2 | (apply ds_region; exact rfl) | apply thenD_n | (apply ds_call; exact rfl; exact rfl; apply isDigit_fn; exact rfl; (exact rfl); exact rfl; rintro _ rfl))
    refine dw_cond rfl (fun hd => ?_) (fun hd => ?_)
    · have hres : tokAt (s.data.toList.drop at_) = (3, 1 + takeW digitB (s.data.toList.drop (at_ + 1))) := by
        rw [htok, tokAt_cons, if_neg (by rw [hl]; exact Bool.false_ne_true), if_pos hd]
      repeat' (first | apply dw_seq2 | apply dw_block)
      refine ds_loop (ι := Nat) (fun n => ⟨0, [(0, .d (.str s)), (1, .d (.int .i64 at_)), (6, .d (.int .u8 s[at_].toNat)), (7, .d (.int .i64 n))], []⟩)
        (fun n => 1 ≤ n ∧ at_ + n ≤ s.size ∧ n + takeW digitB (s.data.toList.drop (at_ + n)) = 1 + takeW digitB (s.data.toList.drop (at_ + 1))) (fun n => s.size - n) 1 ⟨by omega, by omega, rfl⟩
        (ent_ren id ⟨rfl, rfl, rfl, rfl, trivial⟩ trivial rfl rfl rfl rfl rfl rfl) ?_
      rintro n ⟨h1, h2, h3⟩
      have hstep : (h : (at_ : Int) + n < s.size) → digitB (s[at_ + n]'(by omega)) = true → n + 1 + takeW digitB (s.data.toList.drop (at_ + (n + 1))) = 1 + takeW digitB (s.data.toList.drop (at_ + 1)) := fun h hp => by
        have h4 := takeW_step digitB s.data.toList (at_ + n) (by omega) (by rw [byteAt _ _ (by omega)]; exact hp)
        rw [← Nat.add_assoc at_ n 1]; omega
      have hstop : (h : (at_ : Int) + n < s.size) → digitB (s[at_ + n]'(by omega)) = false → 1 + takeW digitB (s.data.toList.drop (at_ + 1)) = n := fun h hp => by
        have h4 := takeW_stop digitB s.data.toList (at_ + n) (by omega) (by rw [byteAt _ _ (by omega)]; exact hp)
        omega
      have hend : ¬ (at_ : Int) + n < s.size → 1 + takeW digitB (s.data.toList.drop (at_ + 1)) = n := fun h => by
        have h4 := takeW_end digitB s.data.toList (at_ + n) (by omega)
        omega
      clear htok
      repeat' (first | (apply ds_evC; exact rfl; (first | (with_reducible exact trivial) | omega); (first | ((with_reducible apply hv_sat); (exact rfl); omega) | (with_reducible exact rfl)); exact rfl; exact rfl; exact rfl) | (apply ds_skip; exact rfl; exact rfl) | apply ds_nil | apply dw_seq2 | (apply ds_region; exact rfl) | apply dw_block | apply dw_skip | apply dw_exit | apply dw_ret | (apply dw_condF; exact rfl) | apply thenD_n | apply thenD_e | apply thenD_r | apply inB_n | apply inB_r | (apply inB_e; exact rfl) | (apply ds_call; exact rfl; exact rfl; apply isDigit_fn; exact rfl; (exact rfl); exact rfl; rintro _ rfl) | (apply dw_cond; exact rfl; all_goals intro hg) | ((fail_if_success (apply ds_known; exact rfl)); apply ds_guardP; exact rfl; exact rfl; exact rfl; all_goals intro hg))
      all_goals first
        | (refine ⟨n + 1, ⟨?_, ?_, ?_⟩, ent_ren id ⟨rfl, rfl, rfl, rfl, trivial⟩ trivial rfl rfl rfl rfl rfl rfl, ?_⟩
           · omega
           · omega
           · apply hstep <;> assumption
           · omega)
        | (refine ret_2 rfl ⟨?_, ?_⟩
           · rw [hres]
           · rw [hres]
             refine congrArg (fun q : Nat => D.int .i64 (q : Int)) (Eq.symm ?_)
             first
               | (apply hend; assumption)
               | (apply hstop <;> assumption))
    · have hres : tokAt (s.data.toList.drop at_) = if pairB (s[at_] :: s.data.toList.drop (at_ + 1)) then (4, 2) else if signs.contains s[at_] then (4, 1) else (0, 0) := by
        rw [htok, tokAt_cons, if_neg (by rw [hl]; exact Bool.false_ne_true), if_neg (by rw [hd]; exact Bool.false_ne_true)]
      repeat' (first | (apply ds_evC; exact rfl; (first | (with_reducible exact trivial) | omega); (with_reducible exact rfl); exact rfl; exact rfl; exact rfl) | apply ds_nil | apply dw_seq2 | (apply ds_region; exact rfl) | apply dw_skip | apply thenD_n | apply inB_n)
      refine dw_condP rfl (fun h2 => ?_) (fun h2 => ?_)
      · have hp := pair_ext s at_ (by omega)
        repeat' (first | (apply ds_evC; exact rfl; (first | (with_reducible exact trivial) | omega); (first | ((with_reducible apply hv_ext); (exact rfl); (exact nat_add_2 _)) | (with_reducible exact rfl)); exact rfl; exact rfl; exact rfl) | (apply ds_skip; exact rfl; exact rfl) | apply ds_nil | apply dw_seq2 | (apply ds_region; exact rfl) | apply dw_block | apply dw_skip | apply dw_ret | (apply dw_condT; exact rfl) | apply thenD_n | apply thenD_r | (apply dw_condP; exact rfl; all_goals intro hg) | ((fail_if_success (apply ds_known; exact rfl)); apply ds_guardP; exact rfl; exact rfl; exact rfl; all_goals intro hg))
        all_goals first
          | (refine ret_2 rfl ⟨?_, ?_⟩ <;> (rw [hres, hp]; simp [*]; done))
          | skip
        have hpf : pairB (s[at_] :: s.data.toList.drop (at_ + 1)) = false := by rw [hp]; simp [*]
        rw [hpf] at hres
        refine ds_loop (ι := Nat) (fun i => ⟨0, [(6, .d (.int .u8 s[at_].toNat)), (9, .d (.str ⟨#[40, 41, 44, 46, 60, 61, 43, 45, 42]⟩)), (10, .d (.int .i64 i))], []⟩)
          (fun i => i ≤ 9 ∧ signs.contains s[at_] = (signs.drop i).contains s[at_]) (fun i => 9 - i) 0 ⟨by omega, rfl⟩ (ent_ren id ⟨rfl, rfl, rfl, trivial⟩ trivial rfl rfl rfl rfl rfl rfl) ?_
        rintro i ⟨hi, hc⟩
        have hst := fun h => signs_step s[at_] i h
        have h9 : ((⟨#[40, 41, 44, 46, 60, 61, 43, 45, 42]⟩ : ByteArray).size : Int) = 9 := rfl
        repeat' (first | (apply ds_evC; exact rfl; (first | (with_reducible exact trivial) | omega); (first | ((with_reducible apply hv_sat); (exact rfl); omega) | (with_reducible exact rfl)); exact rfl; exact rfl; exact rfl) | apply ds_nil | apply dw_seq2 | (apply ds_region; exact rfl) | apply dw_block | apply dw_skip | apply dw_exit | apply dw_ret | apply thenD_n | apply thenD_e | apply thenD_r | apply inB_n | apply inB_r | (apply inB_e; exact rfl) | (apply dw_condP; exact rfl; all_goals intro hg))
        all_goals first
          | (refine ret_2 rfl ⟨?_, ?_⟩
             · rw [hres, hc, hst (by rw [← Int.ofNat_lt]; assumption), decide_eq_true ‹_›]; rfl
             · rw [hres, hc, hst (by rw [← Int.ofNat_lt]; assumption), decide_eq_true ‹_›]; rfl)
          | (refine ⟨i + 1, ⟨?_, ?_⟩, ent_ren id ⟨rfl, rfl, rfl, trivial⟩ trivial rfl rfl rfl rfl rfl rfl, ?_⟩
             · omega
             · rw [hc, hst (by rw [← Int.ofNat_lt]; assumption), decide_eq_false ‹_›]; rfl
             · omega)
          | (have hi9 : i = 9 := by omega
             subst hi9
             refine ret_2 rfl ⟨?_, ?_⟩
             · rw [hres, hc]; rfl
             · rw [hres, hc]; rfl)
      · repeat' (first | (apply ds_evC; exact rfl; (with_reducible exact trivial); (with_reducible exact rfl); exact rfl; exact rfl; exact rfl) | apply ds_nil | apply dw_seq2 | (apply ds_region; exact rfl) | apply dw_block | apply dw_skip | apply thenD_n)
        have hpf : pairB (s[at_] :: s.data.toList.drop (at_ + 1)) = false := by
          rw [List.drop_of_length_le (by omega)]; unfold pairB; rfl
        rw [hpf] at hres
        refine ds_loop (ι := Nat) (fun i => ⟨0, [(6, .d (.int .u8 s[at_].toNat)), (9, .d (.str ⟨#[40, 41, 44, 46, 60, 61, 43, 45, 42]⟩)), (10, .d (.int .i64 i))], []⟩)
          (fun i => i ≤ 9 ∧ signs.contains s[at_] = (signs.drop i).contains s[at_]) (fun i => 9 - i) 0 ⟨by omega, rfl⟩ (ent_ren id ⟨rfl, rfl, rfl, trivial⟩ trivial rfl rfl rfl rfl rfl rfl) ?_
        rintro i ⟨hi, hc⟩
        have hst := fun h => signs_step s[at_] i h
        have h9 : ((⟨#[40, 41, 44, 46, 60, 61, 43, 45, 42]⟩ : ByteArray).size : Int) = 9 := rfl
        repeat' (first | (apply ds_evC; exact rfl; (first | (with_reducible exact trivial) | omega); (first | ((with_reducible apply hv_sat); (exact rfl); omega) | (with_reducible exact rfl)); exact rfl; exact rfl; exact rfl) | apply ds_nil | apply dw_seq2 | (apply ds_region; exact rfl) | apply dw_block | apply dw_skip | apply dw_exit | apply dw_ret | apply thenD_n | apply thenD_e | apply thenD_r | apply inB_n | apply inB_r | (apply inB_e; exact rfl) | (apply dw_condP; exact rfl; all_goals intro hg))
        all_goals first
          | (refine ret_2 rfl ⟨?_, ?_⟩
             · rw [hres, hc, hst (by rw [← Int.ofNat_lt]; assumption), decide_eq_true ‹_›]; rfl
             · rw [hres, hc, hst (by rw [← Int.ofNat_lt]; assumption), decide_eq_true ‹_›]; rfl)
          | (refine ⟨i + 1, ⟨?_, ?_⟩, ent_ren id ⟨rfl, rfl, rfl, trivial⟩ trivial rfl rfl rfl rfl rfl rfl, ?_⟩
             · omega
             · rw [hc, hst (by rw [← Int.ofNat_lt]; assumption), decide_eq_false ‹_›]; rfl
             · omega)
          | (have hi9 : i = 9 := by omega
             subst hi9
             refine ret_2 rfl ⟨?_, ?_⟩
             · rw [hres, hc]; rfl
             · rw [hres, hc]; rfl)
end Go.Proofs.Ytapciiffpnociaa
