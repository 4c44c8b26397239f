/- The program's scanner: the pairs, and whether one begins here. Condition: none. -/
import Derived.Test.YtapciiffpnociaaTokX
namespace Go.Proofs.Ytapciiffpnociaa
open Go Go.RowKit
attribute [local irreducible] DW DS DL DQ Ev FnOk FnP thenD inBlockD DT

def pairL : D := .slice 1 [[.str ⟨#[58, 45]⟩], [.str ⟨#[60, 61]⟩], [.str ⟨#[33, 61]⟩]]
set_option maxHeartbeats 8000000 in
theorem pairs_fn : Fn 142 [] (fun r => r = .d pairL) := by
  refine fnp_enter' _ Try.func142 rfl rfl (by kernel_rfl) ?_
  intro O w0 E0 β0
  repeat' (first
    | (apply ds_evC; exact rfl; (first | (with_reducible exact trivial) | (with_reducible exact u8_range _) | (with_reducible exact sat_range _ _) | omega | (constructor <;> omega) | (simp only [List.length_map]; omega) | (unfold maxLen at *; omega) | (simp <;> omega) | (unfold maxLen; simp <;> omega)); (first | (with_reducible exact hv_chr) | ((with_reducible apply hv_row); (first | exact nat_add_2 _ | exact nat_add_1 _ | exact nat_lit_0 | exact nat_lit_1 | exact rfl | exact (Int.toNat_of_nonneg (by omega)).symm); omega) | ((with_reducible apply hv_sat); (first | exact nat_add_2 _ | exact nat_add_1 _ | exact nat_lit_0 | exact nat_lit_1 | exact rfl | exact (Int.toNat_of_nonneg (by omega)).symm); omega) | ((with_reducible apply hv_ext); (first | exact nat_add_2 _ | exact nat_add_1 _ | exact nat_lit_0 | exact nat_lit_1 | exact rfl | exact (Int.toNat_of_nonneg (by omega)).symm); (first | exact nat_add_2 _ | exact nat_add_1 _ | exact nat_lit_0 | exact nat_lit_1 | exact rfl | exact (Int.toNat_of_nonneg (by omega)).symm)) | (with_reducible exact rfl)); exact rfl; exact rfl; exact rfl)
    | (apply ds_skip; exact rfl; exact rfl)
    | (apply ds_skip0; exact rfl)
    | apply ds_nil
    | (apply dt_ev; exact rfl; exact rfl; (first | (with_reducible exact trivial) | (with_reducible exact u8_range _) | (with_reducible exact sat_range _ _) | omega | (constructor <;> omega) | (simp only [List.length_map]; omega) | (unfold maxLen at *; omega) | (simp <;> omega) | (unfold maxLen; simp <;> omega)); (first | (with_reducible exact hv_chr) | ((with_reducible apply hv_row); (first | exact nat_add_2 _ | exact nat_add_1 _ | exact nat_lit_0 | exact nat_lit_1 | exact rfl | exact (Int.toNat_of_nonneg (by omega)).symm); omega) | ((with_reducible apply hv_sat); (first | exact nat_add_2 _ | exact nat_add_1 _ | exact nat_lit_0 | exact nat_lit_1 | exact rfl | exact (Int.toNat_of_nonneg (by omega)).symm); omega) | ((with_reducible apply hv_ext); (first | exact nat_add_2 _ | exact nat_add_1 _ | exact nat_lit_0 | exact nat_lit_1 | exact rfl | exact (Int.toNat_of_nonneg (by omega)).symm); (first | exact nat_add_2 _ | exact nat_add_1 _ | exact nat_lit_0 | exact nat_lit_1 | exact rfl | exact (Int.toNat_of_nonneg (by omega)).symm)) | (with_reducible exact rfl)); exact rfl; exact rfl; exact rfl; exact rfl)
    | (apply dt_skipD; exact rfl; exact rfl; exact rfl)
    | (apply dt_skip0; exact rfl; exact rfl)
    | (apply dt_set; exact rfl; exact rfl; (first | (with_reducible exact trivial) | (with_reducible exact u8_range _) | (with_reducible exact sat_range _ _) | omega | (constructor <;> omega) | (simp only [List.length_map]; omega) | (unfold maxLen at *; omega) | (simp <;> omega) | (unfold maxLen; simp <;> omega)); exact rfl; exact rfl; exact rfl; exact rfl)
    | (apply dt_new; exact rfl; exact rfl; exact rfl; (first | (with_reducible exact trivial) | (with_reducible exact u8_range _) | (with_reducible exact sat_range _ _) | omega | (constructor <;> omega) | (simp only [List.length_map]; omega) | (unfold maxLen at *; omega) | (simp <;> omega) | (unfold maxLen; simp <;> omega)); exact rfl; exact rfl; exact rfl; exact rfl; exact rfl)
    | (apply dt_trade; exact rfl; exact rfl; exact rfl; (first | (with_reducible exact trivial) | (with_reducible exact u8_range _) | (with_reducible exact sat_range _ _) | omega | (constructor <;> omega) | (simp only [List.length_map]; omega) | (unfold maxLen at *; omega) | (simp <;> omega) | (unfold maxLen; simp <;> omega)); exact rfl; exact rfl; exact rfl; exact rfl; exact rfl; exact rfl)
    | (apply dt_nil0; exact rfl; exact rfl; exact rfl; exact rfl)
    | (apply dt_nil; exact rfl)
    | apply dw_seq2
    | apply ds_region
    | (apply dw_any; kernel_rfl; kernel_rfl; exact rfl)
    | apply dw_block
    | apply dw_skip
    | apply dw_exit
    | apply dw_ret
    | (apply dw_condT; exact rfl)
    | (apply dw_condF; exact rfl)
    | apply thenD_n
    | apply thenD_e
    | apply thenD_r
    | apply inB_n
    | apply inB_r
    | (apply inB_e; exact rfl)
    | (apply inB_x; exact rfl)
    | (apply ds_newC; exact rfl; (first | (with_reducible exact trivial) | (with_reducible exact u8_range _) | (with_reducible exact sat_range _ _) | omega | (constructor <;> omega) | (simp only [List.length_map]; omega) | (unfold maxLen at *; omega) | (simp <;> omega) | (unfold maxLen; simp <;> omega)); exact rfl; exact rfl; exact rfl)
    | (apply ds_setC; exact rfl; exact rfl; exact rfl; exact rfl)
    | (apply ds_bsC; exact rfl; exact rfl; exact rfl; exact rfl)
    | (apply ds_tradeC; exact rfl; (first | (with_reducible exact trivial) | (with_reducible exact u8_range _) | (with_reducible exact sat_range _ _) | omega | (constructor <;> omega) | (simp only [List.length_map]; omega) | (unfold maxLen at *; omega) | (simp <;> omega) | (unfold maxLen; simp <;> omega)); exact rfl; exact rfl; exact rfl; exact rfl)
    | (apply dw_condP; exact rfl; all_goals intro hg) | (apply dw_cond; exact rfl; all_goals intro hg) | ((fail_if_success (apply ds_known; exact rfl)); apply ds_guardP; exact rfl; exact rfl; exact rfl; all_goals intro hg) | ((fail_if_success (apply ds_known; exact rfl)); apply ds_guardB; exact rfl; exact rfl; exact rfl; all_goals intro hg) | ((fail_if_success (apply dt_known; exact rfl)); apply dt_guardP; exact rfl; exact rfl; exact rfl; all_goals intro hg) | ((fail_if_success (apply dt_known; exact rfl)); apply dt_guard; exact rfl; exact rfl; exact rfl; all_goals intro hg))
  exact ⟨.inl rfl, _, rfl, rfl, rfl⟩
def hasPre (s t : ByteArray) : Bool := decide (t.size ≤ s.size) && decide (s.extract 0 t.size = t)

set_option maxHeartbeats 8000000 in
theorem hasPrefix0_fn (s t : ByteArray) : Fn 191 [.d (.str s), .d (.str t)] (fun r => r = .d (.bool (hasPre s t))) := by
  refine fnp_enter' _ Try.func191 rfl rfl (by kernel_rfl) ?_
  intro O w0 E0 β0
  repeat' (first
    | (apply ds_evC; exact rfl; (first | (with_reducible exact trivial) | (with_reducible exact u8_range _) | (with_reducible exact sat_range _ _) | omega | (constructor <;> omega) | (simp only [List.length_map]; omega) | (unfold maxLen at *; omega) | (simp <;> omega) | (unfold maxLen; simp <;> omega)); (first | (with_reducible exact hv_chr) | ((with_reducible apply hv_row); (first | exact nat_add_2 _ | exact nat_add_1 _ | exact nat_lit_0 | exact nat_lit_1 | exact rfl | exact (Int.toNat_of_nonneg (by omega)).symm); omega) | ((with_reducible apply hv_sat); (first | exact nat_add_2 _ | exact nat_add_1 _ | exact nat_lit_0 | exact nat_lit_1 | exact rfl | exact (Int.toNat_of_nonneg (by omega)).symm); omega) | ((with_reducible apply hv_ext); (first | exact nat_add_2 _ | exact nat_add_1 _ | exact nat_lit_0 | exact nat_lit_1 | exact rfl | exact (Int.toNat_of_nonneg (by omega)).symm); (first | exact nat_add_2 _ | exact nat_add_1 _ | exact nat_lit_0 | exact nat_lit_1 | exact rfl | exact (Int.toNat_of_nonneg (by omega)).symm)) | (with_reducible exact rfl)); exact rfl; exact rfl; exact rfl)
    | (apply ds_skip; exact rfl; exact rfl)
    | (apply ds_skip0; exact rfl)
    | apply ds_nil
    | (apply dt_ev; exact rfl; exact rfl; (first | (with_reducible exact trivial) | (with_reducible exact u8_range _) | (with_reducible exact sat_range _ _) | omega | (constructor <;> omega) | (simp only [List.length_map]; omega) | (unfold maxLen at *; omega) | (simp <;> omega) | (unfold maxLen; simp <;> omega)); (first | (with_reducible exact hv_chr) | ((with_reducible apply hv_row); (first | exact nat_add_2 _ | exact nat_add_1 _ | exact nat_lit_0 | exact nat_lit_1 | exact rfl | exact (Int.toNat_of_nonneg (by omega)).symm); omega) | ((with_reducible apply hv_sat); (first | exact nat_add_2 _ | exact nat_add_1 _ | exact nat_lit_0 | exact nat_lit_1 | exact rfl | exact (Int.toNat_of_nonneg (by omega)).symm); omega) | ((with_reducible apply hv_ext); (first | exact nat_add_2 _ | exact nat_add_1 _ | exact nat_lit_0 | exact nat_lit_1 | exact rfl | exact (Int.toNat_of_nonneg (by omega)).symm); (first | exact nat_add_2 _ | exact nat_add_1 _ | exact nat_lit_0 | exact nat_lit_1 | exact rfl | exact (Int.toNat_of_nonneg (by omega)).symm)) | (with_reducible exact rfl)); exact rfl; exact rfl; exact rfl; exact rfl)
    | (apply dt_skipD; exact rfl; exact rfl; exact rfl)
    | (apply dt_skip0; exact rfl; exact rfl)
    | (apply dt_set; exact rfl; exact rfl; (first | (with_reducible exact trivial) | (with_reducible exact u8_range _) | (with_reducible exact sat_range _ _) | omega | (constructor <;> omega) | (simp only [List.length_map]; omega) | (unfold maxLen at *; omega) | (simp <;> omega) | (unfold maxLen; simp <;> omega)); exact rfl; exact rfl; exact rfl; exact rfl)
    | (apply dt_new; exact rfl; exact rfl; exact rfl; (first | (with_reducible exact trivial) | (with_reducible exact u8_range _) | (with_reducible exact sat_range _ _) | omega | (constructor <;> omega) | (simp only [List.length_map]; omega) | (unfold maxLen at *; omega) | (simp <;> omega) | (unfold maxLen; simp <;> omega)); exact rfl; exact rfl; exact rfl; exact rfl; exact rfl)
    | (apply dt_trade; exact rfl; exact rfl; exact rfl; (first | (with_reducible exact trivial) | (with_reducible exact u8_range _) | (with_reducible exact sat_range _ _) | omega | (constructor <;> omega) | (simp only [List.length_map]; omega) | (unfold maxLen at *; omega) | (simp <;> omega) | (unfold maxLen; simp <;> omega)); exact rfl; exact rfl; exact rfl; exact rfl; exact rfl; exact rfl)
    | (apply dt_nil0; exact rfl; exact rfl; exact rfl; exact rfl)
    | (apply dt_nil; exact rfl)
    | apply dw_seq2
    | apply ds_region
    | (apply dw_any; kernel_rfl; kernel_rfl; exact rfl)
    | apply dw_block
    | apply dw_skip
    | apply dw_exit
    | apply dw_ret
    | (apply dw_condT; exact rfl)
    | (apply dw_condF; exact rfl)
    | apply thenD_n
    | apply thenD_e
    | apply thenD_r
    | apply inB_n
    | apply inB_r
    | (apply inB_e; exact rfl)
    | (apply inB_x; exact rfl)
    | (apply ds_newC; exact rfl; (first | (with_reducible exact trivial) | (with_reducible exact u8_range _) | (with_reducible exact sat_range _ _) | omega | (constructor <;> omega) | (simp only [List.length_map]; omega) | (unfold maxLen at *; omega) | (simp <;> omega) | (unfold maxLen; simp <;> omega)); exact rfl; exact rfl; exact rfl)
    | (apply ds_setC; exact rfl; exact rfl; exact rfl; exact rfl)
    | (apply ds_bsC; exact rfl; exact rfl; exact rfl; exact rfl)
    | (apply ds_tradeC; exact rfl; (first | (with_reducible exact trivial) | (with_reducible exact u8_range _) | (with_reducible exact sat_range _ _) | omega | (constructor <;> omega) | (simp only [List.length_map]; omega) | (unfold maxLen at *; omega) | (simp <;> omega) | (unfold maxLen; simp <;> omega)); exact rfl; exact rfl; exact rfl; exact rfl)
    | (apply dw_condP; exact rfl; all_goals intro hg) | (apply dw_cond; exact rfl; all_goals intro hg) | ((fail_if_success (apply ds_known; exact rfl)); apply ds_guardP; exact rfl; exact rfl; exact rfl; all_goals intro hg) | ((fail_if_success (apply ds_known; exact rfl)); apply ds_guardB; exact rfl; exact rfl; exact rfl; all_goals intro hg) | ((fail_if_success (apply dt_known; exact rfl)); apply dt_guardP; exact rfl; exact rfl; exact rfl; all_goals intro hg) | ((fail_if_success (apply dt_known; exact rfl)); apply dt_guard; exact rfl; exact rfl; exact rfl; all_goals intro hg))
  all_goals exact ret_b rfl (by
    unfold hasPre
    first
      | (have h : t.size ≤ s.size := by omega
         simp [h]; done)
      | (have h : ¬ t.size ≤ s.size := by omega
         simp [h]; done))

set_option maxHeartbeats 8000000 in
theorem hasPrefix_fn (s t : ByteArray) : Fn 144 [.d (.str s), .d (.str t)] (fun r => r = .d (.bool (hasPre s t))) := by
  refine fnp_enter' _ Try.func144 rfl rfl (by kernel_rfl) ?_
  intro O w0 E0 β0
  repeat' (first
    | (apply ds_evC; exact rfl; (first | (with_reducible exact trivial) | (with_reducible exact u8_range _) | (with_reducible exact sat_range _ _) | omega | (constructor <;> omega) | (simp only [List.length_map]; omega) | (unfold maxLen at *; omega) | (simp <;> omega) | (unfold maxLen; simp <;> omega)); (first | (with_reducible exact hv_chr) | ((with_reducible apply hv_row); (first | exact nat_add_2 _ | exact nat_add_1 _ | exact nat_lit_0 | exact nat_lit_1 | exact rfl | exact (Int.toNat_of_nonneg (by omega)).symm); omega) | ((with_reducible apply hv_sat); (first | exact nat_add_2 _ | exact nat_add_1 _ | exact nat_lit_0 | exact nat_lit_1 | exact rfl | exact (Int.toNat_of_nonneg (by omega)).symm); omega) | ((with_reducible apply hv_ext); (first | exact nat_add_2 _ | exact nat_add_1 _ | exact nat_lit_0 | exact nat_lit_1 | exact rfl | exact (Int.toNat_of_nonneg (by omega)).symm); (first | exact nat_add_2 _ | exact nat_add_1 _ | exact nat_lit_0 | exact nat_lit_1 | exact rfl | exact (Int.toNat_of_nonneg (by omega)).symm)) | (with_reducible exact rfl)); exact rfl; exact rfl; exact rfl)
    | (apply ds_skip; exact rfl; exact rfl)
    | (apply ds_skip0; exact rfl)
    | apply ds_nil
    | (apply dt_ev; exact rfl; exact rfl; (first | (with_reducible exact trivial) | (with_reducible exact u8_range _) | (with_reducible exact sat_range _ _) | omega | (constructor <;> omega) | (simp only [List.length_map]; omega) | (unfold maxLen at *; omega) | (simp <;> omega) | (unfold maxLen; simp <;> omega)); (first | (with_reducible exact hv_chr) | ((with_reducible apply hv_row); (first | exact nat_add_2 _ | exact nat_add_1 _ | exact nat_lit_0 | exact nat_lit_1 | exact rfl | exact (Int.toNat_of_nonneg (by omega)).symm); omega) | ((with_reducible apply hv_sat); (first | exact nat_add_2 _ | exact nat_add_1 _ | exact nat_lit_0 | exact nat_lit_1 | exact rfl | exact (Int.toNat_of_nonneg (by omega)).symm); omega) | ((with_reducible apply hv_ext); (first | exact nat_add_2 _ | exact nat_add_1 _ | exact nat_lit_0 | exact nat_lit_1 | exact rfl | exact (Int.toNat_of_nonneg (by omega)).symm); (first | exact nat_add_2 _ | exact nat_add_1 _ | exact nat_lit_0 | exact nat_lit_1 | exact rfl | exact (Int.toNat_of_nonneg (by omega)).symm)) | (with_reducible exact rfl)); exact rfl; exact rfl; exact rfl; exact rfl)
    | (apply dt_skipD; exact rfl; exact rfl; exact rfl)
    | (apply dt_skip0; exact rfl; exact rfl)
    | (apply dt_set; exact rfl; exact rfl; (first | (with_reducible exact trivial) | (with_reducible exact u8_range _) | (with_reducible exact sat_range _ _) | omega | (constructor <;> omega) | (simp only [List.length_map]; omega) | (unfold maxLen at *; omega) | (simp <;> omega) | (unfold maxLen; simp <;> omega)); exact rfl; exact rfl; exact rfl; exact rfl)
    | (apply dt_new; exact rfl; exact rfl; exact rfl; (first | (with_reducible exact trivial) | (with_reducible exact u8_range _) | (with_reducible exact sat_range _ _) | omega | (constructor <;> omega) | (simp only [List.length_map]; omega) | (unfold maxLen at *; omega) | (simp <;> omega) | (unfold maxLen; simp <;> omega)); exact rfl; exact rfl; exact rfl; exact rfl; exact rfl)
    | (apply dt_trade; exact rfl; exact rfl; exact rfl; (first | (with_reducible exact trivial) | (with_reducible exact u8_range _) | (with_reducible exact sat_range _ _) | omega | (constructor <;> omega) | (simp only [List.length_map]; omega) | (unfold maxLen at *; omega) | (simp <;> omega) | (unfold maxLen; simp <;> omega)); exact rfl; exact rfl; exact rfl; exact rfl; exact rfl; exact rfl)
    | (apply dt_nil0; exact rfl; exact rfl; exact rfl; exact rfl)
    | (apply dt_nil; exact rfl)
    | apply dw_seq2
    | apply ds_region
    | (apply dw_any; kernel_rfl; kernel_rfl; exact rfl)
    | apply dw_block
    | apply dw_skip
    | apply dw_exit
    | apply dw_ret
    | (apply dw_condT; exact rfl)
    | (apply dw_condF; exact rfl)
    | apply thenD_n
    | apply thenD_e
    | apply thenD_r
    | apply inB_n
    | apply inB_r
    | (apply inB_e; exact rfl)
    | (apply inB_x; exact rfl)
    | (apply ds_call; exact rfl; exact rfl; apply hasPrefix0_fn; exact rfl; exact rfl; exact rfl; rintro _ rfl)
    | (apply dt_call; exact rfl; exact rfl; apply hasPrefix0_fn; exact rfl; exact rfl; exact rfl; exact rfl; exact ⟨_, rfl⟩; rintro _ rfl)
    | (apply ds_newC; exact rfl; (first | (with_reducible exact trivial) | (with_reducible exact u8_range _) | (with_reducible exact sat_range _ _) | omega | (constructor <;> omega) | (simp only [List.length_map]; omega) | (unfold maxLen at *; omega) | (simp <;> omega) | (unfold maxLen; simp <;> omega)); exact rfl; exact rfl; exact rfl)
    | (apply ds_setC; exact rfl; exact rfl; exact rfl; exact rfl)
    | (apply ds_bsC; exact rfl; exact rfl; exact rfl; exact rfl)
    | (apply ds_tradeC; exact rfl; (first | (with_reducible exact trivial) | (with_reducible exact u8_range _) | (with_reducible exact sat_range _ _) | omega | (constructor <;> omega) | (simp only [List.length_map]; omega) | (unfold maxLen at *; omega) | (simp <;> omega) | (unfold maxLen; simp <;> omega)); exact rfl; exact rfl; exact rfl; exact rfl)
    | (apply dw_condP; exact rfl; all_goals intro hg) | (apply dw_cond; exact rfl; all_goals intro hg) | ((fail_if_success (apply ds_known; exact rfl)); apply ds_guardP; exact rfl; exact rfl; exact rfl; all_goals intro hg) | ((fail_if_success (apply ds_known; exact rfl)); apply ds_guardB; exact rfl; exact rfl; exact rfl; all_goals intro hg) | ((fail_if_success (apply dt_known; exact rfl)); apply dt_guardP; exact rfl; exact rfl; exact rfl; all_goals intro hg) | ((fail_if_success (apply dt_known; exact rfl)); apply dt_guard; exact rfl; exact rfl; exact rfl; all_goals intro hg))
  all_goals exact ret_b rfl rfl

/-- The scanner, where a variable holds it. -/
abbrev scH2 (s : ByteArray) (i : Nat) : Hp := [(0, .blk 99 [.d (.str s), .d (.int .i64 i)]), (1, .blk 97 [.loc 0 0])]

set_option maxHeartbeats 8000000 in
theorem begins_fn (s : ByteArray) (i : Nat) (hi : i ≤ s.size) (t : ByteArray) :
    FnS 143 [.d (.str t), .loc 1 0] 2 2 (scH2 s i) (fun k2 r H2 => k2 = 2 ∧ r = .d (.bool (hasPre (s.extract i s.size) t)) ∧ H2 = scH2 s i) := by
  refine fn_enter _ Try.func143 rfl rfl (by kernel_rfl) ?_
  intro O w0 E0 β0
  repeat' (first
    | (apply ds_evC; exact rfl; (first | (with_reducible exact trivial) | (with_reducible exact u8_range _) | (with_reducible exact sat_range _ _) | omega | (constructor <;> omega) | (simp only [List.length_map]; omega) | (unfold maxLen at *; omega) | (simp <;> omega) | (unfold maxLen; simp <;> omega)); (first | (with_reducible exact hv_chr) | ((with_reducible apply hv_row); (first | exact nat_add_2 _ | exact nat_add_1 _ | exact nat_lit_0 | exact nat_lit_1 | exact rfl | exact (Int.toNat_of_nonneg (by omega)).symm); omega) | ((with_reducible apply hv_sat); (first | exact nat_add_2 _ | exact nat_add_1 _ | exact nat_lit_0 | exact nat_lit_1 | exact rfl | exact (Int.toNat_of_nonneg (by omega)).symm); omega) | ((with_reducible apply hv_ext); (first | exact nat_add_2 _ | exact nat_add_1 _ | exact nat_lit_0 | exact nat_lit_1 | exact rfl | exact (Int.toNat_of_nonneg (by omega)).symm); (first | exact nat_add_2 _ | exact nat_add_1 _ | exact nat_lit_0 | exact nat_lit_1 | exact rfl | exact (Int.toNat_of_nonneg (by omega)).symm)) | (with_reducible exact rfl)); exact rfl; exact rfl; exact rfl)
    | (apply ds_skip; exact rfl; exact rfl)
    | (apply ds_skip0; exact rfl)
    | apply ds_nil
    | (apply dt_ev; exact rfl; exact rfl; (first | (with_reducible exact trivial) | (with_reducible exact u8_range _) | (with_reducible exact sat_range _ _) | omega | (constructor <;> omega) | (simp only [List.length_map]; omega) | (unfold maxLen at *; omega) | (simp <;> omega) | (unfold maxLen; simp <;> omega)); (first | (with_reducible exact hv_chr) | ((with_reducible apply hv_row); (first | exact nat_add_2 _ | exact nat_add_1 _ | exact nat_lit_0 | exact nat_lit_1 | exact rfl | exact (Int.toNat_of_nonneg (by omega)).symm); omega) | ((with_reducible apply hv_sat); (first | exact nat_add_2 _ | exact nat_add_1 _ | exact nat_lit_0 | exact nat_lit_1 | exact rfl | exact (Int.toNat_of_nonneg (by omega)).symm); omega) | ((with_reducible apply hv_ext); (first | exact nat_add_2 _ | exact nat_add_1 _ | exact nat_lit_0 | exact nat_lit_1 | exact rfl | exact (Int.toNat_of_nonneg (by omega)).symm); (first | exact nat_add_2 _ | exact nat_add_1 _ | exact nat_lit_0 | exact nat_lit_1 | exact rfl | exact (Int.toNat_of_nonneg (by omega)).symm)) | (with_reducible exact rfl)); exact rfl; exact rfl; exact rfl; exact rfl)
    | (apply dt_skipD; exact rfl; exact rfl; exact rfl)
    | (apply dt_skip0; exact rfl; exact rfl)
    | (apply dt_set; exact rfl; exact rfl; (first | (with_reducible exact trivial) | (with_reducible exact u8_range _) | (with_reducible exact sat_range _ _) | omega | (constructor <;> omega) | (simp only [List.length_map]; omega) | (unfold maxLen at *; omega) | (simp <;> omega) | (unfold maxLen; simp <;> omega)); exact rfl; exact rfl; exact rfl; exact rfl)
    | (apply dt_new; exact rfl; exact rfl; exact rfl; (first | (with_reducible exact trivial) | (with_reducible exact u8_range _) | (with_reducible exact sat_range _ _) | omega | (constructor <;> omega) | (simp only [List.length_map]; omega) | (unfold maxLen at *; omega) | (simp <;> omega) | (unfold maxLen; simp <;> omega)); exact rfl; exact rfl; exact rfl; exact rfl; exact rfl)
    | (apply dt_trade; exact rfl; exact rfl; exact rfl; (first | (with_reducible exact trivial) | (with_reducible exact u8_range _) | (with_reducible exact sat_range _ _) | omega | (constructor <;> omega) | (simp only [List.length_map]; omega) | (unfold maxLen at *; omega) | (simp <;> omega) | (unfold maxLen; simp <;> omega)); exact rfl; exact rfl; exact rfl; exact rfl; exact rfl; exact rfl)
    | (apply dt_nil0; exact rfl; exact rfl; exact rfl; exact rfl)
    | (apply dt_nil; exact rfl)
    | apply dw_seq2
    | apply ds_region
    | (apply dw_any; kernel_rfl; kernel_rfl; exact rfl)
    | apply dw_block
    | apply dw_skip
    | apply dw_exit
    | apply dw_ret
    | (apply dw_condT; exact rfl)
    | (apply dw_condF; exact rfl)
    | apply thenD_n
    | apply thenD_e
    | apply thenD_r
    | apply inB_n
    | apply inB_r
    | (apply inB_e; exact rfl)
    | (apply inB_x; exact rfl)
    | (apply ds_call; exact rfl; exact rfl; apply hasPrefix_fn; exact rfl; exact rfl; exact rfl; rintro _ rfl)
    | (apply dt_call; exact rfl; exact rfl; apply hasPrefix_fn; exact rfl; exact rfl; exact rfl; exact rfl; exact ⟨_, rfl⟩; rintro _ rfl)
    | (apply ds_call; exact rfl; exact rfl; apply hasPrefix_fn; exact rfl; exact rfl; exact rfl; rintro _ rfl)
    | (apply dt_call; exact rfl; exact rfl; apply hasPrefix_fn; exact rfl; exact rfl; exact rfl; exact rfl; exact ⟨_, rfl⟩; rintro _ rfl)
    | (apply ds_newC; exact rfl; (first | (with_reducible exact trivial) | (with_reducible exact u8_range _) | (with_reducible exact sat_range _ _) | omega | (constructor <;> omega) | (simp only [List.length_map]; omega) | (unfold maxLen at *; omega) | (simp <;> omega) | (unfold maxLen; simp <;> omega)); exact rfl; exact rfl; exact rfl)
    | (apply ds_setC; exact rfl; exact rfl; exact rfl; exact rfl)
    | (apply ds_bsC; exact rfl; exact rfl; exact rfl; exact rfl)
    | (apply ds_tradeC; exact rfl; (first | (with_reducible exact trivial) | (with_reducible exact u8_range _) | (with_reducible exact sat_range _ _) | omega | (constructor <;> omega) | (simp only [List.length_map]; omega) | (unfold maxLen at *; omega) | (simp <;> omega) | (unfold maxLen; simp <;> omega)); exact rfl; exact rfl; exact rfl; exact rfl)
    | (apply dw_condP; exact rfl; all_goals intro hg) | (apply dw_cond; exact rfl; all_goals intro hg) | ((fail_if_success (apply ds_known; exact rfl)); apply ds_guardP; exact rfl; exact rfl; exact rfl; all_goals intro hg) | ((fail_if_success (apply ds_known; exact rfl)); apply ds_guardB; exact rfl; exact rfl; exact rfl; all_goals intro hg) | ((fail_if_success (apply dt_known; exact rfl)); apply dt_guardP; exact rfl; exact rfl; exact rfl; all_goals intro hg) | ((fail_if_success (apply dt_known; exact rfl)); apply dt_guard; exact rfl; exact rfl; exact rfl; all_goals intro hg))
  exact ⟨.inl rfl, _, rfl, rfl, rfl, rfl⟩
end Go.Proofs.Ytapciiffpnociaa
