/- Scan answers what the plain words say. Condition: none. -/
import Derived.Test.YtapciiffpnociaaTokB
namespace Go.Proofs.Ytapciiffpnociaa
open Go Go.RowKit
attribute [local irreducible] DW DS DL DQ Ev FnOk FnP thenD inBlockD DT

def blank (c : UInt8) : Prop := (c.toNat : Int) = 37 ∨ (c.toNat : Int) = 32 ∨ (c.toNat : Int) = 9 ∨ (c.toNat : Int) = 10

def scanInv (s : ByteArray) (x : List Tok × Nat) : Prop :=
  x.2 ≤ s.size ∧ x.1.length ≤ x.2 ∧ scanAt s false 0 = (scanAt s false x.2).map (x.1 ++ ·) ∧
  ∀ h : x.2 < s.size, ¬ (s[x.2].toNat : Int) = 37 ∧ ¬ (s[x.2].toNat : Int) = 32 ∧ ¬ (s[x.2].toNat : Int) = 9 ∧ ¬ (s[x.2].toNat : Int) = 10

set_option maxHeartbeats 8000000 in
theorem scan_fn (s : ByteArray) : Fn 14 [.d (.str s)] (fun r => r = encScan (scanS s)) := by
  refine fnp_enter' _ Try.func14 rfl rfl (by kernel_rfl) ?_
  intro O w0 E0 β0
  repeat' (first
    | (apply ds_evC; exact rfl; (first | (with_reducible exact trivial) | (with_reducible exact u8_range _) | (with_reducible exact sat_range _ _) | omega | (constructor <;> omega) | (simp only [List.length_map]; omega) | (unfold maxLen at *; omega) | (simp <;> omega) | (unfold maxLen; simp <;> omega)); (first | (with_reducible exact hv_chr) | ((with_reducible apply hv_row); (first | exact nat_add_2 _ | exact nat_add_1 _ | exact nat_lit_0 | exact nat_lit_1 | exact rfl | exact (Int.toNat_of_nonneg (by omega)).symm); omega) | ((with_reducible apply hv_sat); (first | exact nat_add_2 _ | exact nat_add_1 _ | exact nat_lit_0 | exact nat_lit_1 | exact rfl | exact (Int.toNat_of_nonneg (by omega)).symm); omega) | ((with_reducible apply hv_ext); (first | exact nat_add_2 _ | exact nat_add_1 _ | exact nat_lit_0 | exact nat_lit_1 | exact rfl | exact (Int.toNat_of_nonneg (by omega)).symm); (first | exact nat_add_2 _ | exact nat_add_1 _ | exact nat_lit_0 | exact nat_lit_1 | exact rfl | exact (Int.toNat_of_nonneg (by omega)).symm)) | (with_reducible exact rfl)); exact rfl; exact rfl; exact rfl)
    | (apply ds_skip; exact rfl; exact rfl)
    | (apply ds_skip0; exact rfl)
    | apply ds_nil
    | (apply dt_ev; exact rfl; exact rfl; (first | (with_reducible exact trivial) | (with_reducible exact u8_range _) | (with_reducible exact sat_range _ _) | omega | (constructor <;> omega) | (simp only [List.length_map]; omega) | (unfold maxLen at *; omega) | (simp <;> omega) | (unfold maxLen; simp <;> omega)); (first | (with_reducible exact hv_chr) | ((with_reducible apply hv_row); (first | exact nat_add_2 _ | exact nat_add_1 _ | exact nat_lit_0 | exact nat_lit_1 | exact rfl | exact (Int.toNat_of_nonneg (by omega)).symm); omega) | ((with_reducible apply hv_sat); (first | exact nat_add_2 _ | exact nat_add_1 _ | exact nat_lit_0 | exact nat_lit_1 | exact rfl | exact (Int.toNat_of_nonneg (by omega)).symm); omega) | ((with_reducible apply hv_ext); (first | exact nat_add_2 _ | exact nat_add_1 _ | exact nat_lit_0 | exact nat_lit_1 | exact rfl | exact (Int.toNat_of_nonneg (by omega)).symm); (first | exact nat_add_2 _ | exact nat_add_1 _ | exact nat_lit_0 | exact nat_lit_1 | exact rfl | exact (Int.toNat_of_nonneg (by omega)).symm)) | (with_reducible exact rfl)); exact rfl; exact rfl; exact rfl; exact rfl)
    | (apply dt_skipD; exact rfl; exact rfl; exact rfl)
    | (apply dt_skip0; exact rfl; exact rfl)
    | (apply dt_set; exact rfl; exact rfl; (first | (with_reducible exact trivial) | (with_reducible exact u8_range _) | (with_reducible exact sat_range _ _) | omega | (constructor <;> omega) | (simp only [List.length_map]; omega) | (unfold maxLen at *; omega) | (simp <;> omega) | (unfold maxLen; simp <;> omega)); exact rfl; exact rfl; exact rfl; exact rfl)
    | (apply dt_new; exact rfl; exact rfl; exact rfl; (first | (with_reducible exact trivial) | (with_reducible exact u8_range _) | (with_reducible exact sat_range _ _) | omega | (constructor <;> omega) | (simp only [List.length_map]; omega) | (unfold maxLen at *; omega) | (simp <;> omega) | (unfold maxLen; simp <;> omega)); exact rfl; exact rfl; exact rfl; exact rfl; exact rfl)
    | (apply dt_trade; exact rfl; exact rfl; exact rfl; (first | (with_reducible exact trivial) | (with_reducible exact u8_range _) | (with_reducible exact sat_range _ _) | omega | (constructor <;> omega) | (simp only [List.length_map]; omega) | (unfold maxLen at *; omega) | (simp <;> omega) | (unfold maxLen; simp <;> omega)); exact rfl; exact rfl; exact rfl; exact rfl; exact rfl; exact rfl)
    | (apply dt_nil0; exact rfl; exact rfl; exact rfl; exact rfl)
    | (apply dt_nil; exact rfl)
    | apply dw_seq2
    | apply ds_region
    | (apply dw_any; kernel_rfl; kernel_rfl; exact rfl)
    | apply dw_block
    | apply dw_skip
    | apply dw_exit
    | (apply dw_condT; exact rfl)
    | (apply dw_condF; exact rfl)
    | apply thenD_n
    | apply thenD_e
    | apply thenD_r
    | apply inB_n
    | apply inB_r
    | (apply inB_e; exact rfl)
    | (apply inB_x; exact rfl)
    | (apply ds_newC; exact rfl; (first | (with_reducible exact trivial) | (with_reducible exact u8_range _) | (with_reducible exact sat_range _ _) | omega | (constructor <;> omega) | (simp only [List.length_map]; omega) | (unfold maxLen at *; omega) | (simp <;> omega) | (unfold maxLen; simp <;> omega)); exact rfl; exact rfl; exact rfl)
    | (apply ds_setC; exact rfl; exact rfl; exact rfl; exact rfl)
    | (apply ds_bsC; exact rfl; exact rfl; exact rfl; exact rfl)
    | (apply ds_tradeC; exact rfl; (first | (with_reducible exact trivial) | (with_reducible exact u8_range _) | (with_reducible exact sat_range _ _) | omega | (constructor <;> omega) | (simp only [List.length_map]; omega) | (unfold maxLen at *; omega) | (simp <;> omega) | (unfold maxLen; simp <;> omega)); exact rfl; exact rfl; exact rfl; exact rfl))
  refine dw_condP rfl (fun hbig => ?_) (fun hbig => ?_)
  · repeat' (first
    | (apply ds_evC; exact rfl; (first | (with_reducible exact trivial) | (with_reducible exact u8_range _) | (with_reducible exact sat_range _ _) | omega | (constructor <;> omega) | (simp only [List.length_map]; omega) | (unfold maxLen at *; omega) | (simp <;> omega) | (unfold maxLen; simp <;> omega)); (first | (with_reducible exact hv_chr) | ((with_reducible apply hv_row); (first | exact nat_add_2 _ | exact nat_add_1 _ | exact nat_lit_0 | exact nat_lit_1 | exact rfl | exact (Int.toNat_of_nonneg (by omega)).symm); omega) | ((with_reducible apply hv_sat); (first | exact nat_add_2 _ | exact nat_add_1 _ | exact nat_lit_0 | exact nat_lit_1 | exact rfl | exact (Int.toNat_of_nonneg (by omega)).symm); omega) | ((with_reducible apply hv_ext); (first | exact nat_add_2 _ | exact nat_add_1 _ | exact nat_lit_0 | exact nat_lit_1 | exact rfl | exact (Int.toNat_of_nonneg (by omega)).symm); (first | exact nat_add_2 _ | exact nat_add_1 _ | exact nat_lit_0 | exact nat_lit_1 | exact rfl | exact (Int.toNat_of_nonneg (by omega)).symm)) | (with_reducible exact rfl)); exact rfl; exact rfl; exact rfl)
    | (apply ds_skip; exact rfl; exact rfl)
    | (apply ds_skip0; exact rfl)
    | apply ds_nil
    | (apply dt_ev; exact rfl; exact rfl; (first | (with_reducible exact trivial) | (with_reducible exact u8_range _) | (with_reducible exact sat_range _ _) | omega | (constructor <;> omega) | (simp only [List.length_map]; omega) | (unfold maxLen at *; omega) | (simp <;> omega) | (unfold maxLen; simp <;> omega)); (first | (with_reducible exact hv_chr) | ((with_reducible apply hv_row); (first | exact nat_add_2 _ | exact nat_add_1 _ | exact nat_lit_0 | exact nat_lit_1 | exact rfl | exact (Int.toNat_of_nonneg (by omega)).symm); omega) | ((with_reducible apply hv_sat); (first | exact nat_add_2 _ | exact nat_add_1 _ | exact nat_lit_0 | exact nat_lit_1 | exact rfl | exact (Int.toNat_of_nonneg (by omega)).symm); omega) | ((with_reducible apply hv_ext); (first | exact nat_add_2 _ | exact nat_add_1 _ | exact nat_lit_0 | exact nat_lit_1 | exact rfl | exact (Int.toNat_of_nonneg (by omega)).symm); (first | exact nat_add_2 _ | exact nat_add_1 _ | exact nat_lit_0 | exact nat_lit_1 | exact rfl | exact (Int.toNat_of_nonneg (by omega)).symm)) | (with_reducible exact rfl)); exact rfl; exact rfl; exact rfl; exact rfl)
    | (apply dt_skipD; exact rfl; exact rfl; exact rfl)
    | (apply dt_skip0; exact rfl; exact rfl)
    | (apply dt_set; exact rfl; exact rfl; (first | (with_reducible exact trivial) | (with_reducible exact u8_range _) | (with_reducible exact sat_range _ _) | omega | (constructor <;> omega) | (simp only [List.length_map]; omega) | (unfold maxLen at *; omega) | (simp <;> omega) | (unfold maxLen; simp <;> omega)); exact rfl; exact rfl; exact rfl; exact rfl)
    | (apply dt_new; exact rfl; exact rfl; exact rfl; (first | (with_reducible exact trivial) | (with_reducible exact u8_range _) | (with_reducible exact sat_range _ _) | omega | (constructor <;> omega) | (simp only [List.length_map]; omega) | (unfold maxLen at *; omega) | (simp <;> omega) | (unfold maxLen; simp <;> omega)); exact rfl; exact rfl; exact rfl; exact rfl; exact rfl)
    | (apply dt_trade; exact rfl; exact rfl; exact rfl; (first | (with_reducible exact trivial) | (with_reducible exact u8_range _) | (with_reducible exact sat_range _ _) | omega | (constructor <;> omega) | (simp only [List.length_map]; omega) | (unfold maxLen at *; omega) | (simp <;> omega) | (unfold maxLen; simp <;> omega)); exact rfl; exact rfl; exact rfl; exact rfl; exact rfl; exact rfl)
    | (apply dt_nil0; exact rfl; exact rfl; exact rfl; exact rfl)
    | (apply dt_nil; exact rfl)
    | apply dw_seq2
    | apply ds_region
    | (apply dw_any; kernel_rfl; kernel_rfl; exact rfl)
    | apply dw_block
    | apply dw_skip
    | apply dw_exit
    | (apply dw_condT; exact rfl)
    | (apply dw_condF; exact rfl)
    | apply thenD_n
    | apply thenD_e
    | apply thenD_r
    | apply inB_n
    | apply inB_r
    | (apply inB_e; exact rfl)
    | (apply inB_x; exact rfl)
    | (apply ds_newC; exact rfl; (first | (with_reducible exact trivial) | (with_reducible exact u8_range _) | (with_reducible exact sat_range _ _) | omega | (constructor <;> omega) | (simp only [List.length_map]; omega) | (unfold maxLen at *; omega) | (simp <;> omega) | (unfold maxLen; simp <;> omega)); exact rfl; exact rfl; exact rfl)
    | (apply ds_setC; exact rfl; exact rfl; exact rfl; exact rfl)
    | (apply ds_bsC; exact rfl; exact rfl; exact rfl; exact rfl)
    | (apply ds_tradeC; exact rfl; (first | (with_reducible exact trivial) | (with_reducible exact u8_range _) | (with_reducible exact sat_range _ _) | omega | (constructor <;> omega) | (simp only [List.length_map]; omega) | (unfold maxLen at *; omega) | (simp <;> omega) | (unfold maxLen; simp <;> omega)); exact rfl; exact rfl; exact rfl; exact rfl))
    refine dw_nild 2 3 rfl ?_
    repeat' (first
    | (apply ds_evC; exact rfl; (first | (with_reducible exact trivial) | (with_reducible exact u8_range _) | (with_reducible exact sat_range _ _) | omega | (constructor <;> omega) | (simp only [List.length_map]; omega) | (unfold maxLen at *; omega) | (simp <;> omega) | (unfold maxLen; simp <;> omega)); (first | (with_reducible exact hv_chr) | ((with_reducible apply hv_row); (first | exact nat_add_2 _ | exact nat_add_1 _ | exact nat_lit_0 | exact nat_lit_1 | exact rfl | exact (Int.toNat_of_nonneg (by omega)).symm); omega) | ((with_reducible apply hv_sat); (first | exact nat_add_2 _ | exact nat_add_1 _ | exact nat_lit_0 | exact nat_lit_1 | exact rfl | exact (Int.toNat_of_nonneg (by omega)).symm); omega) | ((with_reducible apply hv_ext); (first | exact nat_add_2 _ | exact nat_add_1 _ | exact nat_lit_0 | exact nat_lit_1 | exact rfl | exact (Int.toNat_of_nonneg (by omega)).symm); (first | exact nat_add_2 _ | exact nat_add_1 _ | exact nat_lit_0 | exact nat_lit_1 | exact rfl | exact (Int.toNat_of_nonneg (by omega)).symm)) | (with_reducible exact rfl)); exact rfl; exact rfl; exact rfl)
    | (apply ds_skip; exact rfl; exact rfl)
    | (apply ds_skip0; exact rfl)
    | apply ds_nil
    | (apply dt_ev; exact rfl; exact rfl; (first | (with_reducible exact trivial) | (with_reducible exact u8_range _) | (with_reducible exact sat_range _ _) | omega | (constructor <;> omega) | (simp only [List.length_map]; omega) | (unfold maxLen at *; omega) | (simp <;> omega) | (unfold maxLen; simp <;> omega)); (first | (with_reducible exact hv_chr) | ((with_reducible apply hv_row); (first | exact nat_add_2 _ | exact nat_add_1 _ | exact nat_lit_0 | exact nat_lit_1 | exact rfl | exact (Int.toNat_of_nonneg (by omega)).symm); omega) | ((with_reducible apply hv_sat); (first | exact nat_add_2 _ | exact nat_add_1 _ | exact nat_lit_0 | exact nat_lit_1 | exact rfl | exact (Int.toNat_of_nonneg (by omega)).symm); omega) | ((with_reducible apply hv_ext); (first | exact nat_add_2 _ | exact nat_add_1 _ | exact nat_lit_0 | exact nat_lit_1 | exact rfl | exact (Int.toNat_of_nonneg (by omega)).symm); (first | exact nat_add_2 _ | exact nat_add_1 _ | exact nat_lit_0 | exact nat_lit_1 | exact rfl | exact (Int.toNat_of_nonneg (by omega)).symm)) | (with_reducible exact rfl)); exact rfl; exact rfl; exact rfl; exact rfl)
    | (apply dt_skipD; exact rfl; exact rfl; exact rfl)
    | (apply dt_skip0; exact rfl; exact rfl)
    | (apply dt_set; exact rfl; exact rfl; (first | (with_reducible exact trivial) | (with_reducible exact u8_range _) | (with_reducible exact sat_range _ _) | omega | (constructor <;> omega) | (simp only [List.length_map]; omega) | (unfold maxLen at *; omega) | (simp <;> omega) | (unfold maxLen; simp <;> omega)); exact rfl; exact rfl; exact rfl; exact rfl)
    | (apply dt_new; exact rfl; exact rfl; exact rfl; (first | (with_reducible exact trivial) | (with_reducible exact u8_range _) | (with_reducible exact sat_range _ _) | omega | (constructor <;> omega) | (simp only [List.length_map]; omega) | (unfold maxLen at *; omega) | (simp <;> omega) | (unfold maxLen; simp <;> omega)); exact rfl; exact rfl; exact rfl; exact rfl; exact rfl)
    | (apply dt_trade; exact rfl; exact rfl; exact rfl; (first | (with_reducible exact trivial) | (with_reducible exact u8_range _) | (with_reducible exact sat_range _ _) | omega | (constructor <;> omega) | (simp only [List.length_map]; omega) | (unfold maxLen at *; omega) | (simp <;> omega) | (unfold maxLen; simp <;> omega)); exact rfl; exact rfl; exact rfl; exact rfl; exact rfl; exact rfl)
    | (apply dt_nil0; exact rfl; exact rfl; exact rfl; exact rfl)
    | (apply dt_nil; exact rfl)
    | apply dw_seq2
    | apply ds_region
    | (apply dw_any; kernel_rfl; kernel_rfl; exact rfl)
    | apply dw_block
    | apply dw_skip
    | apply dw_exit
    | apply dw_ret
    | (apply dw_condT; exact rfl)
    | (apply dw_condF; exact rfl)
    | apply thenD_n
    | apply thenD_e
    | apply thenD_r
    | apply inB_n
    | apply inB_r
    | (apply inB_e; exact rfl)
    | (apply inB_x; exact rfl))
    exact ret_3 rfl (by rw [scanS_big s (by omega)]; exact ⟨rfl, rfl, rfl⟩)
  · repeat' (first
    | (apply ds_evC; exact rfl; (first | (with_reducible exact trivial) | (with_reducible exact u8_range _) | (with_reducible exact sat_range _ _) | omega | (constructor <;> omega) | (simp only [List.length_map]; omega) | (unfold maxLen at *; omega) | (simp <;> omega) | (unfold maxLen; simp <;> omega)); (first | (with_reducible exact hv_chr) | ((with_reducible apply hv_row); (first | exact nat_add_2 _ | exact nat_add_1 _ | exact nat_lit_0 | exact nat_lit_1 | exact rfl | exact (Int.toNat_of_nonneg (by omega)).symm); omega) | ((with_reducible apply hv_sat); (first | exact nat_add_2 _ | exact nat_add_1 _ | exact nat_lit_0 | exact nat_lit_1 | exact rfl | exact (Int.toNat_of_nonneg (by omega)).symm); omega) | ((with_reducible apply hv_ext); (first | exact nat_add_2 _ | exact nat_add_1 _ | exact nat_lit_0 | exact nat_lit_1 | exact rfl | exact (Int.toNat_of_nonneg (by omega)).symm); (first | exact nat_add_2 _ | exact nat_add_1 _ | exact nat_lit_0 | exact nat_lit_1 | exact rfl | exact (Int.toNat_of_nonneg (by omega)).symm)) | (with_reducible exact rfl)); exact rfl; exact rfl; exact rfl)
    | (apply ds_skip; exact rfl; exact rfl)
    | (apply ds_skip0; exact rfl)
    | apply ds_nil
    | (apply dt_ev; exact rfl; exact rfl; (first | (with_reducible exact trivial) | (with_reducible exact u8_range _) | (with_reducible exact sat_range _ _) | omega | (constructor <;> omega) | (simp only [List.length_map]; omega) | (unfold maxLen at *; omega) | (simp <;> omega) | (unfold maxLen; simp <;> omega)); (first | (with_reducible exact hv_chr) | ((with_reducible apply hv_row); (first | exact nat_add_2 _ | exact nat_add_1 _ | exact nat_lit_0 | exact nat_lit_1 | exact rfl | exact (Int.toNat_of_nonneg (by omega)).symm); omega) | ((with_reducible apply hv_sat); (first | exact nat_add_2 _ | exact nat_add_1 _ | exact nat_lit_0 | exact nat_lit_1 | exact rfl | exact (Int.toNat_of_nonneg (by omega)).symm); omega) | ((with_reducible apply hv_ext); (first | exact nat_add_2 _ | exact nat_add_1 _ | exact nat_lit_0 | exact nat_lit_1 | exact rfl | exact (Int.toNat_of_nonneg (by omega)).symm); (first | exact nat_add_2 _ | exact nat_add_1 _ | exact nat_lit_0 | exact nat_lit_1 | exact rfl | exact (Int.toNat_of_nonneg (by omega)).symm)) | (with_reducible exact rfl)); exact rfl; exact rfl; exact rfl; exact rfl)
    | (apply dt_skipD; exact rfl; exact rfl; exact rfl)
    | (apply dt_skip0; exact rfl; exact rfl)
    | (apply dt_set; exact rfl; exact rfl; (first | (with_reducible exact trivial) | (with_reducible exact u8_range _) | (with_reducible exact sat_range _ _) | omega | (constructor <;> omega) | (simp only [List.length_map]; omega) | (unfold maxLen at *; omega) | (simp <;> omega) | (unfold maxLen; simp <;> omega)); exact rfl; exact rfl; exact rfl; exact rfl)
    | (apply dt_new; exact rfl; exact rfl; exact rfl; (first | (with_reducible exact trivial) | (with_reducible exact u8_range _) | (with_reducible exact sat_range _ _) | omega | (constructor <;> omega) | (simp only [List.length_map]; omega) | (unfold maxLen at *; omega) | (simp <;> omega) | (unfold maxLen; simp <;> omega)); exact rfl; exact rfl; exact rfl; exact rfl; exact rfl)
    | (apply dt_trade; exact rfl; exact rfl; exact rfl; (first | (with_reducible exact trivial) | (with_reducible exact u8_range _) | (with_reducible exact sat_range _ _) | omega | (constructor <;> omega) | (simp only [List.length_map]; omega) | (unfold maxLen at *; omega) | (simp <;> omega) | (unfold maxLen; simp <;> omega)); exact rfl; exact rfl; exact rfl; exact rfl; exact rfl; exact rfl)
    | (apply dt_nil0; exact rfl; exact rfl; exact rfl; exact rfl)
    | (apply dt_nil; exact rfl)
    | apply dw_seq2
    | apply ds_region
    | (apply dw_any; kernel_rfl; kernel_rfl; exact rfl)
    | apply dw_block
    | apply dw_skip
    | apply dw_exit
    | (apply dw_condT; exact rfl)
    | (apply dw_condF; exact rfl)
    | apply thenD_n
    | apply thenD_e
    | apply thenD_r
    | apply inB_n
    | apply inB_r
    | (apply inB_e; exact rfl)
    | (apply inB_x; exact rfl)
    | (apply ds_newC; exact rfl; (first | (with_reducible exact trivial) | (with_reducible exact u8_range _) | (with_reducible exact sat_range _ _) | omega | (constructor <;> omega) | (simp only [List.length_map]; omega) | (unfold maxLen at *; omega) | (simp <;> omega) | (unfold maxLen; simp <;> omega)); exact rfl; exact rfl; exact rfl)
    | (apply ds_setC; exact rfl; exact rfl; exact rfl; exact rfl)
    | (apply ds_bsC; exact rfl; exact rfl; exact rfl; exact rfl)
    | (apply ds_tradeC; exact rfl; (first | (with_reducible exact trivial) | (with_reducible exact u8_range _) | (with_reducible exact sat_range _ _) | omega | (constructor <;> omega) | (simp only [List.length_map]; omega) | (unfold maxLen at *; omega) | (simp <;> omega) | (unfold maxLen; simp <;> omega)); exact rfl; exact rfl; exact rfl; exact rfl))
    (refine ds_callF id (skip_fn s 0 (by omega) (by omega)) rfl rfl rfl rfl ⟨rfl, trivial⟩ rfl rfl rfl rfl rfl rfl ?_ ?_)
    · rintro k2 r H2 ⟨rfl, rfl, j, _, _, _, _, rfl⟩
      exact ⟨rfl, rfl⟩
    rintro k2 r H2 ⟨rfl, rfl, j0, g1, g2, g3, g4, rfl⟩
    change DS _ _ _ _ _ _ _ _
    repeat' (first
    | (apply ds_evC; exact rfl; (first | (with_reducible exact trivial) | (with_reducible exact u8_range _) | (with_reducible exact sat_range _ _) | omega | (constructor <;> omega) | (simp only [List.length_map]; omega) | (unfold maxLen at *; omega) | (simp <;> omega) | (unfold maxLen; simp <;> omega)); (first | (with_reducible exact hv_chr) | ((with_reducible apply hv_row); (first | exact nat_add_2 _ | exact nat_add_1 _ | exact nat_lit_0 | exact nat_lit_1 | exact rfl | exact (Int.toNat_of_nonneg (by omega)).symm); omega) | ((with_reducible apply hv_sat); (first | exact nat_add_2 _ | exact nat_add_1 _ | exact nat_lit_0 | exact nat_lit_1 | exact rfl | exact (Int.toNat_of_nonneg (by omega)).symm); omega) | ((with_reducible apply hv_ext); (first | exact nat_add_2 _ | exact nat_add_1 _ | exact nat_lit_0 | exact nat_lit_1 | exact rfl | exact (Int.toNat_of_nonneg (by omega)).symm); (first | exact nat_add_2 _ | exact nat_add_1 _ | exact nat_lit_0 | exact nat_lit_1 | exact rfl | exact (Int.toNat_of_nonneg (by omega)).symm)) | (with_reducible exact rfl)); exact rfl; exact rfl; exact rfl)
    | (apply ds_skip; exact rfl; exact rfl)
    | (apply ds_skip0; exact rfl)
    | apply ds_nil
    | (apply dt_ev; exact rfl; exact rfl; (first | (with_reducible exact trivial) | (with_reducible exact u8_range _) | (with_reducible exact sat_range _ _) | omega | (constructor <;> omega) | (simp only [List.length_map]; omega) | (unfold maxLen at *; omega) | (simp <;> omega) | (unfold maxLen; simp <;> omega)); (first | (with_reducible exact hv_chr) | ((with_reducible apply hv_row); (first | exact nat_add_2 _ | exact nat_add_1 _ | exact nat_lit_0 | exact nat_lit_1 | exact rfl | exact (Int.toNat_of_nonneg (by omega)).symm); omega) | ((with_reducible apply hv_sat); (first | exact nat_add_2 _ | exact nat_add_1 _ | exact nat_lit_0 | exact nat_lit_1 | exact rfl | exact (Int.toNat_of_nonneg (by omega)).symm); omega) | ((with_reducible apply hv_ext); (first | exact nat_add_2 _ | exact nat_add_1 _ | exact nat_lit_0 | exact nat_lit_1 | exact rfl | exact (Int.toNat_of_nonneg (by omega)).symm); (first | exact nat_add_2 _ | exact nat_add_1 _ | exact nat_lit_0 | exact nat_lit_1 | exact rfl | exact (Int.toNat_of_nonneg (by omega)).symm)) | (with_reducible exact rfl)); exact rfl; exact rfl; exact rfl; exact rfl)
    | (apply dt_skipD; exact rfl; exact rfl; exact rfl)
    | (apply dt_skip0; exact rfl; exact rfl)
    | (apply dt_set; exact rfl; exact rfl; (first | (with_reducible exact trivial) | (with_reducible exact u8_range _) | (with_reducible exact sat_range _ _) | omega | (constructor <;> omega) | (simp only [List.length_map]; omega) | (unfold maxLen at *; omega) | (simp <;> omega) | (unfold maxLen; simp <;> omega)); exact rfl; exact rfl; exact rfl; exact rfl)
    | (apply dt_new; exact rfl; exact rfl; exact rfl; (first | (with_reducible exact trivial) | (with_reducible exact u8_range _) | (with_reducible exact sat_range _ _) | omega | (constructor <;> omega) | (simp only [List.length_map]; omega) | (unfold maxLen at *; omega) | (simp <;> omega) | (unfold maxLen; simp <;> omega)); exact rfl; exact rfl; exact rfl; exact rfl; exact rfl)
    | (apply dt_trade; exact rfl; exact rfl; exact rfl; (first | (with_reducible exact trivial) | (with_reducible exact u8_range _) | (with_reducible exact sat_range _ _) | omega | (constructor <;> omega) | (simp only [List.length_map]; omega) | (unfold maxLen at *; omega) | (simp <;> omega) | (unfold maxLen; simp <;> omega)); exact rfl; exact rfl; exact rfl; exact rfl; exact rfl; exact rfl)
    | (apply dt_nil0; exact rfl; exact rfl; exact rfl; exact rfl)
    | (apply dt_nil; exact rfl)
    | apply dw_seq2
    | apply ds_region
    | (apply dw_any; kernel_rfl; kernel_rfl; exact rfl)
    | apply dw_block
    | apply dw_skip
    | apply dw_exit
    | (apply dw_condT; exact rfl)
    | (apply dw_condF; exact rfl)
    | apply thenD_n
    | apply thenD_e
    | apply thenD_r
    | apply inB_n
    | apply inB_r
    | (apply inB_e; exact rfl)
    | (apply inB_x; exact rfl)
    | (apply ds_newC; exact rfl; (first | (with_reducible exact trivial) | (with_reducible exact u8_range _) | (with_reducible exact sat_range _ _) | omega | (constructor <;> omega) | (simp only [List.length_map]; omega) | (unfold maxLen at *; omega) | (simp <;> omega) | (unfold maxLen; simp <;> omega)); exact rfl; exact rfl; exact rfl)
    | (apply ds_setC; exact rfl; exact rfl; exact rfl; exact rfl)
    | (apply ds_bsC; exact rfl; exact rfl; exact rfl; exact rfl)
    | (apply ds_tradeC; exact rfl; (first | (with_reducible exact trivial) | (with_reducible exact u8_range _) | (with_reducible exact sat_range _ _) | omega | (constructor <;> omega) | (simp only [List.length_map]; omega) | (unfold maxLen at *; omega) | (simp <;> omega) | (unfold maxLen; simp <;> omega)); exact rfl; exact rfl; exact rfl; exact rfl))
    refine dw_nilrow (t := 6) 34 3 rfl ?_
    refine ds_loop (ι := List Tok × Nat) (fun x => ⟨2, [(0, .d (.str s)), (5, .loc 0 0), (6, .row 1)], [(0, .blk 99 [.d (.str s), .d (.int .i64 x.2)]), (1, .row 34 3 (x.1.map encTok))]⟩)
      (scanInv s) (fun x => s.size - x.2) ([], j0) ⟨g2, Nat.zero_le _, by rw [g3]; cases scanAt s false j0 <;> rfl, g4⟩
      (ent_ren id ⟨rfl, rfl, rfl, trivial⟩ ⟨rfl, rfl, trivial⟩ rfl rfl rfl rfl rfl rfl) ?_
    rintro ⟨toks, i⟩ ⟨h1, h2, h3, h4⟩
    dsimp only at h1 h2 h3 h4 ⊢
    repeat' (first
    | (apply ds_evC; exact rfl; (first | (with_reducible exact trivial) | (with_reducible exact u8_range _) | (with_reducible exact sat_range _ _) | omega | (constructor <;> omega) | (simp only [List.length_map]; omega) | (unfold maxLen at *; omega) | (simp <;> omega) | (unfold maxLen; simp <;> omega)); (first | (with_reducible exact hv_chr) | ((with_reducible apply hv_row); (first | exact nat_add_2 _ | exact nat_add_1 _ | exact nat_lit_0 | exact nat_lit_1 | exact rfl | exact (Int.toNat_of_nonneg (by omega)).symm); omega) | ((with_reducible apply hv_sat); (first | exact nat_add_2 _ | exact nat_add_1 _ | exact nat_lit_0 | exact nat_lit_1 | exact rfl | exact (Int.toNat_of_nonneg (by omega)).symm); omega) | ((with_reducible apply hv_ext); (first | exact nat_add_2 _ | exact nat_add_1 _ | exact nat_lit_0 | exact nat_lit_1 | exact rfl | exact (Int.toNat_of_nonneg (by omega)).symm); (first | exact nat_add_2 _ | exact nat_add_1 _ | exact nat_lit_0 | exact nat_lit_1 | exact rfl | exact (Int.toNat_of_nonneg (by omega)).symm)) | (with_reducible exact rfl)); exact rfl; exact rfl; exact rfl)
    | (apply ds_skip; exact rfl; exact rfl)
    | (apply ds_skip0; exact rfl)
    | apply ds_nil
    | (apply dt_ev; exact rfl; exact rfl; (first | (with_reducible exact trivial) | (with_reducible exact u8_range _) | (with_reducible exact sat_range _ _) | omega | (constructor <;> omega) | (simp only [List.length_map]; omega) | (unfold maxLen at *; omega) | (simp <;> omega) | (unfold maxLen; simp <;> omega)); (first | (with_reducible exact hv_chr) | ((with_reducible apply hv_row); (first | exact nat_add_2 _ | exact nat_add_1 _ | exact nat_lit_0 | exact nat_lit_1 | exact rfl | exact (Int.toNat_of_nonneg (by omega)).symm); omega) | ((with_reducible apply hv_sat); (first | exact nat_add_2 _ | exact nat_add_1 _ | exact nat_lit_0 | exact nat_lit_1 | exact rfl | exact (Int.toNat_of_nonneg (by omega)).symm); omega) | ((with_reducible apply hv_ext); (first | exact nat_add_2 _ | exact nat_add_1 _ | exact nat_lit_0 | exact nat_lit_1 | exact rfl | exact (Int.toNat_of_nonneg (by omega)).symm); (first | exact nat_add_2 _ | exact nat_add_1 _ | exact nat_lit_0 | exact nat_lit_1 | exact rfl | exact (Int.toNat_of_nonneg (by omega)).symm)) | (with_reducible exact rfl)); exact rfl; exact rfl; exact rfl; exact rfl)
    | (apply dt_skipD; exact rfl; exact rfl; exact rfl)
    | (apply dt_skip0; exact rfl; exact rfl)
    | (apply dt_set; exact rfl; exact rfl; (first | (with_reducible exact trivial) | (with_reducible exact u8_range _) | (with_reducible exact sat_range _ _) | omega | (constructor <;> omega) | (simp only [List.length_map]; omega) | (unfold maxLen at *; omega) | (simp <;> omega) | (unfold maxLen; simp <;> omega)); exact rfl; exact rfl; exact rfl; exact rfl)
    | (apply dt_new; exact rfl; exact rfl; exact rfl; (first | (with_reducible exact trivial) | (with_reducible exact u8_range _) | (with_reducible exact sat_range _ _) | omega | (constructor <;> omega) | (simp only [List.length_map]; omega) | (unfold maxLen at *; omega) | (simp <;> omega) | (unfold maxLen; simp <;> omega)); exact rfl; exact rfl; exact rfl; exact rfl; exact rfl)
    | (apply dt_trade; exact rfl; exact rfl; exact rfl; (first | (with_reducible exact trivial) | (with_reducible exact u8_range _) | (with_reducible exact sat_range _ _) | omega | (constructor <;> omega) | (simp only [List.length_map]; omega) | (unfold maxLen at *; omega) | (simp <;> omega) | (unfold maxLen; simp <;> omega)); exact rfl; exact rfl; exact rfl; exact rfl; exact rfl; exact rfl)
    | (apply dt_nil0; exact rfl; exact rfl; exact rfl; exact rfl)
    | (apply dt_nil; exact rfl)
    | apply dw_seq2
    | apply ds_region
    | (apply dw_any; kernel_rfl; kernel_rfl; exact rfl)
    | apply dw_block
    | apply dw_skip
    | apply dw_exit
    | (apply dw_condT; exact rfl)
    | (apply dw_condF; exact rfl)
    | apply thenD_n
    | apply thenD_e
    | apply thenD_r
    | apply inB_n
    | apply inB_r
    | (apply inB_e; exact rfl)
    | (apply inB_x; exact rfl)
    | (apply ds_newC; exact rfl; (first | (with_reducible exact trivial) | (with_reducible exact u8_range _) | (with_reducible exact sat_range _ _) | omega | (constructor <;> omega) | (simp only [List.length_map]; omega) | (unfold maxLen at *; omega) | (simp <;> omega) | (unfold maxLen; simp <;> omega)); exact rfl; exact rfl; exact rfl)
    | (apply ds_setC; exact rfl; exact rfl; exact rfl; exact rfl)
    | (apply ds_bsC; exact rfl; exact rfl; exact rfl; exact rfl)
    | (apply ds_tradeC; exact rfl; (first | (with_reducible exact trivial) | (with_reducible exact u8_range _) | (with_reducible exact sat_range _ _) | omega | (constructor <;> omega) | (simp only [List.length_map]; omega) | (unfold maxLen at *; omega) | (simp <;> omega) | (unfold maxLen; simp <;> omega)); exact rfl; exact rfl; exact rfl; exact rfl))
    refine dw_condP rfl (fun hlt => ?_) (fun hlt => ?_)
    · have hlt' : i < s.size := by omega
      have h4' := h4 hlt'
      repeat' (first
    | (apply ds_evC; exact rfl; (first | (with_reducible exact trivial) | (with_reducible exact u8_range _) | (with_reducible exact sat_range _ _) | omega | (constructor <;> omega) | (simp only [List.length_map]; omega) | (unfold maxLen at *; omega) | (simp <;> omega) | (unfold maxLen; simp <;> omega)); (first | (with_reducible exact hv_chr) | ((with_reducible apply hv_row); (first | exact nat_add_2 _ | exact nat_add_1 _ | exact nat_lit_0 | exact nat_lit_1 | exact rfl | exact (Int.toNat_of_nonneg (by omega)).symm); omega) | ((with_reducible apply hv_sat); (first | exact nat_add_2 _ | exact nat_add_1 _ | exact nat_lit_0 | exact nat_lit_1 | exact rfl | exact (Int.toNat_of_nonneg (by omega)).symm); omega) | ((with_reducible apply hv_ext); (first | exact nat_add_2 _ | exact nat_add_1 _ | exact nat_lit_0 | exact nat_lit_1 | exact rfl | exact (Int.toNat_of_nonneg (by omega)).symm); (first | exact nat_add_2 _ | exact nat_add_1 _ | exact nat_lit_0 | exact nat_lit_1 | exact rfl | exact (Int.toNat_of_nonneg (by omega)).symm)) | (with_reducible exact rfl)); exact rfl; exact rfl; exact rfl)
    | (apply ds_skip; exact rfl; exact rfl)
    | (apply ds_skip0; exact rfl)
    | apply ds_nil
    | (apply dt_ev; exact rfl; exact rfl; (first | (with_reducible exact trivial) | (with_reducible exact u8_range _) | (with_reducible exact sat_range _ _) | omega | (constructor <;> omega) | (simp only [List.length_map]; omega) | (unfold maxLen at *; omega) | (simp <;> omega) | (unfold maxLen; simp <;> omega)); (first | (with_reducible exact hv_chr) | ((with_reducible apply hv_row); (first | exact nat_add_2 _ | exact nat_add_1 _ | exact nat_lit_0 | exact nat_lit_1 | exact rfl | exact (Int.toNat_of_nonneg (by omega)).symm); omega) | ((with_reducible apply hv_sat); (first | exact nat_add_2 _ | exact nat_add_1 _ | exact nat_lit_0 | exact nat_lit_1 | exact rfl | exact (Int.toNat_of_nonneg (by omega)).symm); omega) | ((with_reducible apply hv_ext); (first | exact nat_add_2 _ | exact nat_add_1 _ | exact nat_lit_0 | exact nat_lit_1 | exact rfl | exact (Int.toNat_of_nonneg (by omega)).symm); (first | exact nat_add_2 _ | exact nat_add_1 _ | exact nat_lit_0 | exact nat_lit_1 | exact rfl | exact (Int.toNat_of_nonneg (by omega)).symm)) | (with_reducible exact rfl)); exact rfl; exact rfl; exact rfl; exact rfl)
    | (apply dt_skipD; exact rfl; exact rfl; exact rfl)
    | (apply dt_skip0; exact rfl; exact rfl)
    | (apply dt_set; exact rfl; exact rfl; (first | (with_reducible exact trivial) | (with_reducible exact u8_range _) | (with_reducible exact sat_range _ _) | omega | (constructor <;> omega) | (simp only [List.length_map]; omega) | (unfold maxLen at *; omega) | (simp <;> omega) | (unfold maxLen; simp <;> omega)); exact rfl; exact rfl; exact rfl; exact rfl)
    | (apply dt_new; exact rfl; exact rfl; exact rfl; (first | (with_reducible exact trivial) | (with_reducible exact u8_range _) | (with_reducible exact sat_range _ _) | omega | (constructor <;> omega) | (simp only [List.length_map]; omega) | (unfold maxLen at *; omega) | (simp <;> omega) | (unfold maxLen; simp <;> omega)); exact rfl; exact rfl; exact rfl; exact rfl; exact rfl)
    | (apply dt_trade; exact rfl; exact rfl; exact rfl; (first | (with_reducible exact trivial) | (with_reducible exact u8_range _) | (with_reducible exact sat_range _ _) | omega | (constructor <;> omega) | (simp only [List.length_map]; omega) | (unfold maxLen at *; omega) | (simp <;> omega) | (unfold maxLen; simp <;> omega)); exact rfl; exact rfl; exact rfl; exact rfl; exact rfl; exact rfl)
    | (apply dt_nil0; exact rfl; exact rfl; exact rfl; exact rfl)
    | (apply dt_nil; exact rfl)
    | apply dw_seq2
    | apply ds_region
    | (apply dw_any; kernel_rfl; kernel_rfl; exact rfl)
    | apply dw_block
    | apply dw_skip
    | apply dw_exit
    | (apply dw_condT; exact rfl)
    | (apply dw_condF; exact rfl)
    | apply thenD_n
    | apply thenD_e
    | apply thenD_r
    | apply inB_n
    | apply inB_r
    | (apply inB_e; exact rfl)
    | (apply inB_x; exact rfl)
    | (apply ds_newC; exact rfl; (first | (with_reducible exact trivial) | (with_reducible exact u8_range _) | (with_reducible exact sat_range _ _) | omega | (constructor <;> omega) | (simp only [List.length_map]; omega) | (unfold maxLen at *; omega) | (simp <;> omega) | (unfold maxLen; simp <;> omega)); exact rfl; exact rfl; exact rfl)
    | (apply ds_setC; exact rfl; exact rfl; exact rfl; exact rfl)
    | (apply ds_bsC; exact rfl; exact rfl; exact rfl; exact rfl)
    | (apply ds_tradeC; exact rfl; (first | (with_reducible exact trivial) | (with_reducible exact u8_range _) | (with_reducible exact sat_range _ _) | omega | (constructor <;> omega) | (simp only [List.length_map]; omega) | (unfold maxLen at *; omega) | (simp <;> omega) | (unfold maxLen; simp <;> omega)); exact rfl; exact rfl; exact rfl; exact rfl))
      (refine ds_callF id (token_fn s i hlt' (by omega)) rfl rfl rfl rfl ⟨rfl, trivial⟩ rfl rfl rfl rfl rfl rfl ?_ ?_)
      · rintro k2 r H2 ⟨kd, e, tx, j, rfl, rfl, _, _⟩
        exact ⟨rfl, rfl⟩
      rintro k2 r H2 ⟨kd, e, tx, j, rfl, rfl, he, hz⟩
      change DS _ _ _ _ _ _ _ _
      have hS := tok_step s false i hlt' rfl h4'.1 h4'.2.1 h4'.2.2.1 h4'.2.2.2 _ rfl
      have hle := tokAt_le (s.data.toList.drop i)
      have hpo := tokAt_pos (s.data.toList.drop i)
      rw [List.length_drop, show s.data.toList.length = s.size by simp] at hle
      generalize tokAt (s.data.toList.drop i) = q at hS hle hpo he hz
      obtain ⟨kind, n⟩ := q
      dsimp only at hS hle hpo he hz
      rw [hS] at h3
      repeat' (first
    | (apply ds_evC; exact rfl; (first | (with_reducible exact trivial) | (with_reducible exact u8_range _) | (with_reducible exact sat_range _ _) | omega | (constructor <;> omega) | (simp only [List.length_map]; omega) | (unfold maxLen at *; omega) | (simp <;> omega) | (unfold maxLen; simp <;> omega)); (first | (with_reducible exact hv_chr) | ((with_reducible apply hv_row); (first | exact nat_add_2 _ | exact nat_add_1 _ | exact nat_lit_0 | exact nat_lit_1 | exact rfl | exact (Int.toNat_of_nonneg (by omega)).symm); omega) | ((with_reducible apply hv_sat); (first | exact nat_add_2 _ | exact nat_add_1 _ | exact nat_lit_0 | exact nat_lit_1 | exact rfl | exact (Int.toNat_of_nonneg (by omega)).symm); omega) | ((with_reducible apply hv_ext); (first | exact nat_add_2 _ | exact nat_add_1 _ | exact nat_lit_0 | exact nat_lit_1 | exact rfl | exact (Int.toNat_of_nonneg (by omega)).symm); (first | exact nat_add_2 _ | exact nat_add_1 _ | exact nat_lit_0 | exact nat_lit_1 | exact rfl | exact (Int.toNat_of_nonneg (by omega)).symm)) | (with_reducible exact rfl)); exact rfl; exact rfl; exact rfl)
    | (apply ds_skip; exact rfl; exact rfl)
    | (apply ds_skip0; exact rfl)
    | apply ds_nil
    | (apply dt_ev; exact rfl; exact rfl; (first | (with_reducible exact trivial) | (with_reducible exact u8_range _) | (with_reducible exact sat_range _ _) | omega | (constructor <;> omega) | (simp only [List.length_map]; omega) | (unfold maxLen at *; omega) | (simp <;> omega) | (unfold maxLen; simp <;> omega)); (first | (with_reducible exact hv_chr) | ((with_reducible apply hv_row); (first | exact nat_add_2 _ | exact nat_add_1 _ | exact nat_lit_0 | exact nat_lit_1 | exact rfl | exact (Int.toNat_of_nonneg (by omega)).symm); omega) | ((with_reducible apply hv_sat); (first | exact nat_add_2 _ | exact nat_add_1 _ | exact nat_lit_0 | exact nat_lit_1 | exact rfl | exact (Int.toNat_of_nonneg (by omega)).symm); omega) | ((with_reducible apply hv_ext); (first | exact nat_add_2 _ | exact nat_add_1 _ | exact nat_lit_0 | exact nat_lit_1 | exact rfl | exact (Int.toNat_of_nonneg (by omega)).symm); (first | exact nat_add_2 _ | exact nat_add_1 _ | exact nat_lit_0 | exact nat_lit_1 | exact rfl | exact (Int.toNat_of_nonneg (by omega)).symm)) | (with_reducible exact rfl)); exact rfl; exact rfl; exact rfl; exact rfl)
    | (apply dt_skipD; exact rfl; exact rfl; exact rfl)
    | (apply dt_skip0; exact rfl; exact rfl)
    | (apply dt_set; exact rfl; exact rfl; (first | (with_reducible exact trivial) | (with_reducible exact u8_range _) | (with_reducible exact sat_range _ _) | omega | (constructor <;> omega) | (simp only [List.length_map]; omega) | (unfold maxLen at *; omega) | (simp <;> omega) | (unfold maxLen; simp <;> omega)); exact rfl; exact rfl; exact rfl; exact rfl)
    | (apply dt_new; exact rfl; exact rfl; exact rfl; (first | (with_reducible exact trivial) | (with_reducible exact u8_range _) | (with_reducible exact sat_range _ _) | omega | (constructor <;> omega) | (simp only [List.length_map]; omega) | (unfold maxLen at *; omega) | (simp <;> omega) | (unfold maxLen; simp <;> omega)); exact rfl; exact rfl; exact rfl; exact rfl; exact rfl)
    | (apply dt_trade; exact rfl; exact rfl; exact rfl; (first | (with_reducible exact trivial) | (with_reducible exact u8_range _) | (with_reducible exact sat_range _ _) | omega | (constructor <;> omega) | (simp only [List.length_map]; omega) | (unfold maxLen at *; omega) | (simp <;> omega) | (unfold maxLen; simp <;> omega)); exact rfl; exact rfl; exact rfl; exact rfl; exact rfl; exact rfl)
    | (apply dt_nil0; exact rfl; exact rfl; exact rfl; exact rfl)
    | (apply dt_nil; exact rfl)
    | apply dw_seq2
    | apply ds_region
    | (apply dw_any; kernel_rfl; kernel_rfl; exact rfl)
    | apply dw_block
    | apply dw_skip
    | apply dw_exit
    | (apply dw_condT; exact rfl)
    | (apply dw_condF; exact rfl)
    | apply thenD_n
    | apply thenD_e
    | apply thenD_r
    | apply inB_n
    | apply inB_r
    | (apply inB_e; exact rfl)
    | (apply inB_x; exact rfl)
    | (apply ds_newC; exact rfl; (first | (with_reducible exact trivial) | (with_reducible exact u8_range _) | (with_reducible exact sat_range _ _) | omega | (constructor <;> omega) | (simp only [List.length_map]; omega) | (unfold maxLen at *; omega) | (simp <;> omega) | (unfold maxLen; simp <;> omega)); exact rfl; exact rfl; exact rfl)
    | (apply ds_setC; exact rfl; exact rfl; exact rfl; exact rfl)
    | (apply ds_bsC; exact rfl; exact rfl; exact rfl; exact rfl))
      refine dw_condP rfl (fun hne => ?_) (fun hne => ?_)
      · repeat' (first
    | (apply ds_evC; exact rfl; (first | (with_reducible exact trivial) | (with_reducible exact u8_range _) | (with_reducible exact sat_range _ _) | omega | (constructor <;> omega) | (simp only [List.length_map]; omega) | (unfold maxLen at *; omega) | (simp <;> omega) | (unfold maxLen; simp <;> omega)); (first | (with_reducible exact hv_chr) | ((with_reducible apply hv_row); (first | exact nat_add_2 _ | exact nat_add_1 _ | exact nat_lit_0 | exact nat_lit_1 | exact rfl | exact (Int.toNat_of_nonneg (by omega)).symm); omega) | ((with_reducible apply hv_sat); (first | exact nat_add_2 _ | exact nat_add_1 _ | exact nat_lit_0 | exact nat_lit_1 | exact rfl | exact (Int.toNat_of_nonneg (by omega)).symm); omega) | ((with_reducible apply hv_ext); (first | exact nat_add_2 _ | exact nat_add_1 _ | exact nat_lit_0 | exact nat_lit_1 | exact rfl | exact (Int.toNat_of_nonneg (by omega)).symm); (first | exact nat_add_2 _ | exact nat_add_1 _ | exact nat_lit_0 | exact nat_lit_1 | exact rfl | exact (Int.toNat_of_nonneg (by omega)).symm)) | (with_reducible exact rfl)); exact rfl; exact rfl; exact rfl)
    | (apply ds_skip; exact rfl; exact rfl)
    | (apply ds_skip0; exact rfl)
    | apply ds_nil
    | (apply dt_ev; exact rfl; exact rfl; (first | (with_reducible exact trivial) | (with_reducible exact u8_range _) | (with_reducible exact sat_range _ _) | omega | (constructor <;> omega) | (simp only [List.length_map]; omega) | (unfold maxLen at *; omega) | (simp <;> omega) | (unfold maxLen; simp <;> omega)); (first | (with_reducible exact hv_chr) | ((with_reducible apply hv_row); (first | exact nat_add_2 _ | exact nat_add_1 _ | exact nat_lit_0 | exact nat_lit_1 | exact rfl | exact (Int.toNat_of_nonneg (by omega)).symm); omega) | ((with_reducible apply hv_sat); (first | exact nat_add_2 _ | exact nat_add_1 _ | exact nat_lit_0 | exact nat_lit_1 | exact rfl | exact (Int.toNat_of_nonneg (by omega)).symm); omega) | ((with_reducible apply hv_ext); (first | exact nat_add_2 _ | exact nat_add_1 _ | exact nat_lit_0 | exact nat_lit_1 | exact rfl | exact (Int.toNat_of_nonneg (by omega)).symm); (first | exact nat_add_2 _ | exact nat_add_1 _ | exact nat_lit_0 | exact nat_lit_1 | exact rfl | exact (Int.toNat_of_nonneg (by omega)).symm)) | (with_reducible exact rfl)); exact rfl; exact rfl; exact rfl; exact rfl)
    | (apply dt_skipD; exact rfl; exact rfl; exact rfl)
    | (apply dt_skip0; exact rfl; exact rfl)
    | (apply dt_set; exact rfl; exact rfl; (first | (with_reducible exact trivial) | (with_reducible exact u8_range _) | (with_reducible exact sat_range _ _) | omega | (constructor <;> omega) | (simp only [List.length_map]; omega) | (unfold maxLen at *; omega) | (simp <;> omega) | (unfold maxLen; simp <;> omega)); exact rfl; exact rfl; exact rfl; exact rfl)
    | (apply dt_new; exact rfl; exact rfl; exact rfl; (first | (with_reducible exact trivial) | (with_reducible exact u8_range _) | (with_reducible exact sat_range _ _) | omega | (constructor <;> omega) | (simp only [List.length_map]; omega) | (unfold maxLen at *; omega) | (simp <;> omega) | (unfold maxLen; simp <;> omega)); exact rfl; exact rfl; exact rfl; exact rfl; exact rfl)
    | (apply dt_trade; exact rfl; exact rfl; exact rfl; (first | (with_reducible exact trivial) | (with_reducible exact u8_range _) | (with_reducible exact sat_range _ _) | omega | (constructor <;> omega) | (simp only [List.length_map]; omega) | (unfold maxLen at *; omega) | (simp <;> omega) | (unfold maxLen; simp <;> omega)); exact rfl; exact rfl; exact rfl; exact rfl; exact rfl; exact rfl)
    | (apply dt_nil0; exact rfl; exact rfl; exact rfl; exact rfl)
    | (apply dt_nil; exact rfl)
    | apply dw_seq2
    | apply ds_region
    | (apply dw_any; kernel_rfl; kernel_rfl; exact rfl)
    | apply dw_block
    | apply dw_skip
    | apply dw_exit
    | (apply dw_condT; exact rfl)
    | (apply dw_condF; exact rfl)
    | apply thenD_n
    | apply thenD_e
    | apply thenD_r
    | apply inB_n
    | apply inB_r
    | (apply inB_e; exact rfl)
    | (apply inB_x; exact rfl)
    | (apply ds_newC; exact rfl; (first | (with_reducible exact trivial) | (with_reducible exact u8_range _) | (with_reducible exact sat_range _ _) | omega | (constructor <;> omega) | (simp only [List.length_map]; omega) | (unfold maxLen at *; omega) | (simp <;> omega) | (unfold maxLen; simp <;> omega)); exact rfl; exact rfl; exact rfl)
    | (apply ds_setC; exact rfl; exact rfl; exact rfl; exact rfl)
    | (apply ds_bsC; exact rfl; exact rfl; exact rfl; exact rfl))
        refine dw_nild 2 3 rfl ?_
        repeat' (first
    | (apply ds_evC; exact rfl; (first | (with_reducible exact trivial) | (with_reducible exact u8_range _) | (with_reducible exact sat_range _ _) | omega | (constructor <;> omega) | (simp only [List.length_map]; omega) | (unfold maxLen at *; omega) | (simp <;> omega) | (unfold maxLen; simp <;> omega)); (first | (with_reducible exact hv_chr) | ((with_reducible apply hv_row); (first | exact nat_add_2 _ | exact nat_add_1 _ | exact nat_lit_0 | exact nat_lit_1 | exact rfl | exact (Int.toNat_of_nonneg (by omega)).symm); omega) | ((with_reducible apply hv_sat); (first | exact nat_add_2 _ | exact nat_add_1 _ | exact nat_lit_0 | exact nat_lit_1 | exact rfl | exact (Int.toNat_of_nonneg (by omega)).symm); omega) | ((with_reducible apply hv_ext); (first | exact nat_add_2 _ | exact nat_add_1 _ | exact nat_lit_0 | exact nat_lit_1 | exact rfl | exact (Int.toNat_of_nonneg (by omega)).symm); (first | exact nat_add_2 _ | exact nat_add_1 _ | exact nat_lit_0 | exact nat_lit_1 | exact rfl | exact (Int.toNat_of_nonneg (by omega)).symm)) | (with_reducible exact rfl)); exact rfl; exact rfl; exact rfl)
    | (apply ds_skip; exact rfl; exact rfl)
    | (apply ds_skip0; exact rfl)
    | apply ds_nil
    | (apply dt_ev; exact rfl; exact rfl; (first | (with_reducible exact trivial) | (with_reducible exact u8_range _) | (with_reducible exact sat_range _ _) | omega | (constructor <;> omega) | (simp only [List.length_map]; omega) | (unfold maxLen at *; omega) | (simp <;> omega) | (unfold maxLen; simp <;> omega)); (first | (with_reducible exact hv_chr) | ((with_reducible apply hv_row); (first | exact nat_add_2 _ | exact nat_add_1 _ | exact nat_lit_0 | exact nat_lit_1 | exact rfl | exact (Int.toNat_of_nonneg (by omega)).symm); omega) | ((with_reducible apply hv_sat); (first | exact nat_add_2 _ | exact nat_add_1 _ | exact nat_lit_0 | exact nat_lit_1 | exact rfl | exact (Int.toNat_of_nonneg (by omega)).symm); omega) | ((with_reducible apply hv_ext); (first | exact nat_add_2 _ | exact nat_add_1 _ | exact nat_lit_0 | exact nat_lit_1 | exact rfl | exact (Int.toNat_of_nonneg (by omega)).symm); (first | exact nat_add_2 _ | exact nat_add_1 _ | exact nat_lit_0 | exact nat_lit_1 | exact rfl | exact (Int.toNat_of_nonneg (by omega)).symm)) | (with_reducible exact rfl)); exact rfl; exact rfl; exact rfl; exact rfl)
    | (apply dt_skipD; exact rfl; exact rfl; exact rfl)
    | (apply dt_skip0; exact rfl; exact rfl)
    | (apply dt_set; exact rfl; exact rfl; (first | (with_reducible exact trivial) | (with_reducible exact u8_range _) | (with_reducible exact sat_range _ _) | omega | (constructor <;> omega) | (simp only [List.length_map]; omega) | (unfold maxLen at *; omega) | (simp <;> omega) | (unfold maxLen; simp <;> omega)); exact rfl; exact rfl; exact rfl; exact rfl)
    | (apply dt_new; exact rfl; exact rfl; exact rfl; (first | (with_reducible exact trivial) | (with_reducible exact u8_range _) | (with_reducible exact sat_range _ _) | omega | (constructor <;> omega) | (simp only [List.length_map]; omega) | (unfold maxLen at *; omega) | (simp <;> omega) | (unfold maxLen; simp <;> omega)); exact rfl; exact rfl; exact rfl; exact rfl; exact rfl)
    | (apply dt_trade; exact rfl; exact rfl; exact rfl; (first | (with_reducible exact trivial) | (with_reducible exact u8_range _) | (with_reducible exact sat_range _ _) | omega | (constructor <;> omega) | (simp only [List.length_map]; omega) | (unfold maxLen at *; omega) | (simp <;> omega) | (unfold maxLen; simp <;> omega)); exact rfl; exact rfl; exact rfl; exact rfl; exact rfl; exact rfl)
    | (apply dt_nil0; exact rfl; exact rfl; exact rfl; exact rfl)
    | (apply dt_nil; exact rfl)
    | apply dw_seq2
    | apply ds_region
    | (apply dw_any; kernel_rfl; kernel_rfl; exact rfl)
    | apply dw_block
    | apply dw_skip
    | apply dw_exit
    | apply dw_ret
    | (apply dw_condT; exact rfl)
    | (apply dw_condF; exact rfl)
    | apply thenD_n
    | apply thenD_e
    | apply thenD_r
    | apply inB_n
    | apply inB_r
    | (apply inB_e; exact rfl)
    | (apply inB_x; exact rfl))
        refine ret_3 rfl ?_
        have := scanS_err s (by omega) i e (by rw [h3, if_neg (by rw [← he]; exact hne), ← he]; rfl)
        rw [this]
        exact ⟨rfl, rfl, rfl⟩
      · have he0 : e = 0 := Decidable.not_not.1 hne
        obtain ⟨z1, z2, z3⟩ := hz he0
        rw [if_pos (by rw [← he]; exact he0)] at h3
        have hn1 := hpo (by intro hk; rw [hk] at he; unfold tokErr at he; simp at he; omega)
        subst z1; subst z2; subst z3
        repeat' (first
    | (apply ds_evC; exact rfl; (first | (with_reducible exact trivial) | (with_reducible exact u8_range _) | (with_reducible exact sat_range _ _) | omega | (constructor <;> omega) | (simp only [List.length_map]; omega) | (unfold maxLen at *; omega) | (simp <;> omega) | (unfold maxLen; simp <;> omega)); (first | (with_reducible exact hv_chr) | ((with_reducible apply hv_row); (first | exact nat_add_2 _ | exact nat_add_1 _ | exact nat_lit_0 | exact nat_lit_1 | exact rfl | exact (Int.toNat_of_nonneg (by omega)).symm); omega) | ((with_reducible apply hv_sat); (first | exact nat_add_2 _ | exact nat_add_1 _ | exact nat_lit_0 | exact nat_lit_1 | exact rfl | exact (Int.toNat_of_nonneg (by omega)).symm); omega) | ((with_reducible apply hv_ext); (first | exact nat_add_2 _ | exact nat_add_1 _ | exact nat_lit_0 | exact nat_lit_1 | exact rfl | exact (Int.toNat_of_nonneg (by omega)).symm); (first | exact nat_add_2 _ | exact nat_add_1 _ | exact nat_lit_0 | exact nat_lit_1 | exact rfl | exact (Int.toNat_of_nonneg (by omega)).symm)) | (with_reducible exact rfl)); exact rfl; exact rfl; exact rfl)
    | (apply ds_skip; exact rfl; exact rfl)
    | (apply ds_skip0; exact rfl)
    | apply ds_nil
    | (apply dt_ev; exact rfl; exact rfl; (first | (with_reducible exact trivial) | (with_reducible exact u8_range _) | (with_reducible exact sat_range _ _) | omega | (constructor <;> omega) | (simp only [List.length_map]; omega) | (unfold maxLen at *; omega) | (simp <;> omega) | (unfold maxLen; simp <;> omega)); (first | (with_reducible exact hv_chr) | ((with_reducible apply hv_row); (first | exact nat_add_2 _ | exact nat_add_1 _ | exact nat_lit_0 | exact nat_lit_1 | exact rfl | exact (Int.toNat_of_nonneg (by omega)).symm); omega) | ((with_reducible apply hv_sat); (first | exact nat_add_2 _ | exact nat_add_1 _ | exact nat_lit_0 | exact nat_lit_1 | exact rfl | exact (Int.toNat_of_nonneg (by omega)).symm); omega) | ((with_reducible apply hv_ext); (first | exact nat_add_2 _ | exact nat_add_1 _ | exact nat_lit_0 | exact nat_lit_1 | exact rfl | exact (Int.toNat_of_nonneg (by omega)).symm); (first | exact nat_add_2 _ | exact nat_add_1 _ | exact nat_lit_0 | exact nat_lit_1 | exact rfl | exact (Int.toNat_of_nonneg (by omega)).symm)) | (with_reducible exact rfl)); exact rfl; exact rfl; exact rfl; exact rfl)
    | (apply dt_skipD; exact rfl; exact rfl; exact rfl)
    | (apply dt_skip0; exact rfl; exact rfl)
    | (apply dt_set; exact rfl; exact rfl; (first | (with_reducible exact trivial) | (with_reducible exact u8_range _) | (with_reducible exact sat_range _ _) | omega | (constructor <;> omega) | (simp only [List.length_map]; omega) | (unfold maxLen at *; omega) | (simp <;> omega) | (unfold maxLen; simp <;> omega)); exact rfl; exact rfl; exact rfl; exact rfl)
    | (apply dt_new; exact rfl; exact rfl; exact rfl; (first | (with_reducible exact trivial) | (with_reducible exact u8_range _) | (with_reducible exact sat_range _ _) | omega | (constructor <;> omega) | (simp only [List.length_map]; omega) | (unfold maxLen at *; omega) | (simp <;> omega) | (unfold maxLen; simp <;> omega)); exact rfl; exact rfl; exact rfl; exact rfl; exact rfl)
    | (apply dt_trade; exact rfl; exact rfl; exact rfl; (first | (with_reducible exact trivial) | (with_reducible exact u8_range _) | (with_reducible exact sat_range _ _) | omega | (constructor <;> omega) | (simp only [List.length_map]; omega) | (unfold maxLen at *; omega) | (simp <;> omega) | (unfold maxLen; simp <;> omega)); exact rfl; exact rfl; exact rfl; exact rfl; exact rfl; exact rfl)
    | (apply dt_nil0; exact rfl; exact rfl; exact rfl; exact rfl)
    | (apply dt_nil; exact rfl)
    | apply dw_seq2
    | apply ds_region
    | (apply dw_any; kernel_rfl; kernel_rfl; exact rfl)
    | apply dw_block
    | apply dw_skip
    | apply dw_exit
    | (apply dw_condT; exact rfl)
    | (apply dw_condF; exact rfl)
    | apply thenD_n
    | apply thenD_e
    | apply thenD_r
    | apply inB_n
    | apply inB_r
    | (apply inB_e; exact rfl)
    | (apply inB_x; exact rfl)
    | (apply ds_newC; exact rfl; (first | (with_reducible exact trivial) | (with_reducible exact u8_range _) | (with_reducible exact sat_range _ _) | omega | (constructor <;> omega) | (simp only [List.length_map]; omega) | (unfold maxLen at *; omega) | (simp <;> omega) | (unfold maxLen; simp <;> omega)); exact rfl; exact rfl; exact rfl)
    | (apply ds_setC; exact rfl; exact rfl; exact rfl; exact rfl)
    | (apply ds_bsC; exact rfl; exact rfl; exact rfl; exact rfl)
    | (apply ds_tradeC; exact rfl; (first | (with_reducible exact trivial) | (with_reducible exact u8_range _) | (with_reducible exact sat_range _ _) | omega | (constructor <;> omega) | (simp only [List.length_map]; omega) | (unfold maxLen at *; omega) | (simp <;> omega) | (unfold maxLen; simp <;> omega)); exact rfl; exact rfl; exact rfl; exact rfl))
        (refine ds_callF id (skip_fn s (i + n) (by omega) (by omega)) rfl rfl rfl rfl ⟨rfl, trivial⟩ rfl rfl rfl rfl rfl rfl ?_ ?_)
        · rintro k2 r H2 ⟨rfl, rfl, j, _, _, _, _, rfl⟩
          exact ⟨rfl, rfl⟩
        rintro k2 r H2 ⟨rfl, rfl, j, q1, q2, q3, q4, rfl⟩
        change DS _ _ _ _ _ _ _ _
        repeat' (first
    | (apply ds_evC; exact rfl; (first | (with_reducible exact trivial) | (with_reducible exact u8_range _) | (with_reducible exact sat_range _ _) | omega | (constructor <;> omega) | (simp only [List.length_map]; omega) | (unfold maxLen at *; omega) | (simp <;> omega) | (unfold maxLen; simp <;> omega)); (first | (with_reducible exact hv_chr) | ((with_reducible apply hv_row); (first | exact nat_add_2 _ | exact nat_add_1 _ | exact nat_lit_0 | exact nat_lit_1 | exact rfl | exact (Int.toNat_of_nonneg (by omega)).symm); omega) | ((with_reducible apply hv_sat); (first | exact nat_add_2 _ | exact nat_add_1 _ | exact nat_lit_0 | exact nat_lit_1 | exact rfl | exact (Int.toNat_of_nonneg (by omega)).symm); omega) | ((with_reducible apply hv_ext); (first | exact nat_add_2 _ | exact nat_add_1 _ | exact nat_lit_0 | exact nat_lit_1 | exact rfl | exact (Int.toNat_of_nonneg (by omega)).symm); (first | exact nat_add_2 _ | exact nat_add_1 _ | exact nat_lit_0 | exact nat_lit_1 | exact rfl | exact (Int.toNat_of_nonneg (by omega)).symm)) | (with_reducible exact rfl)); exact rfl; exact rfl; exact rfl)
    | (apply ds_skip; exact rfl; exact rfl)
    | (apply ds_skip0; exact rfl)
    | apply ds_nil
    | (apply dt_ev; exact rfl; exact rfl; (first | (with_reducible exact trivial) | (with_reducible exact u8_range _) | (with_reducible exact sat_range _ _) | omega | (constructor <;> omega) | (simp only [List.length_map]; omega) | (unfold maxLen at *; omega) | (simp <;> omega) | (unfold maxLen; simp <;> omega)); (first | (with_reducible exact hv_chr) | ((with_reducible apply hv_row); (first | exact nat_add_2 _ | exact nat_add_1 _ | exact nat_lit_0 | exact nat_lit_1 | exact rfl | exact (Int.toNat_of_nonneg (by omega)).symm); omega) | ((with_reducible apply hv_sat); (first | exact nat_add_2 _ | exact nat_add_1 _ | exact nat_lit_0 | exact nat_lit_1 | exact rfl | exact (Int.toNat_of_nonneg (by omega)).symm); omega) | ((with_reducible apply hv_ext); (first | exact nat_add_2 _ | exact nat_add_1 _ | exact nat_lit_0 | exact nat_lit_1 | exact rfl | exact (Int.toNat_of_nonneg (by omega)).symm); (first | exact nat_add_2 _ | exact nat_add_1 _ | exact nat_lit_0 | exact nat_lit_1 | exact rfl | exact (Int.toNat_of_nonneg (by omega)).symm)) | (with_reducible exact rfl)); exact rfl; exact rfl; exact rfl; exact rfl)
    | (apply dt_skipD; exact rfl; exact rfl; exact rfl)
    | (apply dt_skip0; exact rfl; exact rfl)
    | (apply dt_set; exact rfl; exact rfl; (first | (with_reducible exact trivial) | (with_reducible exact u8_range _) | (with_reducible exact sat_range _ _) | omega | (constructor <;> omega) | (simp only [List.length_map]; omega) | (unfold maxLen at *; omega) | (simp <;> omega) | (unfold maxLen; simp <;> omega)); exact rfl; exact rfl; exact rfl; exact rfl)
    | (apply dt_new; exact rfl; exact rfl; exact rfl; (first | (with_reducible exact trivial) | (with_reducible exact u8_range _) | (with_reducible exact sat_range _ _) | omega | (constructor <;> omega) | (simp only [List.length_map]; omega) | (unfold maxLen at *; omega) | (simp <;> omega) | (unfold maxLen; simp <;> omega)); exact rfl; exact rfl; exact rfl; exact rfl; exact rfl)
    | (apply dt_trade; exact rfl; exact rfl; exact rfl; (first | (with_reducible exact trivial) | (with_reducible exact u8_range _) | (with_reducible exact sat_range _ _) | omega | (constructor <;> omega) | (simp only [List.length_map]; omega) | (unfold maxLen at *; omega) | (simp <;> omega) | (unfold maxLen; simp <;> omega)); exact rfl; exact rfl; exact rfl; exact rfl; exact rfl; exact rfl)
    | (apply dt_nil0; exact rfl; exact rfl; exact rfl; exact rfl)
    | (apply dt_nil; exact rfl)
    | apply dw_seq2
    | apply ds_region
    | (apply dw_any; kernel_rfl; kernel_rfl; exact rfl)
    | apply dw_block
    | apply dw_skip
    | apply dw_exit
    | (apply dw_condT; exact rfl)
    | (apply dw_condF; exact rfl)
    | apply thenD_n
    | apply thenD_e
    | apply thenD_r
    | apply inB_n
    | apply inB_r
    | (apply inB_e; exact rfl)
    | (apply inB_x; exact rfl)
    | (apply ds_newC; exact rfl; (first | (with_reducible exact trivial) | (with_reducible exact u8_range _) | (with_reducible exact sat_range _ _) | omega | (constructor <;> omega) | (simp only [List.length_map]; omega) | (unfold maxLen at *; omega) | (simp <;> omega) | (unfold maxLen; simp <;> omega)); exact rfl; exact rfl; exact rfl)
    | (apply ds_setC; exact rfl; exact rfl; exact rfl; exact rfl)
    | (apply ds_bsC; exact rfl; exact rfl; exact rfl; exact rfl)
    | (apply ds_tradeC; exact rfl; (first | (with_reducible exact trivial) | (with_reducible exact u8_range _) | (with_reducible exact sat_range _ _) | omega | (constructor <;> omega) | (simp only [List.length_map]; omega) | (unfold maxLen at *; omega) | (simp <;> omega) | (unfold maxLen; simp <;> omega)); exact rfl; exact rfl; exact rfl; exact rfl))
        refine ⟨(toks ++ [⟨kd, i, s.extract i (i + n)⟩], j), ⟨?_, ?_, ?_, q4⟩, ?_, ?_⟩
        · exact q2
        · show (toks ++ [_]).length ≤ j
          rw [List.length_append]
          show _ + 1 ≤ _
          omega
        · show scanAt s false 0 = _
          rw [h3, map_map, q3]
          simp only [List.append_assoc, List.singleton_append]
        · dsimp only
          rw [List.map_append]
          exact ent_ren (fun i => match i with | 0 => 0 | _ => 3) ⟨rfl, rfl, rfl, trivial⟩ ⟨rfl, rfl, trivial⟩ rfl rfl rfl rfl rfl rfl
        · show s.size - j < s.size - i; omega
    · repeat' (first
    | (apply ds_evC; exact rfl; (first | (with_reducible exact trivial) | (with_reducible exact u8_range _) | (with_reducible exact sat_range _ _) | omega | (constructor <;> omega) | (simp only [List.length_map]; omega) | (unfold maxLen at *; omega) | (simp <;> omega) | (unfold maxLen; simp <;> omega)); (first | (with_reducible exact hv_chr) | ((with_reducible apply hv_row); (first | exact nat_add_2 _ | exact nat_add_1 _ | exact nat_lit_0 | exact nat_lit_1 | exact rfl | exact (Int.toNat_of_nonneg (by omega)).symm); omega) | ((with_reducible apply hv_sat); (first | exact nat_add_2 _ | exact nat_add_1 _ | exact nat_lit_0 | exact nat_lit_1 | exact rfl | exact (Int.toNat_of_nonneg (by omega)).symm); omega) | ((with_reducible apply hv_ext); (first | exact nat_add_2 _ | exact nat_add_1 _ | exact nat_lit_0 | exact nat_lit_1 | exact rfl | exact (Int.toNat_of_nonneg (by omega)).symm); (first | exact nat_add_2 _ | exact nat_add_1 _ | exact nat_lit_0 | exact nat_lit_1 | exact rfl | exact (Int.toNat_of_nonneg (by omega)).symm)) | (with_reducible exact rfl)); exact rfl; exact rfl; exact rfl)
    | (apply ds_skip; exact rfl; exact rfl)
    | (apply ds_skip0; exact rfl)
    | apply ds_nil
    | (apply dt_ev; exact rfl; exact rfl; (first | (with_reducible exact trivial) | (with_reducible exact u8_range _) | (with_reducible exact sat_range _ _) | omega | (constructor <;> omega) | (simp only [List.length_map]; omega) | (unfold maxLen at *; omega) | (simp <;> omega) | (unfold maxLen; simp <;> omega)); (first | (with_reducible exact hv_chr) | ((with_reducible apply hv_row); (first | exact nat_add_2 _ | exact nat_add_1 _ | exact nat_lit_0 | exact nat_lit_1 | exact rfl | exact (Int.toNat_of_nonneg (by omega)).symm); omega) | ((with_reducible apply hv_sat); (first | exact nat_add_2 _ | exact nat_add_1 _ | exact nat_lit_0 | exact nat_lit_1 | exact rfl | exact (Int.toNat_of_nonneg (by omega)).symm); omega) | ((with_reducible apply hv_ext); (first | exact nat_add_2 _ | exact nat_add_1 _ | exact nat_lit_0 | exact nat_lit_1 | exact rfl | exact (Int.toNat_of_nonneg (by omega)).symm); (first | exact nat_add_2 _ | exact nat_add_1 _ | exact nat_lit_0 | exact nat_lit_1 | exact rfl | exact (Int.toNat_of_nonneg (by omega)).symm)) | (with_reducible exact rfl)); exact rfl; exact rfl; exact rfl; exact rfl)
    | (apply dt_skipD; exact rfl; exact rfl; exact rfl)
    | (apply dt_skip0; exact rfl; exact rfl)
    | (apply dt_set; exact rfl; exact rfl; (first | (with_reducible exact trivial) | (with_reducible exact u8_range _) | (with_reducible exact sat_range _ _) | omega | (constructor <;> omega) | (simp only [List.length_map]; omega) | (unfold maxLen at *; omega) | (simp <;> omega) | (unfold maxLen; simp <;> omega)); exact rfl; exact rfl; exact rfl; exact rfl)
    | (apply dt_new; exact rfl; exact rfl; exact rfl; (first | (with_reducible exact trivial) | (with_reducible exact u8_range _) | (with_reducible exact sat_range _ _) | omega | (constructor <;> omega) | (simp only [List.length_map]; omega) | (unfold maxLen at *; omega) | (simp <;> omega) | (unfold maxLen; simp <;> omega)); exact rfl; exact rfl; exact rfl; exact rfl; exact rfl)
    | (apply dt_trade; exact rfl; exact rfl; exact rfl; (first | (with_reducible exact trivial) | (with_reducible exact u8_range _) | (with_reducible exact sat_range _ _) | omega | (constructor <;> omega) | (simp only [List.length_map]; omega) | (unfold maxLen at *; omega) | (simp <;> omega) | (unfold maxLen; simp <;> omega)); exact rfl; exact rfl; exact rfl; exact rfl; exact rfl; exact rfl)
    | (apply dt_nil0; exact rfl; exact rfl; exact rfl; exact rfl)
    | (apply dt_nil; exact rfl)
    | apply dw_seq2
    | apply ds_region
    | (apply dw_any; kernel_rfl; kernel_rfl; exact rfl)
    | apply dw_block
    | apply dw_skip
    | apply dw_exit
    | (apply dw_condT; exact rfl)
    | (apply dw_condF; exact rfl)
    | apply thenD_n
    | apply thenD_e
    | apply thenD_r
    | apply inB_n
    | apply inB_r
    | (apply inB_e; exact rfl)
    | (apply inB_x; exact rfl)
    | (apply ds_newC; exact rfl; (first | (with_reducible exact trivial) | (with_reducible exact u8_range _) | (with_reducible exact sat_range _ _) | omega | (constructor <;> omega) | (simp only [List.length_map]; omega) | (unfold maxLen at *; omega) | (simp <;> omega) | (unfold maxLen; simp <;> omega)); exact rfl; exact rfl; exact rfl)
    | (apply ds_setC; exact rfl; exact rfl; exact rfl; exact rfl)
    | (apply ds_bsC; exact rfl; exact rfl; exact rfl; exact rfl)
    | (apply ds_tradeC; exact rfl; (first | (with_reducible exact trivial) | (with_reducible exact u8_range _) | (with_reducible exact sat_range _ _) | omega | (constructor <;> omega) | (simp only [List.length_map]; omega) | (unfold maxLen at *; omega) | (simp <;> omega) | (unfold maxLen; simp <;> omega)); exact rfl; exact rfl; exact rfl; exact rfl))
      refine dw_seal 2 rfl rfl ?_
      repeat' (first
    | (apply ds_evC; exact rfl; (first | (with_reducible exact trivial) | (with_reducible exact u8_range _) | (with_reducible exact sat_range _ _) | omega | (constructor <;> omega) | (simp only [List.length_map]; omega) | (unfold maxLen at *; omega) | (simp <;> omega) | (unfold maxLen; simp <;> omega)); (first | (with_reducible exact hv_chr) | ((with_reducible apply hv_row); (first | exact nat_add_2 _ | exact nat_add_1 _ | exact nat_lit_0 | exact nat_lit_1 | exact rfl | exact (Int.toNat_of_nonneg (by omega)).symm); omega) | ((with_reducible apply hv_sat); (first | exact nat_add_2 _ | exact nat_add_1 _ | exact nat_lit_0 | exact nat_lit_1 | exact rfl | exact (Int.toNat_of_nonneg (by omega)).symm); omega) | ((with_reducible apply hv_ext); (first | exact nat_add_2 _ | exact nat_add_1 _ | exact nat_lit_0 | exact nat_lit_1 | exact rfl | exact (Int.toNat_of_nonneg (by omega)).symm); (first | exact nat_add_2 _ | exact nat_add_1 _ | exact nat_lit_0 | exact nat_lit_1 | exact rfl | exact (Int.toNat_of_nonneg (by omega)).symm)) | (with_reducible exact rfl)); exact rfl; exact rfl; exact rfl)
    | (apply ds_skip; exact rfl; exact rfl)
    | (apply ds_skip0; exact rfl)
    | apply ds_nil
    | (apply dt_ev; exact rfl; exact rfl; (first | (with_reducible exact trivial) | (with_reducible exact u8_range _) | (with_reducible exact sat_range _ _) | omega | (constructor <;> omega) | (simp only [List.length_map]; omega) | (unfold maxLen at *; omega) | (simp <;> omega) | (unfold maxLen; simp <;> omega)); (first | (with_reducible exact hv_chr) | ((with_reducible apply hv_row); (first | exact nat_add_2 _ | exact nat_add_1 _ | exact nat_lit_0 | exact nat_lit_1 | exact rfl | exact (Int.toNat_of_nonneg (by omega)).symm); omega) | ((with_reducible apply hv_sat); (first | exact nat_add_2 _ | exact nat_add_1 _ | exact nat_lit_0 | exact nat_lit_1 | exact rfl | exact (Int.toNat_of_nonneg (by omega)).symm); omega) | ((with_reducible apply hv_ext); (first | exact nat_add_2 _ | exact nat_add_1 _ | exact nat_lit_0 | exact nat_lit_1 | exact rfl | exact (Int.toNat_of_nonneg (by omega)).symm); (first | exact nat_add_2 _ | exact nat_add_1 _ | exact nat_lit_0 | exact nat_lit_1 | exact rfl | exact (Int.toNat_of_nonneg (by omega)).symm)) | (with_reducible exact rfl)); exact rfl; exact rfl; exact rfl; exact rfl)
    | (apply dt_skipD; exact rfl; exact rfl; exact rfl)
    | (apply dt_skip0; exact rfl; exact rfl)
    | (apply dt_set; exact rfl; exact rfl; (first | (with_reducible exact trivial) | (with_reducible exact u8_range _) | (with_reducible exact sat_range _ _) | omega | (constructor <;> omega) | (simp only [List.length_map]; omega) | (unfold maxLen at *; omega) | (simp <;> omega) | (unfold maxLen; simp <;> omega)); exact rfl; exact rfl; exact rfl; exact rfl)
    | (apply dt_new; exact rfl; exact rfl; exact rfl; (first | (with_reducible exact trivial) | (with_reducible exact u8_range _) | (with_reducible exact sat_range _ _) | omega | (constructor <;> omega) | (simp only [List.length_map]; omega) | (unfold maxLen at *; omega) | (simp <;> omega) | (unfold maxLen; simp <;> omega)); exact rfl; exact rfl; exact rfl; exact rfl; exact rfl)
    | (apply dt_trade; exact rfl; exact rfl; exact rfl; (first | (with_reducible exact trivial) | (with_reducible exact u8_range _) | (with_reducible exact sat_range _ _) | omega | (constructor <;> omega) | (simp only [List.length_map]; omega) | (unfold maxLen at *; omega) | (simp <;> omega) | (unfold maxLen; simp <;> omega)); exact rfl; exact rfl; exact rfl; exact rfl; exact rfl; exact rfl)
    | (apply dt_nil0; exact rfl; exact rfl; exact rfl; exact rfl)
    | (apply dt_nil; exact rfl)
    | apply dw_seq2
    | apply ds_region
    | (apply dw_any; kernel_rfl; kernel_rfl; exact rfl)
    | apply dw_block
    | apply dw_skip
    | apply dw_exit
    | apply dw_ret
    | (apply dw_condT; exact rfl)
    | (apply dw_condF; exact rfl)
    | apply thenD_n
    | apply thenD_e
    | apply thenD_r
    | apply inB_n
    | apply inB_r
    | (apply inB_e; exact rfl)
    | (apply inB_x; exact rfl))
      refine ret_3 rfl ?_
      rw [scanS_ok s (by omega) toks (by rw [h3, scanAt_end s false i (by omega)]; exact congrArg Except.ok (List.append_nil _))]
      exact ⟨rfl, rfl, rfl⟩
end Go.Proofs.Ytapciiffpnociaa
