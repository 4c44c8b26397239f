/- The program's scanner: what run does to it. Condition: none. -/
import Derived.Test.YtapciiffpnociaaTokW
namespace Go.Proofs.Ytapciiffpnociaa
open Go Go.RowKit
attribute [local irreducible] DW DS DL DQ Ev FnOk FnP thenD inBlockD DT

set_option maxHeartbeats 8000000 in
theorem run_fn (s : ByteArray) (i : Nat) (hi : i ≤ s.size) (hs : s.size ≤ 5000) (f : FuncId) (p : UInt8 → Bool) (hp : ∀ c : UInt8, Fn f [.d (.int .u8 (c.toNat : Int))] (fun r => r = .d (.bool (p c)))) :
    FnS 138 [.loc 0 0, .fn f []] 1 1 (scH s i)
      (fun k2 r H2 => k2 = 1 ∧ r = .d (.str (s.extract i (i + takeW p (s.data.toList.drop i)))) ∧ H2 = scH s (i + takeW p (s.data.toList.drop i))) := by
  refine fn_enter _ Try.func138 rfl rfl (by kernel_rfl) ?_
  intro O w0 E0 β0
  repeat' (first
    | (apply ds_evC; exact rfl; (first | (with_reducible exact trivial) | (with_reducible exact u8_range _) | (with_reducible exact sat_range _ _) | omega | (constructor <;> omega) | (simp only [List.length_map]; omega) | (unfold maxLen at *; omega) | (simp <;> omega) | (unfold maxLen; simp <;> omega)); (first | (with_reducible exact hv_chr) | ((with_reducible apply hv_row); (first | exact nat_add_2 _ | exact nat_add_1 _ | exact nat_lit_0 | exact nat_lit_1 | exact rfl | exact (Int.toNat_of_nonneg (by omega)).symm); omega) | ((with_reducible apply hv_sat); (first | exact nat_add_2 _ | exact nat_add_1 _ | exact nat_lit_0 | exact nat_lit_1 | exact rfl | exact (Int.toNat_of_nonneg (by omega)).symm); omega) | ((with_reducible apply hv_ext); (first | exact nat_add_2 _ | exact nat_add_1 _ | exact nat_lit_0 | exact nat_lit_1 | exact rfl | exact (Int.toNat_of_nonneg (by omega)).symm); (first | exact nat_add_2 _ | exact nat_add_1 _ | exact nat_lit_0 | exact nat_lit_1 | exact rfl | exact (Int.toNat_of_nonneg (by omega)).symm)) | (with_reducible exact rfl)); exact rfl; exact rfl; exact rfl)
    | (apply ds_skip; exact rfl; exact rfl)
    | (apply ds_skip0; exact rfl)
    | apply ds_nil
    | (apply dt_ev; exact rfl; exact rfl; (first | (with_reducible exact trivial) | (with_reducible exact u8_range _) | (with_reducible exact sat_range _ _) | omega | (constructor <;> omega) | (simp only [List.length_map]; omega) | (unfold maxLen at *; omega) | (simp <;> omega) | (unfold maxLen; simp <;> omega)); (first | (with_reducible exact hv_chr) | ((with_reducible apply hv_row); (first | exact nat_add_2 _ | exact nat_add_1 _ | exact nat_lit_0 | exact nat_lit_1 | exact rfl | exact (Int.toNat_of_nonneg (by omega)).symm); omega) | ((with_reducible apply hv_sat); (first | exact nat_add_2 _ | exact nat_add_1 _ | exact nat_lit_0 | exact nat_lit_1 | exact rfl | exact (Int.toNat_of_nonneg (by omega)).symm); omega) | ((with_reducible apply hv_ext); (first | exact nat_add_2 _ | exact nat_add_1 _ | exact nat_lit_0 | exact nat_lit_1 | exact rfl | exact (Int.toNat_of_nonneg (by omega)).symm); (first | exact nat_add_2 _ | exact nat_add_1 _ | exact nat_lit_0 | exact nat_lit_1 | exact rfl | exact (Int.toNat_of_nonneg (by omega)).symm)) | (with_reducible exact rfl)); exact rfl; exact rfl; exact rfl; exact rfl)
    | (apply dt_skipD; exact rfl; exact rfl; exact rfl)
    | (apply dt_skip0; exact rfl; exact rfl)
    | (apply dt_set; exact rfl; exact rfl; (first | (with_reducible exact trivial) | (with_reducible exact u8_range _) | (with_reducible exact sat_range _ _) | omega | (constructor <;> omega) | (simp only [List.length_map]; omega) | (unfold maxLen at *; omega) | (simp <;> omega) | (unfold maxLen; simp <;> omega)); exact rfl; exact rfl; exact rfl; exact rfl)
    | (apply dt_new; exact rfl; exact rfl; exact rfl; (first | (with_reducible exact trivial) | (with_reducible exact u8_range _) | (with_reducible exact sat_range _ _) | omega | (constructor <;> omega) | (simp only [List.length_map]; omega) | (unfold maxLen at *; omega) | (simp <;> omega) | (unfold maxLen; simp <;> omega)); exact rfl; exact rfl; exact rfl; exact rfl; exact rfl)
    | (apply dt_trade; exact rfl; exact rfl; exact rfl; (first | (with_reducible exact trivial) | (with_reducible exact u8_range _) | (with_reducible exact sat_range _ _) | omega | (constructor <;> omega) | (simp only [List.length_map]; omega) | (unfold maxLen at *; omega) | (simp <;> omega) | (unfold maxLen; simp <;> omega)); exact rfl; exact rfl; exact rfl; exact rfl; exact rfl; exact rfl)
    | (apply dt_nil0; exact rfl; exact rfl; exact rfl; exact rfl)
    | (apply dt_nil; exact rfl)
    | apply dw_seq2
    | apply ds_region
    | (apply dw_any; kernel_rfl; kernel_rfl; exact rfl)
    | apply dw_block
    | apply dw_skip
    | apply dw_exit
    | apply dw_ret
    | (apply dw_condT; exact rfl)
    | (apply dw_condF; exact rfl)
    | apply thenD_n
    | apply thenD_e
    | apply thenD_r
    | apply inB_n
    | apply inB_r
    | (apply inB_e; exact rfl)
    | (apply inB_x; exact rfl)
    | (apply ds_newC; exact rfl; (first | (with_reducible exact trivial) | (with_reducible exact u8_range _) | (with_reducible exact sat_range _ _) | omega | (constructor <;> omega) | (simp only [List.length_map]; omega) | (unfold maxLen at *; omega) | (simp <;> omega) | (unfold maxLen; simp <;> omega)); exact rfl; exact rfl; exact rfl)
    | (apply ds_setC; exact rfl; exact rfl; exact rfl; exact rfl)
    | (apply ds_bsC; exact rfl; exact rfl; exact rfl; exact rfl)
    | (apply ds_tradeC; exact rfl; (first | (with_reducible exact trivial) | (with_reducible exact u8_range _) | (with_reducible exact sat_range _ _) | omega | (constructor <;> omega) | (simp only [List.length_map]; omega) | (unfold maxLen at *; omega) | (simp <;> omega) | (unfold maxLen; simp <;> omega)); exact rfl; exact rfl; exact rfl; exact rfl))
  have hl0 : s.data.toList.length = s.size := by simp
  refine ds_loop (ι := Nat) (fun j => ⟨1, [(0, .loc 0 0), (1, .fn f []), (5, .d (.int .i64 i))], scH s j⟩) (fun j => i ≤ j ∧ j ≤ s.size ∧ i + takeW p (s.data.toList.drop i) = j + takeW p (s.data.toList.drop j)) (fun j => s.size - j) i ⟨Nat.le_refl _, hi, rfl⟩
    (ent_ren id ⟨rfl, rfl, rfl, trivial⟩ ⟨rfl, trivial⟩ rfl rfl rfl rfl rfl rfl) ?_
  rintro j ⟨h1, h2, h3⟩
  have hstep := fun h hq => takeW_step p s.data.toList j h hq
  have hstop := fun h hq => takeW_stop p s.data.toList j h hq
  have hend := takeW_end p s.data.toList j
  repeat' (first
    | (apply ds_evC; exact rfl; (first | (with_reducible exact trivial) | (with_reducible exact u8_range _) | (with_reducible exact sat_range _ _) | omega | (constructor <;> omega) | (simp only [List.length_map]; omega) | (unfold maxLen at *; omega) | (simp <;> omega) | (unfold maxLen; simp <;> omega)); (first | (with_reducible exact hv_chr) | ((with_reducible apply hv_row); (first | exact nat_add_2 _ | exact nat_add_1 _ | exact nat_lit_0 | exact nat_lit_1 | exact rfl | exact (Int.toNat_of_nonneg (by omega)).symm); omega) | ((with_reducible apply hv_sat); (first | exact nat_add_2 _ | exact nat_add_1 _ | exact nat_lit_0 | exact nat_lit_1 | exact rfl | exact (Int.toNat_of_nonneg (by omega)).symm); omega) | ((with_reducible apply hv_ext); (first | exact nat_add_2 _ | exact nat_add_1 _ | exact nat_lit_0 | exact nat_lit_1 | exact rfl | exact (Int.toNat_of_nonneg (by omega)).symm); (first | exact nat_add_2 _ | exact nat_add_1 _ | exact nat_lit_0 | exact nat_lit_1 | exact rfl | exact (Int.toNat_of_nonneg (by omega)).symm)) | (with_reducible exact rfl)); exact rfl; exact rfl; exact rfl)
    | (apply ds_skip; exact rfl; exact rfl)
    | (apply ds_skip0; exact rfl)
    | apply ds_nil
    | (apply dt_ev; exact rfl; exact rfl; (first | (with_reducible exact trivial) | (with_reducible exact u8_range _) | (with_reducible exact sat_range _ _) | omega | (constructor <;> omega) | (simp only [List.length_map]; omega) | (unfold maxLen at *; omega) | (simp <;> omega) | (unfold maxLen; simp <;> omega)); (first | (with_reducible exact hv_chr) | ((with_reducible apply hv_row); (first | exact nat_add_2 _ | exact nat_add_1 _ | exact nat_lit_0 | exact nat_lit_1 | exact rfl | exact (Int.toNat_of_nonneg (by omega)).symm); omega) | ((with_reducible apply hv_sat); (first | exact nat_add_2 _ | exact nat_add_1 _ | exact nat_lit_0 | exact nat_lit_1 | exact rfl | exact (Int.toNat_of_nonneg (by omega)).symm); omega) | ((with_reducible apply hv_ext); (first | exact nat_add_2 _ | exact nat_add_1 _ | exact nat_lit_0 | exact nat_lit_1 | exact rfl | exact (Int.toNat_of_nonneg (by omega)).symm); (first | exact nat_add_2 _ | exact nat_add_1 _ | exact nat_lit_0 | exact nat_lit_1 | exact rfl | exact (Int.toNat_of_nonneg (by omega)).symm)) | (with_reducible exact rfl)); exact rfl; exact rfl; exact rfl; exact rfl)
    | (apply dt_skipD; exact rfl; exact rfl; exact rfl)
    | (apply dt_skip0; exact rfl; exact rfl)
    | (apply dt_set; exact rfl; exact rfl; (first | (with_reducible exact trivial) | (with_reducible exact u8_range _) | (with_reducible exact sat_range _ _) | omega | (constructor <;> omega) | (simp only [List.length_map]; omega) | (unfold maxLen at *; omega) | (simp <;> omega) | (unfold maxLen; simp <;> omega)); exact rfl; exact rfl; exact rfl; exact rfl)
    | (apply dt_new; exact rfl; exact rfl; exact rfl; (first | (with_reducible exact trivial) | (with_reducible exact u8_range _) | (with_reducible exact sat_range _ _) | omega | (constructor <;> omega) | (simp only [List.length_map]; omega) | (unfold maxLen at *; omega) | (simp <;> omega) | (unfold maxLen; simp <;> omega)); exact rfl; exact rfl; exact rfl; exact rfl; exact rfl)
    | (apply dt_trade; exact rfl; exact rfl; exact rfl; (first | (with_reducible exact trivial) | (with_reducible exact u8_range _) | (with_reducible exact sat_range _ _) | omega | (constructor <;> omega) | (simp only [List.length_map]; omega) | (unfold maxLen at *; omega) | (simp <;> omega) | (unfold maxLen; simp <;> omega)); exact rfl; exact rfl; exact rfl; exact rfl; exact rfl; exact rfl)
    | (apply dt_nil0; exact rfl; exact rfl; exact rfl; exact rfl)
    | (apply dt_nil; exact rfl)
    | apply dw_seq2
    | apply ds_region
    | (apply dw_any; kernel_rfl; kernel_rfl; exact rfl)
    | apply dw_block
    | apply dw_skip
    | apply dw_exit
    | apply dw_ret
    | (apply dw_condT; exact rfl)
    | (apply dw_condF; exact rfl)
    | apply thenD_n
    | apply thenD_e
    | apply thenD_r
    | apply inB_n
    | apply inB_r
    | (apply inB_e; exact rfl)
    | (apply inB_x; exact rfl)
    | (apply ds_newC; exact rfl; (first | (with_reducible exact trivial) | (with_reducible exact u8_range _) | (with_reducible exact sat_range _ _) | omega | (constructor <;> omega) | (simp only [List.length_map]; omega) | (unfold maxLen at *; omega) | (simp <;> omega) | (unfold maxLen; simp <;> omega)); exact rfl; exact rfl; exact rfl)
    | (apply ds_setC; exact rfl; exact rfl; exact rfl; exact rfl)
    | (apply ds_bsC; exact rfl; exact rfl; exact rfl; exact rfl)
    | (apply ds_tradeC; exact rfl; (first | (with_reducible exact trivial) | (with_reducible exact u8_range _) | (with_reducible exact sat_range _ _) | omega | (constructor <;> omega) | (simp only [List.length_map]; omega) | (unfold maxLen at *; omega) | (simp <;> omega) | (unfold maxLen; simp <;> omega)); exact rfl; exact rfl; exact rfl; exact rfl)
    | (apply dw_condP; exact rfl; all_goals intro hg) | (apply dw_cond; exact rfl; all_goals intro hg) | ((fail_if_success (apply ds_known; exact rfl)); apply ds_guardP; exact rfl; exact rfl; exact rfl; all_goals intro hg) | ((fail_if_success (apply ds_known; exact rfl)); apply ds_guardB; exact rfl; exact rfl; exact rfl; all_goals intro hg) | ((fail_if_success (apply dt_known; exact rfl)); apply dt_guardP; exact rfl; exact rfl; exact rfl; all_goals intro hg) | ((fail_if_success (apply dt_known; exact rfl)); apply dt_guard; exact rfl; exact rfl; exact rfl; all_goals intro hg))
  all_goals first
    | (refine dt_callV rfl rfl rfl rfl (hp _) rfl rfl rfl rfl ⟨_, rfl⟩ ?_; rintro _ rfl)
    | (exact absurd hg (by decide))
    | skip
  repeat' (first
    | (apply ds_evC; exact rfl; (first | (with_reducible exact trivial) | (with_reducible exact u8_range _) | (with_reducible exact sat_range _ _) | omega | (constructor <;> omega) | (simp only [List.length_map]; omega) | (unfold maxLen at *; omega) | (simp <;> omega) | (unfold maxLen; simp <;> omega)); (first | (with_reducible exact hv_chr) | ((with_reducible apply hv_row); (first | exact nat_add_2 _ | exact nat_add_1 _ | exact nat_lit_0 | exact nat_lit_1 | exact rfl | exact (Int.toNat_of_nonneg (by omega)).symm); omega) | ((with_reducible apply hv_sat); (first | exact nat_add_2 _ | exact nat_add_1 _ | exact nat_lit_0 | exact nat_lit_1 | exact rfl | exact (Int.toNat_of_nonneg (by omega)).symm); omega) | ((with_reducible apply hv_ext); (first | exact nat_add_2 _ | exact nat_add_1 _ | exact nat_lit_0 | exact nat_lit_1 | exact rfl | exact (Int.toNat_of_nonneg (by omega)).symm); (first | exact nat_add_2 _ | exact nat_add_1 _ | exact nat_lit_0 | exact nat_lit_1 | exact rfl | exact (Int.toNat_of_nonneg (by omega)).symm)) | (with_reducible exact rfl)); exact rfl; exact rfl; exact rfl)
    | (apply ds_skip; exact rfl; exact rfl)
    | (apply ds_skip0; exact rfl)
    | apply ds_nil
    | (apply dt_ev; exact rfl; exact rfl; (first | (with_reducible exact trivial) | (with_reducible exact u8_range _) | (with_reducible exact sat_range _ _) | omega | (constructor <;> omega) | (simp only [List.length_map]; omega) | (unfold maxLen at *; omega) | (simp <;> omega) | (unfold maxLen; simp <;> omega)); (first | (with_reducible exact hv_chr) | ((with_reducible apply hv_row); (first | exact nat_add_2 _ | exact nat_add_1 _ | exact nat_lit_0 | exact nat_lit_1 | exact rfl | exact (Int.toNat_of_nonneg (by omega)).symm); omega) | ((with_reducible apply hv_sat); (first | exact nat_add_2 _ | exact nat_add_1 _ | exact nat_lit_0 | exact nat_lit_1 | exact rfl | exact (Int.toNat_of_nonneg (by omega)).symm); omega) | ((with_reducible apply hv_ext); (first | exact nat_add_2 _ | exact nat_add_1 _ | exact nat_lit_0 | exact nat_lit_1 | exact rfl | exact (Int.toNat_of_nonneg (by omega)).symm); (first | exact nat_add_2 _ | exact nat_add_1 _ | exact nat_lit_0 | exact nat_lit_1 | exact rfl | exact (Int.toNat_of_nonneg (by omega)).symm)) | (with_reducible exact rfl)); exact rfl; exact rfl; exact rfl; exact rfl)
    | (apply dt_skipD; exact rfl; exact rfl; exact rfl)
    | (apply dt_skip0; exact rfl; exact rfl)
    | (apply dt_set; exact rfl; exact rfl; (first | (with_reducible exact trivial) | (with_reducible exact u8_range _) | (with_reducible exact sat_range _ _) | omega | (constructor <;> omega) | (simp only [List.length_map]; omega) | (unfold maxLen at *; omega) | (simp <;> omega) | (unfold maxLen; simp <;> omega)); exact rfl; exact rfl; exact rfl; exact rfl)
    | (apply dt_new; exact rfl; exact rfl; exact rfl; (first | (with_reducible exact trivial) | (with_reducible exact u8_range _) | (with_reducible exact sat_range _ _) | omega | (constructor <;> omega) | (simp only [List.length_map]; omega) | (unfold maxLen at *; omega) | (simp <;> omega) | (unfold maxLen; simp <;> omega)); exact rfl; exact rfl; exact rfl; exact rfl; exact rfl)
    | (apply dt_trade; exact rfl; exact rfl; exact rfl; (first | (with_reducible exact trivial) | (with_reducible exact u8_range _) | (with_reducible exact sat_range _ _) | omega | (constructor <;> omega) | (simp only [List.length_map]; omega) | (unfold maxLen at *; omega) | (simp <;> omega) | (unfold maxLen; simp <;> omega)); exact rfl; exact rfl; exact rfl; exact rfl; exact rfl; exact rfl)
    | (apply dt_nil0; exact rfl; exact rfl; exact rfl; exact rfl)
    | (apply dt_nil; exact rfl)
    | apply dw_seq2
    | apply ds_region
    | (apply dw_any; kernel_rfl; kernel_rfl; exact rfl)
    | apply dw_block
    | apply dw_skip
    | apply dw_exit
    | apply dw_ret
    | (apply dw_condT; exact rfl)
    | (apply dw_condF; exact rfl)
    | apply thenD_n
    | apply thenD_e
    | apply thenD_r
    | apply inB_n
    | apply inB_r
    | (apply inB_e; exact rfl)
    | (apply inB_x; exact rfl)
    | (apply ds_newC; exact rfl; (first | (with_reducible exact trivial) | (with_reducible exact u8_range _) | (with_reducible exact sat_range _ _) | omega | (constructor <;> omega) | (simp only [List.length_map]; omega) | (unfold maxLen at *; omega) | (simp <;> omega) | (unfold maxLen; simp <;> omega)); exact rfl; exact rfl; exact rfl)
    | (apply ds_setC; exact rfl; exact rfl; exact rfl; exact rfl)
    | (apply ds_bsC; exact rfl; exact rfl; exact rfl; exact rfl)
    | (apply ds_tradeC; exact rfl; (first | (with_reducible exact trivial) | (with_reducible exact u8_range _) | (with_reducible exact sat_range _ _) | omega | (constructor <;> omega) | (simp only [List.length_map]; omega) | (unfold maxLen at *; omega) | (simp <;> omega) | (unfold maxLen; simp <;> omega)); exact rfl; exact rfl; exact rfl; exact rfl)
    | (apply dw_condP; exact rfl; all_goals intro hg) | (apply dw_cond; exact rfl; all_goals intro hg) | ((fail_if_success (apply ds_known; exact rfl)); apply ds_guardP; exact rfl; exact rfl; exact rfl; all_goals intro hg) | ((fail_if_success (apply ds_known; exact rfl)); apply ds_guardB; exact rfl; exact rfl; exact rfl; all_goals intro hg) | ((fail_if_success (apply dt_known; exact rfl)); apply dt_guardP; exact rfl; exact rfl; exact rfl; all_goals intro hg) | ((fail_if_success (apply dt_known; exact rfl)); apply dt_guard; exact rfl; exact rfl; exact rfl; all_goals intro hg))
  all_goals first
    | (have hj : i + takeW p (s.data.toList.drop i) = j := by have := hend (by omega); omega
       rw [hj]
       exact ⟨.inl rfl, _, rfl, rfl, rfl, rfl⟩)
    | (have hq := hstep (by omega) (by rw [byteAt _ _ (by omega)]; first | assumption | simp_all)
       refine ⟨j + 1, ⟨by omega, by omega, by omega⟩, ent_ren id ⟨rfl, rfl, rfl, trivial⟩ ⟨rfl, trivial⟩ rfl rfl rfl rfl rfl rfl, by omega⟩)
    | (have hq := hstop (by omega) (by rw [byteAt _ _ (by omega)]; first | assumption | simp_all)
       have hj : i + takeW p (s.data.toList.drop i) = j := by omega
       rw [hj]
       exact ⟨.inl rfl, _, rfl, rfl, rfl, rfl⟩)
end Go.Proofs.Ytapciiffpnociaa
