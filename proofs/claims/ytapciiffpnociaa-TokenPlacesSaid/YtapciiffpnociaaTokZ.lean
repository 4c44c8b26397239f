/- The program's scanner: the search among the pairs. Condition: none. -/
import Derived.Test.YtapciiffpnociaaTokY
namespace Go.Proofs.Ytapciiffpnociaa
open Go Go.RowKit
attribute [local irreducible] DW DS DL DQ Ev FnOk FnP thenD inBlockD DT

def pairT : List ByteArray := [⟨#[58, 45]⟩, ⟨#[60, 61]⟩, ⟨#[33, 61]⟩]
/-- The first of the pairs, from one on, with which a text begins; -1: none. -/
def pairAt (r : ByteArray) : Int := if hasPre r ⟨#[58, 45]⟩ then 0 else if hasPre r ⟨#[60, 61]⟩ then 1 else if hasPre r ⟨#[33, 61]⟩ then 2 else -1

theorem pairAt_hit (r : ByteArray) (j : Nat) (hj : j < pairT.length) (h2 : ∀ m (_ : m < j) (hm3 : m < pairT.length), hasPre r pairT[m] = false) (h : hasPre r pairT[j] = true) : pairAt r = j := by
  have hj3 : j < 3 := hj
  unfold pairAt
  match j, hj3 with
  | 0, _ => rw [if_pos (show hasPre r ⟨#[58, 45]⟩ = true from h)]; rfl
  | 1, _ => rw [if_neg (by rw [show hasPre r ⟨#[58, 45]⟩ = false from h2 0 (by omega) (by decide)]; decide), if_pos (show hasPre r ⟨#[60, 61]⟩ = true from h)]; rfl
  | 2, _ => rw [if_neg (by rw [show hasPre r ⟨#[58, 45]⟩ = false from h2 0 (by omega) (by decide)]; decide), if_neg (by rw [show hasPre r ⟨#[60, 61]⟩ = false from h2 1 (by omega) (by decide)]; decide), if_pos (show hasPre r ⟨#[33, 61]⟩ = true from h)]; rfl
theorem pairAt_none (r : ByteArray) (h2 : ∀ m (_ : m < 3) (hm3 : m < pairT.length), hasPre r pairT[m] = false) : pairAt r = -1 := by
  unfold pairAt
  rw [if_neg (by rw [show hasPre r ⟨#[58, 45]⟩ = false from h2 0 (by omega) (by decide)]; decide), if_neg (by rw [show hasPre r ⟨#[60, 61]⟩ = false from h2 1 (by omega) (by decide)]; decide), if_neg (by rw [show hasPre r ⟨#[33, 61]⟩ = false from h2 2 (by omega) (by decide)]; decide)]

set_option maxHeartbeats 8000000 in
theorem indexFunc_fn (s : ByteArray) (i : Nat) (hi : i ≤ s.size) :
    FnS 190 [.d (.slice 1 (pairT.map fun t => [.str t])), .fn 143 [.loc 1 0]] 2 2 (scH2 s i) (fun _ r H2 => r = .d (.int .i64 (pairAt (s.extract i s.size))) ∧ H2 = scH2 s i) := by
  refine fn_enter _ Try.func190 rfl rfl (by kernel_rfl) ?_
  intro O w0 E0 β0
  repeat' (first
    | (apply ds_evC; exact rfl; (first | (with_reducible exact trivial) | (with_reducible exact u8_range _) | (with_reducible exact sat_range _ _) | omega | (constructor <;> omega) | (simp only [List.length_map]; omega) | (unfold maxLen at *; omega) | (simp <;> omega) | (unfold maxLen; simp <;> omega)); (first | (with_reducible exact hv_chr) | ((with_reducible apply hv_row); (first | exact nat_add_2 _ | exact nat_add_1 _ | exact nat_lit_0 | exact nat_lit_1 | exact rfl | exact (Int.toNat_of_nonneg (by omega)).symm); omega) | ((with_reducible apply hv_sat); (first | exact nat_add_2 _ | exact nat_add_1 _ | exact nat_lit_0 | exact nat_lit_1 | exact rfl | exact (Int.toNat_of_nonneg (by omega)).symm); omega) | ((with_reducible apply hv_ext); (first | exact nat_add_2 _ | exact nat_add_1 _ | exact nat_lit_0 | exact nat_lit_1 | exact rfl | exact (Int.toNat_of_nonneg (by omega)).symm); (first | exact nat_add_2 _ | exact nat_add_1 _ | exact nat_lit_0 | exact nat_lit_1 | exact rfl | exact (Int.toNat_of_nonneg (by omega)).symm)) | (with_reducible exact rfl)); exact rfl; exact rfl; exact rfl)
    | (apply ds_skip; exact rfl; exact rfl)
    | (apply ds_skip0; exact rfl)
    | apply ds_nil
    | (apply dt_ev; exact rfl; exact rfl; (first | (with_reducible exact trivial) | (with_reducible exact u8_range _) | (with_reducible exact sat_range _ _) | omega | (constructor <;> omega) | (simp only [List.length_map]; omega) | (unfold maxLen at *; omega) | (simp <;> omega) | (unfold maxLen; simp <;> omega)); (first | (with_reducible exact hv_chr) | ((with_reducible apply hv_row); (first | exact nat_add_2 _ | exact nat_add_1 _ | exact nat_lit_0 | exact nat_lit_1 | exact rfl | exact (Int.toNat_of_nonneg (by omega)).symm); omega) | ((with_reducible apply hv_sat); (first | exact nat_add_2 _ | exact nat_add_1 _ | exact nat_lit_0 | exact nat_lit_1 | exact rfl | exact (Int.toNat_of_nonneg (by omega)).symm); omega) | ((with_reducible apply hv_ext); (first | exact nat_add_2 _ | exact nat_add_1 _ | exact nat_lit_0 | exact nat_lit_1 | exact rfl | exact (Int.toNat_of_nonneg (by omega)).symm); (first | exact nat_add_2 _ | exact nat_add_1 _ | exact nat_lit_0 | exact nat_lit_1 | exact rfl | exact (Int.toNat_of_nonneg (by omega)).symm)) | (with_reducible exact rfl)); exact rfl; exact rfl; exact rfl; exact rfl)
    | (apply dt_skipD; exact rfl; exact rfl; exact rfl)
    | (apply dt_skip0; exact rfl; exact rfl)
    | (apply dt_set; exact rfl; exact rfl; (first | (with_reducible exact trivial) | (with_reducible exact u8_range _) | (with_reducible exact sat_range _ _) | omega | (constructor <;> omega) | (simp only [List.length_map]; omega) | (unfold maxLen at *; omega) | (simp <;> omega) | (unfold maxLen; simp <;> omega)); exact rfl; exact rfl; exact rfl; exact rfl)
    | (apply dt_new; exact rfl; exact rfl; exact rfl; (first | (with_reducible exact trivial) | (with_reducible exact u8_range _) | (with_reducible exact sat_range _ _) | omega | (constructor <;> omega) | (simp only [List.length_map]; omega) | (unfold maxLen at *; omega) | (simp <;> omega) | (unfold maxLen; simp <;> omega)); exact rfl; exact rfl; exact rfl; exact rfl; exact rfl)
    | (apply dt_trade; exact rfl; exact rfl; exact rfl; (first | (with_reducible exact trivial) | (with_reducible exact u8_range _) | (with_reducible exact sat_range _ _) | omega | (constructor <;> omega) | (simp only [List.length_map]; omega) | (unfold maxLen at *; omega) | (simp <;> omega) | (unfold maxLen; simp <;> omega)); exact rfl; exact rfl; exact rfl; exact rfl; exact rfl; exact rfl)
    | (apply dt_nil0; exact rfl; exact rfl; exact rfl; exact rfl)
    | (apply dt_nil; exact rfl)
    | apply dw_seq2
    | apply ds_region
    | (apply dw_any; kernel_rfl; kernel_rfl; exact rfl)
    | apply dw_block
    | apply dw_skip
    | apply dw_exit
    | apply dw_ret
    | (apply dw_condT; exact rfl)
    | (apply dw_condF; exact rfl)
    | apply thenD_n
    | apply thenD_e
    | apply thenD_r
    | apply inB_n
    | apply inB_r
    | (apply inB_e; exact rfl)
    | (apply inB_x; exact rfl)
    | (apply ds_newC; exact rfl; (first | (with_reducible exact trivial) | (with_reducible exact u8_range _) | (with_reducible exact sat_range _ _) | omega | (constructor <;> omega) | (simp only [List.length_map]; omega) | (unfold maxLen at *; omega) | (simp <;> omega) | (unfold maxLen; simp <;> omega)); exact rfl; exact rfl; exact rfl)
    | (apply ds_setC; exact rfl; exact rfl; exact rfl; exact rfl)
    | (apply ds_bsC; exact rfl; exact rfl; exact rfl; exact rfl)
    | (apply ds_tradeC; exact rfl; (first | (with_reducible exact trivial) | (with_reducible exact u8_range _) | (with_reducible exact sat_range _ _) | omega | (constructor <;> omega) | (simp only [List.length_map]; omega) | (unfold maxLen at *; omega) | (simp <;> omega) | (unfold maxLen; simp <;> omega)); exact rfl; exact rfl; exact rfl; exact rfl))
  refine ds_loop (ι := Nat) (fun j => ⟨2, [(0, .d (.slice 1 (pairT.map fun t => [.str t]))), (1, .fn 143 [.loc 1 0]), (7, .d (.int .i64 3)), (8, .d (.int .i64 j))], scH2 s i⟩)
    (fun j => j ≤ 3 ∧ ∀ m (hm : m < j) (hm3 : m < pairT.length), hasPre (s.extract i s.size) pairT[m] = false) (fun j => 3 - j) 0 ⟨by omega, fun m hm => absurd hm (by omega)⟩
    (ent_ren id ⟨rfl, rfl, rfl, rfl, trivial⟩ ⟨rfl, rfl, trivial⟩ rfl rfl rfl rfl rfl rfl) ?_
  rintro j ⟨h1, h2⟩
  repeat' (first
    | (apply ds_evC; exact rfl; (first | (with_reducible exact trivial) | (with_reducible exact u8_range _) | (with_reducible exact sat_range _ _) | omega | (constructor <;> omega) | (simp only [List.length_map]; omega) | (unfold maxLen at *; omega) | (simp <;> omega) | (unfold maxLen; simp <;> omega)); (first | (with_reducible exact hv_chr) | ((with_reducible apply hv_row); (first | exact nat_add_2 _ | exact nat_add_1 _ | exact nat_lit_0 | exact nat_lit_1 | exact rfl | exact (Int.toNat_of_nonneg (by omega)).symm); omega) | ((with_reducible apply hv_sat); (first | exact nat_add_2 _ | exact nat_add_1 _ | exact nat_lit_0 | exact nat_lit_1 | exact rfl | exact (Int.toNat_of_nonneg (by omega)).symm); omega) | ((with_reducible apply hv_ext); (first | exact nat_add_2 _ | exact nat_add_1 _ | exact nat_lit_0 | exact nat_lit_1 | exact rfl | exact (Int.toNat_of_nonneg (by omega)).symm); (first | exact nat_add_2 _ | exact nat_add_1 _ | exact nat_lit_0 | exact nat_lit_1 | exact rfl | exact (Int.toNat_of_nonneg (by omega)).symm)) | (with_reducible exact rfl)); exact rfl; exact rfl; exact rfl)
    | (apply ds_skip; exact rfl; exact rfl)
    | (apply ds_skip0; exact rfl)
    | apply ds_nil
    | (apply dt_ev; exact rfl; exact rfl; (first | (with_reducible exact trivial) | (with_reducible exact u8_range _) | (with_reducible exact sat_range _ _) | omega | (constructor <;> omega) | (simp only [List.length_map]; omega) | (unfold maxLen at *; omega) | (simp <;> omega) | (unfold maxLen; simp <;> omega)); (first | (with_reducible exact hv_chr) | ((with_reducible apply hv_row); (first | exact nat_add_2 _ | exact nat_add_1 _ | exact nat_lit_0 | exact nat_lit_1 | exact rfl | exact (Int.toNat_of_nonneg (by omega)).symm); omega) | ((with_reducible apply hv_sat); (first | exact nat_add_2 _ | exact nat_add_1 _ | exact nat_lit_0 | exact nat_lit_1 | exact rfl | exact (Int.toNat_of_nonneg (by omega)).symm); omega) | ((with_reducible apply hv_ext); (first | exact nat_add_2 _ | exact nat_add_1 _ | exact nat_lit_0 | exact nat_lit_1 | exact rfl | exact (Int.toNat_of_nonneg (by omega)).symm); (first | exact nat_add_2 _ | exact nat_add_1 _ | exact nat_lit_0 | exact nat_lit_1 | exact rfl | exact (Int.toNat_of_nonneg (by omega)).symm)) | (with_reducible exact rfl)); exact rfl; exact rfl; exact rfl; exact rfl)
    | (apply dt_skipD; exact rfl; exact rfl; exact rfl)
    | (apply dt_skip0; exact rfl; exact rfl)
    | (apply dt_set; exact rfl; exact rfl; (first | (with_reducible exact trivial) | (with_reducible exact u8_range _) | (with_reducible exact sat_range _ _) | omega | (constructor <;> omega) | (simp only [List.length_map]; omega) | (unfold maxLen at *; omega) | (simp <;> omega) | (unfold maxLen; simp <;> omega)); exact rfl; exact rfl; exact rfl; exact rfl)
    | (apply dt_new; exact rfl; exact rfl; exact rfl; (first | (with_reducible exact trivial) | (with_reducible exact u8_range _) | (with_reducible exact sat_range _ _) | omega | (constructor <;> omega) | (simp only [List.length_map]; omega) | (unfold maxLen at *; omega) | (simp <;> omega) | (unfold maxLen; simp <;> omega)); exact rfl; exact rfl; exact rfl; exact rfl; exact rfl)
    | (apply dt_trade; exact rfl; exact rfl; exact rfl; (first | (with_reducible exact trivial) | (with_reducible exact u8_range _) | (with_reducible exact sat_range _ _) | omega | (constructor <;> omega) | (simp only [List.length_map]; omega) | (unfold maxLen at *; omega) | (simp <;> omega) | (unfold maxLen; simp <;> omega)); exact rfl; exact rfl; exact rfl; exact rfl; exact rfl; exact rfl)
    | (apply dt_nil0; exact rfl; exact rfl; exact rfl; exact rfl)
    | (apply dt_nil; exact rfl)
    | apply dw_seq2
    | apply ds_region
    | (apply dw_any; kernel_rfl; kernel_rfl; exact rfl)
    | apply dw_block
    | apply dw_skip
    | apply dw_exit
    | apply dw_ret
    | (apply dw_condT; exact rfl)
    | (apply dw_condF; exact rfl)
    | apply thenD_n
    | apply thenD_e
    | apply thenD_r
    | apply inB_n
    | apply inB_r
    | (apply inB_e; exact rfl)
    | (apply inB_x; exact rfl)
    | (apply ds_newC; exact rfl; (first | (with_reducible exact trivial) | (with_reducible exact u8_range _) | (with_reducible exact sat_range _ _) | omega | (constructor <;> omega) | (simp only [List.length_map]; omega) | (unfold maxLen at *; omega) | (simp <;> omega) | (unfold maxLen; simp <;> omega)); exact rfl; exact rfl; exact rfl)
    | (apply ds_setC; exact rfl; exact rfl; exact rfl; exact rfl)
    | (apply ds_bsC; exact rfl; exact rfl; exact rfl; exact rfl)
    | (apply ds_tradeC; exact rfl; (first | (with_reducible exact trivial) | (with_reducible exact u8_range _) | (with_reducible exact sat_range _ _) | omega | (constructor <;> omega) | (simp only [List.length_map]; omega) | (unfold maxLen at *; omega) | (simp <;> omega) | (unfold maxLen; simp <;> omega)); exact rfl; exact rfl; exact rfl; exact rfl))
  have hp3 : pairT.length = 3 := rfl
  refine dw_condP rfl (fun hlt => ?_) (fun hlt => ?_)
  · repeat' (first
    | (apply ds_evC; exact rfl; (first | (with_reducible exact trivial) | (with_reducible exact u8_range _) | (with_reducible exact sat_range _ _) | omega | (constructor <;> omega) | (simp only [List.length_map]; omega) | (unfold maxLen at *; omega) | (simp <;> omega) | (unfold maxLen; simp <;> omega)); (first | (with_reducible exact hv_chr) | ((with_reducible apply hv_row); (first | exact nat_add_2 _ | exact nat_add_1 _ | exact nat_lit_0 | exact nat_lit_1 | exact rfl | exact (Int.toNat_of_nonneg (by omega)).symm); omega) | ((with_reducible apply hv_sat); (first | exact nat_add_2 _ | exact nat_add_1 _ | exact nat_lit_0 | exact nat_lit_1 | exact rfl | exact (Int.toNat_of_nonneg (by omega)).symm); omega) | ((with_reducible apply hv_ext); (first | exact nat_add_2 _ | exact nat_add_1 _ | exact nat_lit_0 | exact nat_lit_1 | exact rfl | exact (Int.toNat_of_nonneg (by omega)).symm); (first | exact nat_add_2 _ | exact nat_add_1 _ | exact nat_lit_0 | exact nat_lit_1 | exact rfl | exact (Int.toNat_of_nonneg (by omega)).symm)) | (with_reducible exact rfl)); exact rfl; exact rfl; exact rfl)
    | (apply ds_skip; exact rfl; exact rfl)
    | (apply ds_skip0; exact rfl)
    | apply ds_nil
    | (apply dt_ev; exact rfl; exact rfl; (first | (with_reducible exact trivial) | (with_reducible exact u8_range _) | (with_reducible exact sat_range _ _) | omega | (constructor <;> omega) | (simp only [List.length_map]; omega) | (unfold maxLen at *; omega) | (simp <;> omega) | (unfold maxLen; simp <;> omega)); (first | (with_reducible exact hv_chr) | ((with_reducible apply hv_row); (first | exact nat_add_2 _ | exact nat_add_1 _ | exact nat_lit_0 | exact nat_lit_1 | exact rfl | exact (Int.toNat_of_nonneg (by omega)).symm); omega) | ((with_reducible apply hv_sat); (first | exact nat_add_2 _ | exact nat_add_1 _ | exact nat_lit_0 | exact nat_lit_1 | exact rfl | exact (Int.toNat_of_nonneg (by omega)).symm); omega) | ((with_reducible apply hv_ext); (first | exact nat_add_2 _ | exact nat_add_1 _ | exact nat_lit_0 | exact nat_lit_1 | exact rfl | exact (Int.toNat_of_nonneg (by omega)).symm); (first | exact nat_add_2 _ | exact nat_add_1 _ | exact nat_lit_0 | exact nat_lit_1 | exact rfl | exact (Int.toNat_of_nonneg (by omega)).symm)) | (with_reducible exact rfl)); exact rfl; exact rfl; exact rfl; exact rfl)
    | (apply dt_skipD; exact rfl; exact rfl; exact rfl)
    | (apply dt_skip0; exact rfl; exact rfl)
    | (apply dt_set; exact rfl; exact rfl; (first | (with_reducible exact trivial) | (with_reducible exact u8_range _) | (with_reducible exact sat_range _ _) | omega | (constructor <;> omega) | (simp only [List.length_map]; omega) | (unfold maxLen at *; omega) | (simp <;> omega) | (unfold maxLen; simp <;> omega)); exact rfl; exact rfl; exact rfl; exact rfl)
    | (apply dt_new; exact rfl; exact rfl; exact rfl; (first | (with_reducible exact trivial) | (with_reducible exact u8_range _) | (with_reducible exact sat_range _ _) | omega | (constructor <;> omega) | (simp only [List.length_map]; omega) | (unfold maxLen at *; omega) | (simp <;> omega) | (unfold maxLen; simp <;> omega)); exact rfl; exact rfl; exact rfl; exact rfl; exact rfl)
    | (apply dt_trade; exact rfl; exact rfl; exact rfl; (first | (with_reducible exact trivial) | (with_reducible exact u8_range _) | (with_reducible exact sat_range _ _) | omega | (constructor <;> omega) | (simp only [List.length_map]; omega) | (unfold maxLen at *; omega) | (simp <;> omega) | (unfold maxLen; simp <;> omega)); exact rfl; exact rfl; exact rfl; exact rfl; exact rfl; exact rfl)
    | (apply dt_nil0; exact rfl; exact rfl; exact rfl; exact rfl)
    | (apply dt_nil; exact rfl)
    | apply dw_seq2
    | apply ds_region
    | (apply dw_any; kernel_rfl; kernel_rfl; exact rfl)
    | apply dw_block
    | apply dw_skip
    | apply dw_exit
    | apply dw_ret
    | (apply dw_condT; exact rfl)
    | (apply dw_condF; exact rfl)
    | apply thenD_n
    | apply thenD_e
    | apply thenD_r
    | apply inB_n
    | apply inB_r
    | (apply inB_e; exact rfl)
    | (apply inB_x; exact rfl)
    | (apply ds_newC; exact rfl; (first | (with_reducible exact trivial) | (with_reducible exact u8_range _) | (with_reducible exact sat_range _ _) | omega | (constructor <;> omega) | (simp only [List.length_map]; omega) | (unfold maxLen at *; omega) | (simp <;> omega) | (unfold maxLen; simp <;> omega)); exact rfl; exact rfl; exact rfl)
    | (apply ds_setC; exact rfl; exact rfl; exact rfl; exact rfl)
    | (apply ds_bsC; exact rfl; exact rfl; exact rfl; exact rfl)
    | (apply ds_tradeC; exact rfl; (first | (with_reducible exact trivial) | (with_reducible exact u8_range _) | (with_reducible exact sat_range _ _) | omega | (constructor <;> omega) | (simp only [List.length_map]; omega) | (unfold maxLen at *; omega) | (simp <;> omega) | (unfold maxLen; simp <;> omega)); exact rfl; exact rfl; exact rfl; exact rfl))
    have hj : j < pairT.length := by omega
    refine ds_callVO id (begins_fn s i hi pairT[j]) rfl rfl rfl rfl rfl rfl ⟨rfl, rfl, trivial⟩ rfl rfl rfl rfl rfl rfl ?_ ?_
    · rintro k2 r H2 ⟨rfl, rfl, rfl⟩
      exact ⟨rfl, rfl⟩
    rintro k2 r H2 ⟨rfl, rfl, rfl⟩
    repeat' (first
    | (apply ds_evC; exact rfl; (first | (with_reducible exact trivial) | (with_reducible exact u8_range _) | (with_reducible exact sat_range _ _) | omega | (constructor <;> omega) | (simp only [List.length_map]; omega) | (unfold maxLen at *; omega) | (simp <;> omega) | (unfold maxLen; simp <;> omega)); (first | (with_reducible exact hv_chr) | ((with_reducible apply hv_row); (first | exact nat_add_2 _ | exact nat_add_1 _ | exact nat_lit_0 | exact nat_lit_1 | exact rfl | exact (Int.toNat_of_nonneg (by omega)).symm); omega) | ((with_reducible apply hv_sat); (first | exact nat_add_2 _ | exact nat_add_1 _ | exact nat_lit_0 | exact nat_lit_1 | exact rfl | exact (Int.toNat_of_nonneg (by omega)).symm); omega) | ((with_reducible apply hv_ext); (first | exact nat_add_2 _ | exact nat_add_1 _ | exact nat_lit_0 | exact nat_lit_1 | exact rfl | exact (Int.toNat_of_nonneg (by omega)).symm); (first | exact nat_add_2 _ | exact nat_add_1 _ | exact nat_lit_0 | exact nat_lit_1 | exact rfl | exact (Int.toNat_of_nonneg (by omega)).symm)) | (with_reducible exact rfl)); exact rfl; exact rfl; exact rfl)
    | (apply ds_skip; exact rfl; exact rfl)
    | (apply ds_skip0; exact rfl)
    | apply ds_nil
    | (apply dt_ev; exact rfl; exact rfl; (first | (with_reducible exact trivial) | (with_reducible exact u8_range _) | (with_reducible exact sat_range _ _) | omega | (constructor <;> omega) | (simp only [List.length_map]; omega) | (unfold maxLen at *; omega) | (simp <;> omega) | (unfold maxLen; simp <;> omega)); (first | (with_reducible exact hv_chr) | ((with_reducible apply hv_row); (first | exact nat_add_2 _ | exact nat_add_1 _ | exact nat_lit_0 | exact nat_lit_1 | exact rfl | exact (Int.toNat_of_nonneg (by omega)).symm); omega) | ((with_reducible apply hv_sat); (first | exact nat_add_2 _ | exact nat_add_1 _ | exact nat_lit_0 | exact nat_lit_1 | exact rfl | exact (Int.toNat_of_nonneg (by omega)).symm); omega) | ((with_reducible apply hv_ext); (first | exact nat_add_2 _ | exact nat_add_1 _ | exact nat_lit_0 | exact nat_lit_1 | exact rfl | exact (Int.toNat_of_nonneg (by omega)).symm); (first | exact nat_add_2 _ | exact nat_add_1 _ | exact nat_lit_0 | exact nat_lit_1 | exact rfl | exact (Int.toNat_of_nonneg (by omega)).symm)) | (with_reducible exact rfl)); exact rfl; exact rfl; exact rfl; exact rfl)
    | (apply dt_skipD; exact rfl; exact rfl; exact rfl)
    | (apply dt_skip0; exact rfl; exact rfl)
    | (apply dt_set; exact rfl; exact rfl; (first | (with_reducible exact trivial) | (with_reducible exact u8_range _) | (with_reducible exact sat_range _ _) | omega | (constructor <;> omega) | (simp only [List.length_map]; omega) | (unfold maxLen at *; omega) | (simp <;> omega) | (unfold maxLen; simp <;> omega)); exact rfl; exact rfl; exact rfl; exact rfl)
    | (apply dt_new; exact rfl; exact rfl; exact rfl; (first | (with_reducible exact trivial) | (with_reducible exact u8_range _) | (with_reducible exact sat_range _ _) | omega | (constructor <;> omega) | (simp only [List.length_map]; omega) | (unfold maxLen at *; omega) | (simp <;> omega) | (unfold maxLen; simp <;> omega)); exact rfl; exact rfl; exact rfl; exact rfl; exact rfl)
    | (apply dt_trade; exact rfl; exact rfl; exact rfl; (first | (with_reducible exact trivial) | (with_reducible exact u8_range _) | (with_reducible exact sat_range _ _) | omega | (constructor <;> omega) | (simp only [List.length_map]; omega) | (unfold maxLen at *; omega) | (simp <;> omega) | (unfold maxLen; simp <;> omega)); exact rfl; exact rfl; exact rfl; exact rfl; exact rfl; exact rfl)
    | (apply dt_nil0; exact rfl; exact rfl; exact rfl; exact rfl)
    | (apply dt_nil; exact rfl)
    | apply dw_seq2
    | apply ds_region
    | (apply dw_any; kernel_rfl; kernel_rfl; exact rfl)
    | apply dw_block
    | apply dw_skip
    | apply dw_exit
    | apply dw_ret
    | (apply dw_condT; exact rfl)
    | (apply dw_condF; exact rfl)
    | apply thenD_n
    | apply thenD_e
    | apply thenD_r
    | apply inB_n
    | apply inB_r
    | (apply inB_e; exact rfl)
    | (apply inB_x; exact rfl)
    | (apply ds_newC; exact rfl; (first | (with_reducible exact trivial) | (with_reducible exact u8_range _) | (with_reducible exact sat_range _ _) | omega | (constructor <;> omega) | (simp only [List.length_map]; omega) | (unfold maxLen at *; omega) | (simp <;> omega) | (unfold maxLen; simp <;> omega)); exact rfl; exact rfl; exact rfl)
    | (apply ds_setC; exact rfl; exact rfl; exact rfl; exact rfl)
    | (apply ds_bsC; exact rfl; exact rfl; exact rfl; exact rfl)
    | (apply ds_tradeC; exact rfl; (first | (with_reducible exact trivial) | (with_reducible exact u8_range _) | (with_reducible exact sat_range _ _) | omega | (constructor <;> omega) | (simp only [List.length_map]; omega) | (unfold maxLen at *; omega) | (simp <;> omega) | (unfold maxLen; simp <;> omega)); exact rfl; exact rfl; exact rfl; exact rfl))
    refine dw_cond rfl (fun hh => ?_) (fun hh => ?_)
    · repeat' (first
    | (apply ds_evC; exact rfl; (first | (with_reducible exact trivial) | (with_reducible exact u8_range _) | (with_reducible exact sat_range _ _) | omega | (constructor <;> omega) | (simp only [List.length_map]; omega) | (unfold maxLen at *; omega) | (simp <;> omega) | (unfold maxLen; simp <;> omega)); (first | (with_reducible exact hv_chr) | ((with_reducible apply hv_row); (first | exact nat_add_2 _ | exact nat_add_1 _ | exact nat_lit_0 | exact nat_lit_1 | exact rfl | exact (Int.toNat_of_nonneg (by omega)).symm); omega) | ((with_reducible apply hv_sat); (first | exact nat_add_2 _ | exact nat_add_1 _ | exact nat_lit_0 | exact nat_lit_1 | exact rfl | exact (Int.toNat_of_nonneg (by omega)).symm); omega) | ((with_reducible apply hv_ext); (first | exact nat_add_2 _ | exact nat_add_1 _ | exact nat_lit_0 | exact nat_lit_1 | exact rfl | exact (Int.toNat_of_nonneg (by omega)).symm); (first | exact nat_add_2 _ | exact nat_add_1 _ | exact nat_lit_0 | exact nat_lit_1 | exact rfl | exact (Int.toNat_of_nonneg (by omega)).symm)) | (with_reducible exact rfl)); exact rfl; exact rfl; exact rfl)
    | (apply ds_skip; exact rfl; exact rfl)
    | (apply ds_skip0; exact rfl)
    | apply ds_nil
    | (apply dt_ev; exact rfl; exact rfl; (first | (with_reducible exact trivial) | (with_reducible exact u8_range _) | (with_reducible exact sat_range _ _) | omega | (constructor <;> omega) | (simp only [List.length_map]; omega) | (unfold maxLen at *; omega) | (simp <;> omega) | (unfold maxLen; simp <;> omega)); (first | (with_reducible exact hv_chr) | ((with_reducible apply hv_row); (first | exact nat_add_2 _ | exact nat_add_1 _ | exact nat_lit_0 | exact nat_lit_1 | exact rfl | exact (Int.toNat_of_nonneg (by omega)).symm); omega) | ((with_reducible apply hv_sat); (first | exact nat_add_2 _ | exact nat_add_1 _ | exact nat_lit_0 | exact nat_lit_1 | exact rfl | exact (Int.toNat_of_nonneg (by omega)).symm); omega) | ((with_reducible apply hv_ext); (first | exact nat_add_2 _ | exact nat_add_1 _ | exact nat_lit_0 | exact nat_lit_1 | exact rfl | exact (Int.toNat_of_nonneg (by omega)).symm); (first | exact nat_add_2 _ | exact nat_add_1 _ | exact nat_lit_0 | exact nat_lit_1 | exact rfl | exact (Int.toNat_of_nonneg (by omega)).symm)) | (with_reducible exact rfl)); exact rfl; exact rfl; exact rfl; exact rfl)
    | (apply dt_skipD; exact rfl; exact rfl; exact rfl)
    | (apply dt_skip0; exact rfl; exact rfl)
    | (apply dt_set; exact rfl; exact rfl; (first | (with_reducible exact trivial) | (with_reducible exact u8_range _) | (with_reducible exact sat_range _ _) | omega | (constructor <;> omega) | (simp only [List.length_map]; omega) | (unfold maxLen at *; omega) | (simp <;> omega) | (unfold maxLen; simp <;> omega)); exact rfl; exact rfl; exact rfl; exact rfl)
    | (apply dt_new; exact rfl; exact rfl; exact rfl; (first | (with_reducible exact trivial) | (with_reducible exact u8_range _) | (with_reducible exact sat_range _ _) | omega | (constructor <;> omega) | (simp only [List.length_map]; omega) | (unfold maxLen at *; omega) | (simp <;> omega) | (unfold maxLen; simp <;> omega)); exact rfl; exact rfl; exact rfl; exact rfl; exact rfl)
    | (apply dt_trade; exact rfl; exact rfl; exact rfl; (first | (with_reducible exact trivial) | (with_reducible exact u8_range _) | (with_reducible exact sat_range _ _) | omega | (constructor <;> omega) | (simp only [List.length_map]; omega) | (unfold maxLen at *; omega) | (simp <;> omega) | (unfold maxLen; simp <;> omega)); exact rfl; exact rfl; exact rfl; exact rfl; exact rfl; exact rfl)
    | (apply dt_nil0; exact rfl; exact rfl; exact rfl; exact rfl)
    | (apply dt_nil; exact rfl)
    | apply dw_seq2
    | apply ds_region
    | (apply dw_any; kernel_rfl; kernel_rfl; exact rfl)
    | apply dw_block
    | apply dw_skip
    | apply dw_exit
    | apply dw_ret
    | (apply dw_condT; exact rfl)
    | (apply dw_condF; exact rfl)
    | apply thenD_n
    | apply thenD_e
    | apply thenD_r
    | apply inB_n
    | apply inB_r
    | (apply inB_e; exact rfl)
    | (apply inB_x; exact rfl)
    | (apply ds_newC; exact rfl; (first | (with_reducible exact trivial) | (with_reducible exact u8_range _) | (with_reducible exact sat_range _ _) | omega | (constructor <;> omega) | (simp only [List.length_map]; omega) | (unfold maxLen at *; omega) | (simp <;> omega) | (unfold maxLen; simp <;> omega)); exact rfl; exact rfl; exact rfl)
    | (apply ds_setC; exact rfl; exact rfl; exact rfl; exact rfl)
    | (apply ds_bsC; exact rfl; exact rfl; exact rfl; exact rfl)
    | (apply ds_tradeC; exact rfl; (first | (with_reducible exact trivial) | (with_reducible exact u8_range _) | (with_reducible exact sat_range _ _) | omega | (constructor <;> omega) | (simp only [List.length_map]; omega) | (unfold maxLen at *; omega) | (simp <;> omega) | (unfold maxLen; simp <;> omega)); exact rfl; exact rfl; exact rfl; exact rfl))
      refine ⟨.inl rfl, _, rfl, ?_⟩
      rw [pairAt_hit _ j hj h2 hh]
      exact ⟨rfl, rfl⟩
    · repeat' (first
    | (apply ds_evC; exact rfl; (first | (with_reducible exact trivial) | (with_reducible exact u8_range _) | (with_reducible exact sat_range _ _) | omega | (constructor <;> omega) | (simp only [List.length_map]; omega) | (unfold maxLen at *; omega) | (simp <;> omega) | (unfold maxLen; simp <;> omega)); (first | (with_reducible exact hv_chr) | ((with_reducible apply hv_row); (first | exact nat_add_2 _ | exact nat_add_1 _ | exact nat_lit_0 | exact nat_lit_1 | exact rfl | exact (Int.toNat_of_nonneg (by omega)).symm); omega) | ((with_reducible apply hv_sat); (first | exact nat_add_2 _ | exact nat_add_1 _ | exact nat_lit_0 | exact nat_lit_1 | exact rfl | exact (Int.toNat_of_nonneg (by omega)).symm); omega) | ((with_reducible apply hv_ext); (first | exact nat_add_2 _ | exact nat_add_1 _ | exact nat_lit_0 | exact nat_lit_1 | exact rfl | exact (Int.toNat_of_nonneg (by omega)).symm); (first | exact nat_add_2 _ | exact nat_add_1 _ | exact nat_lit_0 | exact nat_lit_1 | exact rfl | exact (Int.toNat_of_nonneg (by omega)).symm)) | (with_reducible exact rfl)); exact rfl; exact rfl; exact rfl)
    | (apply ds_skip; exact rfl; exact rfl)
    | (apply ds_skip0; exact rfl)
    | apply ds_nil
    | (apply dt_ev; exact rfl; exact rfl; (first | (with_reducible exact trivial) | (with_reducible exact u8_range _) | (with_reducible exact sat_range _ _) | omega | (constructor <;> omega) | (simp only [List.length_map]; omega) | (unfold maxLen at *; omega) | (simp <;> omega) | (unfold maxLen; simp <;> omega)); (first | (with_reducible exact hv_chr) | ((with_reducible apply hv_row); (first | exact nat_add_2 _ | exact nat_add_1 _ | exact nat_lit_0 | exact nat_lit_1 | exact rfl | exact (Int.toNat_of_nonneg (by omega)).symm); omega) | ((with_reducible apply hv_sat); (first | exact nat_add_2 _ | exact nat_add_1 _ | exact nat_lit_0 | exact nat_lit_1 | exact rfl | exact (Int.toNat_of_nonneg (by omega)).symm); omega) | ((with_reducible apply hv_ext); (first | exact nat_add_2 _ | exact nat_add_1 _ | exact nat_lit_0 | exact nat_lit_1 | exact rfl | exact (Int.toNat_of_nonneg (by omega)).symm); (first | exact nat_add_2 _ | exact nat_add_1 _ | exact nat_lit_0 | exact nat_lit_1 | exact rfl | exact (Int.toNat_of_nonneg (by omega)).symm)) | (with_reducible exact rfl)); exact rfl; exact rfl; exact rfl; exact rfl)
    | (apply dt_skipD; exact rfl; exact rfl; exact rfl)
    | (apply dt_skip0; exact rfl; exact rfl)
    | (apply dt_set; exact rfl; exact rfl; (first | (with_reducible exact trivial) | (with_reducible exact u8_range _) | (with_reducible exact sat_range _ _) | omega | (constructor <;> omega) | (simp only [List.length_map]; omega) | (unfold maxLen at *; omega) | (simp <;> omega) | (unfold maxLen; simp <;> omega)); exact rfl; exact rfl; exact rfl; exact rfl)
    | (apply dt_new; exact rfl; exact rfl; exact rfl; (first | (with_reducible exact trivial) | (with_reducible exact u8_range _) | (with_reducible exact sat_range _ _) | omega | (constructor <;> omega) | (simp only [List.length_map]; omega) | (unfold maxLen at *; omega) | (simp <;> omega) | (unfold maxLen; simp <;> omega)); exact rfl; exact rfl; exact rfl; exact rfl; exact rfl)
    | (apply dt_trade; exact rfl; exact rfl; exact rfl; (first | (with_reducible exact trivial) | (with_reducible exact u8_range _) | (with_reducible exact sat_range _ _) | omega | (constructor <;> omega) | (simp only [List.length_map]; omega) | (unfold maxLen at *; omega) | (simp <;> omega) | (unfold maxLen; simp <;> omega)); exact rfl; exact rfl; exact rfl; exact rfl; exact rfl; exact rfl)
    | (apply dt_nil0; exact rfl; exact rfl; exact rfl; exact rfl)
    | (apply dt_nil; exact rfl)
    | apply dw_seq2
    | apply ds_region
    | (apply dw_any; kernel_rfl; kernel_rfl; exact rfl)
    | apply dw_block
    | apply dw_skip
    | apply dw_exit
    | apply dw_ret
    | (apply dw_condT; exact rfl)
    | (apply dw_condF; exact rfl)
    | apply thenD_n
    | apply thenD_e
    | apply thenD_r
    | apply inB_n
    | apply inB_r
    | (apply inB_e; exact rfl)
    | (apply inB_x; exact rfl)
    | (apply ds_newC; exact rfl; (first | (with_reducible exact trivial) | (with_reducible exact u8_range _) | (with_reducible exact sat_range _ _) | omega | (constructor <;> omega) | (simp only [List.length_map]; omega) | (unfold maxLen at *; omega) | (simp <;> omega) | (unfold maxLen; simp <;> omega)); exact rfl; exact rfl; exact rfl)
    | (apply ds_setC; exact rfl; exact rfl; exact rfl; exact rfl)
    | (apply ds_bsC; exact rfl; exact rfl; exact rfl; exact rfl)
    | (apply ds_tradeC; exact rfl; (first | (with_reducible exact trivial) | (with_reducible exact u8_range _) | (with_reducible exact sat_range _ _) | omega | (constructor <;> omega) | (simp only [List.length_map]; omega) | (unfold maxLen at *; omega) | (simp <;> omega) | (unfold maxLen; simp <;> omega)); exact rfl; exact rfl; exact rfl; exact rfl))
      refine ⟨j + 1, ⟨by omega, fun m hm hm3 => ?_⟩, ent_ren id ⟨rfl, rfl, rfl, rfl, trivial⟩ ⟨rfl, rfl, trivial⟩ rfl rfl rfl rfl rfl rfl, by omega⟩
      by_cases e : m = j
      · subst e; exact hh
      · exact h2 m (by omega) hm3
  · repeat' (first
    | (apply ds_evC; exact rfl; (first | (with_reducible exact trivial) | (with_reducible exact u8_range _) | (with_reducible exact sat_range _ _) | omega | (constructor <;> omega) | (simp only [List.length_map]; omega) | (unfold maxLen at *; omega) | (simp <;> omega) | (unfold maxLen; simp <;> omega)); (first | (with_reducible exact hv_chr) | ((with_reducible apply hv_row); (first | exact nat_add_2 _ | exact nat_add_1 _ | exact nat_lit_0 | exact nat_lit_1 | exact rfl | exact (Int.toNat_of_nonneg (by omega)).symm); omega) | ((with_reducible apply hv_sat); (first | exact nat_add_2 _ | exact nat_add_1 _ | exact nat_lit_0 | exact nat_lit_1 | exact rfl | exact (Int.toNat_of_nonneg (by omega)).symm); omega) | ((with_reducible apply hv_ext); (first | exact nat_add_2 _ | exact nat_add_1 _ | exact nat_lit_0 | exact nat_lit_1 | exact rfl | exact (Int.toNat_of_nonneg (by omega)).symm); (first | exact nat_add_2 _ | exact nat_add_1 _ | exact nat_lit_0 | exact nat_lit_1 | exact rfl | exact (Int.toNat_of_nonneg (by omega)).symm)) | (with_reducible exact rfl)); exact rfl; exact rfl; exact rfl)
    | (apply ds_skip; exact rfl; exact rfl)
    | (apply ds_skip0; exact rfl)
    | apply ds_nil
    | (apply dt_ev; exact rfl; exact rfl; (first | (with_reducible exact trivial) | (with_reducible exact u8_range _) | (with_reducible exact sat_range _ _) | omega | (constructor <;> omega) | (simp only [List.length_map]; omega) | (unfold maxLen at *; omega) | (simp <;> omega) | (unfold maxLen; simp <;> omega)); (first | (with_reducible exact hv_chr) | ((with_reducible apply hv_row); (first | exact nat_add_2 _ | exact nat_add_1 _ | exact nat_lit_0 | exact nat_lit_1 | exact rfl | exact (Int.toNat_of_nonneg (by omega)).symm); omega) | ((with_reducible apply hv_sat); (first | exact nat_add_2 _ | exact nat_add_1 _ | exact nat_lit_0 | exact nat_lit_1 | exact rfl | exact (Int.toNat_of_nonneg (by omega)).symm); omega) | ((with_reducible apply hv_ext); (first | exact nat_add_2 _ | exact nat_add_1 _ | exact nat_lit_0 | exact nat_lit_1 | exact rfl | exact (Int.toNat_of_nonneg (by omega)).symm); (first | exact nat_add_2 _ | exact nat_add_1 _ | exact nat_lit_0 | exact nat_lit_1 | exact rfl | exact (Int.toNat_of_nonneg (by omega)).symm)) | (with_reducible exact rfl)); exact rfl; exact rfl; exact rfl; exact rfl)
    | (apply dt_skipD; exact rfl; exact rfl; exact rfl)
    | (apply dt_skip0; exact rfl; exact rfl)
    | (apply dt_set; exact rfl; exact rfl; (first | (with_reducible exact trivial) | (with_reducible exact u8_range _) | (with_reducible exact sat_range _ _) | omega | (constructor <;> omega) | (simp only [List.length_map]; omega) | (unfold maxLen at *; omega) | (simp <;> omega) | (unfold maxLen; simp <;> omega)); exact rfl; exact rfl; exact rfl; exact rfl)
    | (apply dt_new; exact rfl; exact rfl; exact rfl; (first | (with_reducible exact trivial) | (with_reducible exact u8_range _) | (with_reducible exact sat_range _ _) | omega | (constructor <;> omega) | (simp only [List.length_map]; omega) | (unfold maxLen at *; omega) | (simp <;> omega) | (unfold maxLen; simp <;> omega)); exact rfl; exact rfl; exact rfl; exact rfl; exact rfl)
    | (apply dt_trade; exact rfl; exact rfl; exact rfl; (first | (with_reducible exact trivial) | (with_reducible exact u8_range _) | (with_reducible exact sat_range _ _) | omega | (constructor <;> omega) | (simp only [List.length_map]; omega) | (unfold maxLen at *; omega) | (simp <;> omega) | (unfold maxLen; simp <;> omega)); exact rfl; exact rfl; exact rfl; exact rfl; exact rfl; exact rfl)
    | (apply dt_nil0; exact rfl; exact rfl; exact rfl; exact rfl)
    | (apply dt_nil; exact rfl)
    | apply dw_seq2
    | apply ds_region
    | (apply dw_any; kernel_rfl; kernel_rfl; exact rfl)
    | apply dw_block
    | apply dw_skip
    | apply dw_exit
    | apply dw_ret
    | (apply dw_condT; exact rfl)
    | (apply dw_condF; exact rfl)
    | apply thenD_n
    | apply thenD_e
    | apply thenD_r
    | apply inB_n
    | apply inB_r
    | (apply inB_e; exact rfl)
    | (apply inB_x; exact rfl)
    | (apply ds_newC; exact rfl; (first | (with_reducible exact trivial) | (with_reducible exact u8_range _) | (with_reducible exact sat_range _ _) | omega | (constructor <;> omega) | (simp only [List.length_map]; omega) | (unfold maxLen at *; omega) | (simp <;> omega) | (unfold maxLen; simp <;> omega)); exact rfl; exact rfl; exact rfl)
    | (apply ds_setC; exact rfl; exact rfl; exact rfl; exact rfl)
    | (apply ds_bsC; exact rfl; exact rfl; exact rfl; exact rfl)
    | (apply ds_tradeC; exact rfl; (first | (with_reducible exact trivial) | (with_reducible exact u8_range _) | (with_reducible exact sat_range _ _) | omega | (constructor <;> omega) | (simp only [List.length_map]; omega) | (unfold maxLen at *; omega) | (simp <;> omega) | (unfold maxLen; simp <;> omega)); exact rfl; exact rfl; exact rfl; exact rfl))
    refine ⟨.inl rfl, _, rfl, ?_, rfl⟩
    rw [pairAt_none _ (fun m hm hm3 => h2 m (by omega) hm3)]
    rfl
set_option maxHeartbeats 8000000 in
theorem containsFunc_fn (s : ByteArray) (i : Nat) (hi : i ≤ s.size) :
    FnS 141 [.d (.slice 1 (pairT.map fun t => [.str t])), .fn 143 [.loc 1 0]] 2 2 (scH2 s i) (fun _ r H2 => r = .d (.bool (decide (pairAt (s.extract i s.size) ≥ 0))) ∧ H2 = scH2 s i) := by
  refine fn_enter _ Try.func141 rfl rfl (by kernel_rfl) ?_
  intro O w0 E0 β0
  repeat' (first
    | (apply ds_evC; exact rfl; (first | (with_reducible exact trivial) | (with_reducible exact u8_range _) | (with_reducible exact sat_range _ _) | omega | (constructor <;> omega) | (simp only [List.length_map]; omega) | (unfold maxLen at *; omega) | (simp <;> omega) | (unfold maxLen; simp <;> omega)); (first | (with_reducible exact hv_chr) | ((with_reducible apply hv_row); (first | exact nat_add_2 _ | exact nat_add_1 _ | exact nat_lit_0 | exact nat_lit_1 | exact rfl | exact (Int.toNat_of_nonneg (by omega)).symm); omega) | ((with_reducible apply hv_sat); (first | exact nat_add_2 _ | exact nat_add_1 _ | exact nat_lit_0 | exact nat_lit_1 | exact rfl | exact (Int.toNat_of_nonneg (by omega)).symm); omega) | ((with_reducible apply hv_ext); (first | exact nat_add_2 _ | exact nat_add_1 _ | exact nat_lit_0 | exact nat_lit_1 | exact rfl | exact (Int.toNat_of_nonneg (by omega)).symm); (first | exact nat_add_2 _ | exact nat_add_1 _ | exact nat_lit_0 | exact nat_lit_1 | exact rfl | exact (Int.toNat_of_nonneg (by omega)).symm)) | (with_reducible exact rfl)); exact rfl; exact rfl; exact rfl)
    | (apply ds_skip; exact rfl; exact rfl)
    | (apply ds_skip0; exact rfl)
    | apply ds_nil
    | (apply dt_ev; exact rfl; exact rfl; (first | (with_reducible exact trivial) | (with_reducible exact u8_range _) | (with_reducible exact sat_range _ _) | omega | (constructor <;> omega) | (simp only [List.length_map]; omega) | (unfold maxLen at *; omega) | (simp <;> omega) | (unfold maxLen; simp <;> omega)); (first | (with_reducible exact hv_chr) | ((with_reducible apply hv_row); (first | exact nat_add_2 _ | exact nat_add_1 _ | exact nat_lit_0 | exact nat_lit_1 | exact rfl | exact (Int.toNat_of_nonneg (by omega)).symm); omega) | ((with_reducible apply hv_sat); (first | exact nat_add_2 _ | exact nat_add_1 _ | exact nat_lit_0 | exact nat_lit_1 | exact rfl | exact (Int.toNat_of_nonneg (by omega)).symm); omega) | ((with_reducible apply hv_ext); (first | exact nat_add_2 _ | exact nat_add_1 _ | exact nat_lit_0 | exact nat_lit_1 | exact rfl | exact (Int.toNat_of_nonneg (by omega)).symm); (first | exact nat_add_2 _ | exact nat_add_1 _ | exact nat_lit_0 | exact nat_lit_1 | exact rfl | exact (Int.toNat_of_nonneg (by omega)).symm)) | (with_reducible exact rfl)); exact rfl; exact rfl; exact rfl; exact rfl)
    | (apply dt_skipD; exact rfl; exact rfl; exact rfl)
    | (apply dt_skip0; exact rfl; exact rfl)
    | (apply dt_set; exact rfl; exact rfl; (first | (with_reducible exact trivial) | (with_reducible exact u8_range _) | (with_reducible exact sat_range _ _) | omega | (constructor <;> omega) | (simp only [List.length_map]; omega) | (unfold maxLen at *; omega) | (simp <;> omega) | (unfold maxLen; simp <;> omega)); exact rfl; exact rfl; exact rfl; exact rfl)
    | (apply dt_new; exact rfl; exact rfl; exact rfl; (first | (with_reducible exact trivial) | (with_reducible exact u8_range _) | (with_reducible exact sat_range _ _) | omega | (constructor <;> omega) | (simp only [List.length_map]; omega) | (unfold maxLen at *; omega) | (simp <;> omega) | (unfold maxLen; simp <;> omega)); exact rfl; exact rfl; exact rfl; exact rfl; exact rfl)
    | (apply dt_trade; exact rfl; exact rfl; exact rfl; (first | (with_reducible exact trivial) | (with_reducible exact u8_range _) | (with_reducible exact sat_range _ _) | omega | (constructor <;> omega) | (simp only [List.length_map]; omega) | (unfold maxLen at *; omega) | (simp <;> omega) | (unfold maxLen; simp <;> omega)); exact rfl; exact rfl; exact rfl; exact rfl; exact rfl; exact rfl)
    | (apply dt_nil0; exact rfl; exact rfl; exact rfl; exact rfl)
    | (apply dt_nil; exact rfl)
    | apply dw_seq2
    | apply ds_region
    | (apply dw_any; kernel_rfl; kernel_rfl; exact rfl)
    | apply dw_block
    | apply dw_skip
    | apply dw_exit
    | apply dw_ret
    | (apply dw_condT; exact rfl)
    | (apply dw_condF; exact rfl)
    | apply thenD_n
    | apply thenD_e
    | apply thenD_r
    | apply inB_n
    | apply inB_r
    | (apply inB_e; exact rfl)
    | (apply inB_x; exact rfl)
    | (apply ds_newC; exact rfl; (first | (with_reducible exact trivial) | (with_reducible exact u8_range _) | (with_reducible exact sat_range _ _) | omega | (constructor <;> omega) | (simp only [List.length_map]; omega) | (unfold maxLen at *; omega) | (simp <;> omega) | (unfold maxLen; simp <;> omega)); exact rfl; exact rfl; exact rfl)
    | (apply ds_setC; exact rfl; exact rfl; exact rfl; exact rfl)
    | (apply ds_bsC; exact rfl; exact rfl; exact rfl; exact rfl)
    | (apply ds_tradeC; exact rfl; (first | (with_reducible exact trivial) | (with_reducible exact u8_range _) | (with_reducible exact sat_range _ _) | omega | (constructor <;> omega) | (simp only [List.length_map]; omega) | (unfold maxLen at *; omega) | (simp <;> omega) | (unfold maxLen; simp <;> omega)); exact rfl; exact rfl; exact rfl; exact rfl))
  refine ds_callO id (indexFunc_fn s i hi) rfl rfl rfl rfl ⟨rfl, rfl, trivial⟩ rfl rfl rfl rfl rfl rfl ?_ ?_
  · rintro k2 r H2 ⟨rfl, rfl⟩
    exact ⟨rfl, rfl⟩
  rintro k2 r H2 ⟨rfl, rfl⟩
  repeat' (first
    | (apply ds_evC; exact rfl; (first | (with_reducible exact trivial) | (with_reducible exact u8_range _) | (with_reducible exact sat_range _ _) | omega | (constructor <;> omega) | (simp only [List.length_map]; omega) | (unfold maxLen at *; omega) | (simp <;> omega) | (unfold maxLen; simp <;> omega)); (first | (with_reducible exact hv_chr) | ((with_reducible apply hv_row); (first | exact nat_add_2 _ | exact nat_add_1 _ | exact nat_lit_0 | exact nat_lit_1 | exact rfl | exact (Int.toNat_of_nonneg (by omega)).symm); omega) | ((with_reducible apply hv_sat); (first | exact nat_add_2 _ | exact nat_add_1 _ | exact nat_lit_0 | exact nat_lit_1 | exact rfl | exact (Int.toNat_of_nonneg (by omega)).symm); omega) | ((with_reducible apply hv_ext); (first | exact nat_add_2 _ | exact nat_add_1 _ | exact nat_lit_0 | exact nat_lit_1 | exact rfl | exact (Int.toNat_of_nonneg (by omega)).symm); (first | exact nat_add_2 _ | exact nat_add_1 _ | exact nat_lit_0 | exact nat_lit_1 | exact rfl | exact (Int.toNat_of_nonneg (by omega)).symm)) | (with_reducible exact rfl)); exact rfl; exact rfl; exact rfl)
    | (apply ds_skip; exact rfl; exact rfl)
    | (apply ds_skip0; exact rfl)
    | apply ds_nil
    | (apply dt_ev; exact rfl; exact rfl; (first | (with_reducible exact trivial) | (with_reducible exact u8_range _) | (with_reducible exact sat_range _ _) | omega | (constructor <;> omega) | (simp only [List.length_map]; omega) | (unfold maxLen at *; omega) | (simp <;> omega) | (unfold maxLen; simp <;> omega)); (first | (with_reducible exact hv_chr) | ((with_reducible apply hv_row); (first | exact nat_add_2 _ | exact nat_add_1 _ | exact nat_lit_0 | exact nat_lit_1 | exact rfl | exact (Int.toNat_of_nonneg (by omega)).symm); omega) | ((with_reducible apply hv_sat); (first | exact nat_add_2 _ | exact nat_add_1 _ | exact nat_lit_0 | exact nat_lit_1 | exact rfl | exact (Int.toNat_of_nonneg (by omega)).symm); omega) | ((with_reducible apply hv_ext); (first | exact nat_add_2 _ | exact nat_add_1 _ | exact nat_lit_0 | exact nat_lit_1 | exact rfl | exact (Int.toNat_of_nonneg (by omega)).symm); (first | exact nat_add_2 _ | exact nat_add_1 _ | exact nat_lit_0 | exact nat_lit_1 | exact rfl | exact (Int.toNat_of_nonneg (by omega)).symm)) | (with_reducible exact rfl)); exact rfl; exact rfl; exact rfl; exact rfl)
    | (apply dt_skipD; exact rfl; exact rfl; exact rfl)
    | (apply dt_skip0; exact rfl; exact rfl)
    | (apply dt_set; exact rfl; exact rfl; (first | (with_reducible exact trivial) | (with_reducible exact u8_range _) | (with_reducible exact sat_range _ _) | omega | (constructor <;> omega) | (simp only [List.length_map]; omega) | (unfold maxLen at *; omega) | (simp <;> omega) | (unfold maxLen; simp <;> omega)); exact rfl; exact rfl; exact rfl; exact rfl)
    | (apply dt_new; exact rfl; exact rfl; exact rfl; (first | (with_reducible exact trivial) | (with_reducible exact u8_range _) | (with_reducible exact sat_range _ _) | omega | (constructor <;> omega) | (simp only [List.length_map]; omega) | (unfold maxLen at *; omega) | (simp <;> omega) | (unfold maxLen; simp <;> omega)); exact rfl; exact rfl; exact rfl; exact rfl; exact rfl)
    | (apply dt_trade; exact rfl; exact rfl; exact rfl; (first | (with_reducible exact trivial) | (with_reducible exact u8_range _) | (with_reducible exact sat_range _ _) | omega | (constructor <;> omega) | (simp only [List.length_map]; omega) | (unfold maxLen at *; omega) | (simp <;> omega) | (unfold maxLen; simp <;> omega)); exact rfl; exact rfl; exact rfl; exact rfl; exact rfl; exact rfl)
    | (apply dt_nil0; exact rfl; exact rfl; exact rfl; exact rfl)
    | (apply dt_nil; exact rfl)
    | apply dw_seq2
    | apply ds_region
    | (apply dw_any; kernel_rfl; kernel_rfl; exact rfl)
    | apply dw_block
    | apply dw_skip
    | apply dw_exit
    | apply dw_ret
    | (apply dw_condT; exact rfl)
    | (apply dw_condF; exact rfl)
    | apply thenD_n
    | apply thenD_e
    | apply thenD_r
    | apply inB_n
    | apply inB_r
    | (apply inB_e; exact rfl)
    | (apply inB_x; exact rfl)
    | (apply ds_newC; exact rfl; (first | (with_reducible exact trivial) | (with_reducible exact u8_range _) | (with_reducible exact sat_range _ _) | omega | (constructor <;> omega) | (simp only [List.length_map]; omega) | (unfold maxLen at *; omega) | (simp <;> omega) | (unfold maxLen; simp <;> omega)); exact rfl; exact rfl; exact rfl)
    | (apply ds_setC; exact rfl; exact rfl; exact rfl; exact rfl)
    | (apply ds_bsC; exact rfl; exact rfl; exact rfl; exact rfl)
    | (apply ds_tradeC; exact rfl; (first | (with_reducible exact trivial) | (with_reducible exact u8_range _) | (with_reducible exact sat_range _ _) | omega | (constructor <;> omega) | (simp only [List.length_map]; omega) | (unfold maxLen at *; omega) | (simp <;> omega) | (unfold maxLen; simp <;> omega)); exact rfl; exact rfl; exact rfl; exact rfl))
  exact ⟨.inl rfl, _, rfl, rfl, rfl⟩
end Go.Proofs.Ytapciiffpnociaa
