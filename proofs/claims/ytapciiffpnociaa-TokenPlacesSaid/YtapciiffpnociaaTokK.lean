/- token.Join answers what the plain words say. Condition: none. -/
import Derived.Test.YtapciiffpnociaaTokJ
namespace Go.Proofs.Ytapciiffpnociaa
open Go Go.RowKit
attribute [local irreducible] DW DS DL DQ Ev FnOk FnP thenD inBlockD DT

def joinW : List Tok → Nat
  | [] => 0
  | t :: l => 1 + t.text.size + joinW l
def tokOk (t : Tok) : Bool := oneS t.kind t.text
/-- Tokens joined: by the scanner; and what is wrong. -/
def joinS (l : List Tok) : ByteArray × Int := if l.all tokOk then (if 5001 < joinW l then (⟨#[]⟩, 2) else (joinB (l.map (·.text)) ⟨#[32]⟩, 0)) else (⟨#[]⟩, 1)
def encJoin (q : ByteArray × Int) : SV := .tup [.d (.str q.1), .d (.int .i64 q.2)]

theorem oneS_small {kind s} (h : oneS kind s = true) : s.size ≤ 5000 := by
  apply Decidable.byContradiction
  intro hn
  unfold oneS at h
  rw [scanS_big s (by omega)] at h
  cases h

theorem joinW_app : ∀ (l m : List Tok), joinW (l ++ m) = joinW l + joinW m
  | [], _ => by simp [joinW]
  | t :: l, m => by simp only [List.cons_append, joinW, joinW_app l m]; omega

theorem joinW_le : ∀ (l : List Tok), l.all tokOk = true → joinW l ≤ 5001 * l.length
  | [], _ => Nat.le_refl _
  | t :: l, h => by
    simp only [List.all_cons, Bool.and_eq_true] at h
    have h1 := oneS_small h.1
    have h2 := joinW_le l h.2
    simp only [joinW, List.length_cons]
    omega

theorem take_snoc {α : Type} (l : List α) (i : Nat) (h : i < l.length) : l.take (i + 1) = l.take i ++ [l[i]] := by
  rw [List.take_add_one]; simp [h]

theorem joinTail_len (sep : List UInt8) : ∀ (r : List ByteArray), (Lib.joinTail sep (r.map (·.data.toList))).length = (r.map fun x => sep.length + x.size).sum
  | [] => rfl
  | x :: r => by
    have ih := joinTail_len sep r
    have e : Lib.joinTail sep ((x :: r).map (·.data.toList)) = (sep ++ x.data.toList) ++ Lib.joinTail sep (r.map (·.data.toList)) := rfl
    have e2 : x.data.toList.length = x.size := Array.length_toList
    rw [e, List.length_append, List.length_append, ih, e2, List.map_cons, List.sum_cons]

theorem joinW_sum : ∀ (l : List Tok), joinW l = ((l.map (·.text)).map fun x => 1 + x.size).sum
  | [] => rfl
  | t :: l => by simp only [joinW, List.map_cons, List.sum_cons, joinW_sum l]

theorem joinB_size (l : List Tok) : (joinB (l.map (·.text)) ⟨#[32]⟩).size ≤ joinW l := by
  cases l with
  | nil => exact Nat.le_refl _
  | cons t l =>
    have h := joinTail_len [32] (l.map (·.text))
    have h2 := joinW_sum l
    have e2 : t.text.data.toList.length = t.text.size := Array.length_toList
    have e3 : (joinB ((t :: l).map (·.text)) ⟨#[32]⟩).size = (Lib.join (((t :: l).map (·.text)).map (·.data.toList)) [32]).length := by
      unfold joinB
      exact List.size_toArray
    rw [e3, List.map_cons, List.map_cons, Lib.join_cons, List.length_append, h, e2, joinW, h2]
    show t.text.size + ((l.map (·.text)).map fun x => 1 + x.size).sum ≤ _
    omega

set_option maxHeartbeats 8000000 in
theorem tjoin_fn (l : List Tok) (hl : l.length ≤ 4398046511104) : Fn 18 [.d (encToks l)] (fun r => r = encJoin (joinS l)) := by
  refine fnp_enter' _ Try.func18 rfl rfl (by kernel_rfl) ?_
  intro O w0 E0 β0
  unfold encToks
  repeat' (first
    | (apply ds_evC; exact rfl; (first | (with_reducible exact trivial) | (with_reducible exact u8_range _) | (with_reducible exact sat_range _ _) | omega | (constructor <;> omega) | (simp only [List.length_map]; omega) | (unfold maxLen at *; omega) | (simp <;> omega) | (unfold maxLen; simp <;> omega)); (first | (with_reducible exact hv_chr) | ((with_reducible apply hv_row); (first | exact nat_add_2 _ | exact nat_add_1 _ | exact nat_lit_0 | exact nat_lit_1 | exact rfl | exact (Int.toNat_of_nonneg (by omega)).symm); omega) | ((with_reducible apply hv_sat); (first | exact nat_add_2 _ | exact nat_add_1 _ | exact nat_lit_0 | exact nat_lit_1 | exact rfl | exact (Int.toNat_of_nonneg (by omega)).symm); omega) | ((with_reducible apply hv_ext); (first | exact nat_add_2 _ | exact nat_add_1 _ | exact nat_lit_0 | exact nat_lit_1 | exact rfl | exact (Int.toNat_of_nonneg (by omega)).symm); (first | exact nat_add_2 _ | exact nat_add_1 _ | exact nat_lit_0 | exact nat_lit_1 | exact rfl | exact (Int.toNat_of_nonneg (by omega)).symm)) | (with_reducible exact rfl)); exact rfl; exact rfl; exact rfl)
    | (apply ds_skip; exact rfl; exact rfl)
    | (apply ds_skip0; exact rfl)
    | apply ds_nil
    | (apply dt_ev; exact rfl; exact rfl; (first | (with_reducible exact trivial) | (with_reducible exact u8_range _) | (with_reducible exact sat_range _ _) | omega | (constructor <;> omega) | (simp only [List.length_map]; omega) | (unfold maxLen at *; omega) | (simp <;> omega) | (unfold maxLen; simp <;> omega)); (first | (with_reducible exact hv_chr) | ((with_reducible apply hv_row); (first | exact nat_add_2 _ | exact nat_add_1 _ | exact nat_lit_0 | exact nat_lit_1 | exact rfl | exact (Int.toNat_of_nonneg (by omega)).symm); omega) | ((with_reducible apply hv_sat); (first | exact nat_add_2 _ | exact nat_add_1 _ | exact nat_lit_0 | exact nat_lit_1 | exact rfl | exact (Int.toNat_of_nonneg (by omega)).symm); omega) | ((with_reducible apply hv_ext); (first | exact nat_add_2 _ | exact nat_add_1 _ | exact nat_lit_0 | exact nat_lit_1 | exact rfl | exact (Int.toNat_of_nonneg (by omega)).symm); (first | exact nat_add_2 _ | exact nat_add_1 _ | exact nat_lit_0 | exact nat_lit_1 | exact rfl | exact (Int.toNat_of_nonneg (by omega)).symm)) | (with_reducible exact rfl)); exact rfl; exact rfl; exact rfl; exact rfl)
    | (apply dt_skipD; exact rfl; exact rfl; exact rfl)
    | (apply dt_skip0; exact rfl; exact rfl)
    | (apply dt_set; exact rfl; exact rfl; (first | (with_reducible exact trivial) | (with_reducible exact u8_range _) | (with_reducible exact sat_range _ _) | omega | (constructor <;> omega) | (simp only [List.length_map]; omega) | (unfold maxLen at *; omega) | (simp <;> omega) | (unfold maxLen; simp <;> omega)); exact rfl; exact rfl; exact rfl; exact rfl)
    | (apply dt_new; exact rfl; exact rfl; exact rfl; (first | (with_reducible exact trivial) | (with_reducible exact u8_range _) | (with_reducible exact sat_range _ _) | omega | (constructor <;> omega) | (simp only [List.length_map]; omega) | (unfold maxLen at *; omega) | (simp <;> omega) | (unfold maxLen; simp <;> omega)); exact rfl; exact rfl; exact rfl; exact rfl; exact rfl)
    | (apply dt_trade; exact rfl; exact rfl; exact rfl; (first | (with_reducible exact trivial) | (with_reducible exact u8_range _) | (with_reducible exact sat_range _ _) | omega | (constructor <;> omega) | (simp only [List.length_map]; omega) | (unfold maxLen at *; omega) | (simp <;> omega) | (unfold maxLen; simp <;> omega)); exact rfl; exact rfl; exact rfl; exact rfl; exact rfl; exact rfl)
    | (apply dt_nil0; exact rfl; exact rfl; exact rfl; exact rfl)
    | (apply dt_nil; exact rfl)
    | apply dw_seq2
    | apply ds_region
    | (apply dw_any; kernel_rfl; kernel_rfl; exact rfl)
    | apply dw_block
    | apply dw_skip
    | apply dw_exit
    | (apply dw_condT; exact rfl)
    | (apply dw_condF; exact rfl)
    | apply thenD_n
    | apply thenD_e
    | apply thenD_r
    | apply inB_n
    | apply inB_r
    | (apply inB_e; exact rfl)
    | (apply inB_x; exact rfl)
    | (apply ds_newC; exact rfl; (first | (with_reducible exact trivial) | (with_reducible exact u8_range _) | (with_reducible exact sat_range _ _) | omega | (constructor <;> omega) | (simp only [List.length_map]; omega) | (unfold maxLen at *; omega) | (simp <;> omega) | (unfold maxLen; simp <;> omega)); exact rfl; exact rfl; exact rfl)
    | (apply ds_setC; exact rfl; exact rfl; exact rfl; exact rfl)
    | (apply ds_bsC; exact rfl; exact rfl; exact rfl; exact rfl)
    | (apply ds_tradeC; exact rfl; (first | (with_reducible exact trivial) | (with_reducible exact u8_range _) | (with_reducible exact sat_range _ _) | omega | (constructor <;> omega) | (simp only [List.length_map]; omega) | (unfold maxLen at *; omega) | (simp <;> omega) | (unfold maxLen; simp <;> omega)); exact rfl; exact rfl; exact rfl; exact rfl))
  refine dw_nilrow (t := 4) 9 1 rfl ?_
  refine ds_loop (ι := Nat) (fun i => ⟨1, [(4, .row 0), (5, .d (.int .i64 (joinW (l.take i)))), (8, .d (.slice 3 (l.map encTok))), (9, .d (.int .i64 l.length)), (10, .d (.int .i64 i))], [(0, .row 9 1 ((l.take i).map fun t => [D.str t.text]))]⟩)
    (fun i => i ≤ l.length ∧ (l.take i).all tokOk = true) (fun i => l.length - i) 0 ⟨Nat.zero_le _, rfl⟩
    (ent_ren id ⟨rfl, rfl, rfl, by simp; rfl, rfl, trivial⟩ ⟨rfl, trivial⟩ rfl rfl rfl rfl rfl rfl) ?_
  rintro i ⟨h1, h2⟩
  have hw := joinW_le _ h2
  have hl2 : (l.take i).length ≤ l.length := List.length_take_le' ..
  repeat' (first
    | (apply ds_evC; exact rfl; (first | (with_reducible exact trivial) | (with_reducible exact u8_range _) | (with_reducible exact sat_range _ _) | omega | (constructor <;> omega) | (simp only [List.length_map]; omega) | (unfold maxLen at *; omega) | (simp <;> omega) | (unfold maxLen; simp <;> omega)); (first | (with_reducible exact hv_chr) | ((with_reducible apply hv_row); (first | exact nat_add_2 _ | exact nat_add_1 _ | exact nat_lit_0 | exact nat_lit_1 | exact rfl | exact (Int.toNat_of_nonneg (by omega)).symm); omega) | ((with_reducible apply hv_sat); (first | exact nat_add_2 _ | exact nat_add_1 _ | exact nat_lit_0 | exact nat_lit_1 | exact rfl | exact (Int.toNat_of_nonneg (by omega)).symm); omega) | ((with_reducible apply hv_ext); (first | exact nat_add_2 _ | exact nat_add_1 _ | exact nat_lit_0 | exact nat_lit_1 | exact rfl | exact (Int.toNat_of_nonneg (by omega)).symm); (first | exact nat_add_2 _ | exact nat_add_1 _ | exact nat_lit_0 | exact nat_lit_1 | exact rfl | exact (Int.toNat_of_nonneg (by omega)).symm)) | (with_reducible exact rfl)); exact rfl; exact rfl; exact rfl)
    | (apply ds_skip; exact rfl; exact rfl)
    | (apply ds_skip0; exact rfl)
    | apply ds_nil
    | (apply dt_ev; exact rfl; exact rfl; (first | (with_reducible exact trivial) | (with_reducible exact u8_range _) | (with_reducible exact sat_range _ _) | omega | (constructor <;> omega) | (simp only [List.length_map]; omega) | (unfold maxLen at *; omega) | (simp <;> omega) | (unfold maxLen; simp <;> omega)); (first | (with_reducible exact hv_chr) | ((with_reducible apply hv_row); (first | exact nat_add_2 _ | exact nat_add_1 _ | exact nat_lit_0 | exact nat_lit_1 | exact rfl | exact (Int.toNat_of_nonneg (by omega)).symm); omega) | ((with_reducible apply hv_sat); (first | exact nat_add_2 _ | exact nat_add_1 _ | exact nat_lit_0 | exact nat_lit_1 | exact rfl | exact (Int.toNat_of_nonneg (by omega)).symm); omega) | ((with_reducible apply hv_ext); (first | exact nat_add_2 _ | exact nat_add_1 _ | exact nat_lit_0 | exact nat_lit_1 | exact rfl | exact (Int.toNat_of_nonneg (by omega)).symm); (first | exact nat_add_2 _ | exact nat_add_1 _ | exact nat_lit_0 | exact nat_lit_1 | exact rfl | exact (Int.toNat_of_nonneg (by omega)).symm)) | (with_reducible exact rfl)); exact rfl; exact rfl; exact rfl; exact rfl)
    | (apply dt_skipD; exact rfl; exact rfl; exact rfl)
    | (apply dt_skip0; exact rfl; exact rfl)
    | (apply dt_set; exact rfl; exact rfl; (first | (with_reducible exact trivial) | (with_reducible exact u8_range _) | (with_reducible exact sat_range _ _) | omega | (constructor <;> omega) | (simp only [List.length_map]; omega) | (unfold maxLen at *; omega) | (simp <;> omega) | (unfold maxLen; simp <;> omega)); exact rfl; exact rfl; exact rfl; exact rfl)
    | (apply dt_new; exact rfl; exact rfl; exact rfl; (first | (with_reducible exact trivial) | (with_reducible exact u8_range _) | (with_reducible exact sat_range _ _) | omega | (constructor <;> omega) | (simp only [List.length_map]; omega) | (unfold maxLen at *; omega) | (simp <;> omega) | (unfold maxLen; simp <;> omega)); exact rfl; exact rfl; exact rfl; exact rfl; exact rfl)
    | (apply dt_trade; exact rfl; exact rfl; exact rfl; (first | (with_reducible exact trivial) | (with_reducible exact u8_range _) | (with_reducible exact sat_range _ _) | omega | (constructor <;> omega) | (simp only [List.length_map]; omega) | (unfold maxLen at *; omega) | (simp <;> omega) | (unfold maxLen; simp <;> omega)); exact rfl; exact rfl; exact rfl; exact rfl; exact rfl; exact rfl)
    | (apply dt_nil0; exact rfl; exact rfl; exact rfl; exact rfl)
    | (apply dt_nil; exact rfl)
    | apply dw_seq2
    | apply ds_region
    | (apply dw_any; kernel_rfl; kernel_rfl; exact rfl)
    | apply dw_block
    | apply dw_skip
    | apply dw_exit
    | (apply dw_condT; exact rfl)
    | (apply dw_condF; exact rfl)
    | apply thenD_n
    | apply thenD_e
    | apply thenD_r
    | apply inB_n
    | apply inB_r
    | (apply inB_e; exact rfl)
    | (apply inB_x; exact rfl)
    | (apply ds_newC; exact rfl; (first | (with_reducible exact trivial) | (with_reducible exact u8_range _) | (with_reducible exact sat_range _ _) | omega | (constructor <;> omega) | (simp only [List.length_map]; omega) | (unfold maxLen at *; omega) | (simp <;> omega) | (unfold maxLen; simp <;> omega)); exact rfl; exact rfl; exact rfl)
    | (apply ds_setC; exact rfl; exact rfl; exact rfl; exact rfl)
    | (apply ds_bsC; exact rfl; exact rfl; exact rfl; exact rfl)
    | (apply ds_tradeC; exact rfl; (first | (with_reducible exact trivial) | (with_reducible exact u8_range _) | (with_reducible exact sat_range _ _) | omega | (constructor <;> omega) | (simp only [List.length_map]; omega) | (unfold maxLen at *; omega) | (simp <;> omega) | (unfold maxLen; simp <;> omega)); exact rfl; exact rfl; exact rfl; exact rfl))
  refine dw_condP rfl (fun h => ?_) (fun h => ?_)
  · have hi : i < l.length := by omega
    have hsn := take_snoc l i hi
    repeat' (first
    | (apply ds_evC; exact rfl; (first | (with_reducible exact trivial) | (with_reducible exact u8_range _) | (with_reducible exact sat_range _ _) | omega | (constructor <;> omega) | (simp only [List.length_map]; omega) | (unfold maxLen at *; omega) | (simp <;> omega) | (unfold maxLen; simp <;> omega)); (first | (with_reducible exact hv_chr) | ((with_reducible apply hv_row); (first | exact nat_add_2 _ | exact nat_add_1 _ | exact nat_lit_0 | exact nat_lit_1 | exact rfl | exact (Int.toNat_of_nonneg (by omega)).symm); omega) | ((with_reducible apply hv_sat); (first | exact nat_add_2 _ | exact nat_add_1 _ | exact nat_lit_0 | exact nat_lit_1 | exact rfl | exact (Int.toNat_of_nonneg (by omega)).symm); omega) | ((with_reducible apply hv_ext); (first | exact nat_add_2 _ | exact nat_add_1 _ | exact nat_lit_0 | exact nat_lit_1 | exact rfl | exact (Int.toNat_of_nonneg (by omega)).symm); (first | exact nat_add_2 _ | exact nat_add_1 _ | exact nat_lit_0 | exact nat_lit_1 | exact rfl | exact (Int.toNat_of_nonneg (by omega)).symm)) | (with_reducible exact rfl)); exact rfl; exact rfl; exact rfl)
    | (apply ds_skip; exact rfl; exact rfl)
    | (apply ds_skip0; exact rfl)
    | apply ds_nil
    | (apply dt_ev; exact rfl; exact rfl; (first | (with_reducible exact trivial) | (with_reducible exact u8_range _) | (with_reducible exact sat_range _ _) | omega | (constructor <;> omega) | (simp only [List.length_map]; omega) | (unfold maxLen at *; omega) | (simp <;> omega) | (unfold maxLen; simp <;> omega)); (first | (with_reducible exact hv_chr) | ((with_reducible apply hv_row); (first | exact nat_add_2 _ | exact nat_add_1 _ | exact nat_lit_0 | exact nat_lit_1 | exact rfl | exact (Int.toNat_of_nonneg (by omega)).symm); omega) | ((with_reducible apply hv_sat); (first | exact nat_add_2 _ | exact nat_add_1 _ | exact nat_lit_0 | exact nat_lit_1 | exact rfl | exact (Int.toNat_of_nonneg (by omega)).symm); omega) | ((with_reducible apply hv_ext); (first | exact nat_add_2 _ | exact nat_add_1 _ | exact nat_lit_0 | exact nat_lit_1 | exact rfl | exact (Int.toNat_of_nonneg (by omega)).symm); (first | exact nat_add_2 _ | exact nat_add_1 _ | exact nat_lit_0 | exact nat_lit_1 | exact rfl | exact (Int.toNat_of_nonneg (by omega)).symm)) | (with_reducible exact rfl)); exact rfl; exact rfl; exact rfl; exact rfl)
    | (apply dt_skipD; exact rfl; exact rfl; exact rfl)
    | (apply dt_skip0; exact rfl; exact rfl)
    | (apply dt_set; exact rfl; exact rfl; (first | (with_reducible exact trivial) | (with_reducible exact u8_range _) | (with_reducible exact sat_range _ _) | omega | (constructor <;> omega) | (simp only [List.length_map]; omega) | (unfold maxLen at *; omega) | (simp <;> omega) | (unfold maxLen; simp <;> omega)); exact rfl; exact rfl; exact rfl; exact rfl)
    | (apply dt_new; exact rfl; exact rfl; exact rfl; (first | (with_reducible exact trivial) | (with_reducible exact u8_range _) | (with_reducible exact sat_range _ _) | omega | (constructor <;> omega) | (simp only [List.length_map]; omega) | (unfold maxLen at *; omega) | (simp <;> omega) | (unfold maxLen; simp <;> omega)); exact rfl; exact rfl; exact rfl; exact rfl; exact rfl)
    | (apply dt_trade; exact rfl; exact rfl; exact rfl; (first | (with_reducible exact trivial) | (with_reducible exact u8_range _) | (with_reducible exact sat_range _ _) | omega | (constructor <;> omega) | (simp only [List.length_map]; omega) | (unfold maxLen at *; omega) | (simp <;> omega) | (unfold maxLen; simp <;> omega)); exact rfl; exact rfl; exact rfl; exact rfl; exact rfl; exact rfl)
    | (apply dt_nil0; exact rfl; exact rfl; exact rfl; exact rfl)
    | (apply dt_nil; exact rfl)
    | apply dw_seq2
    | apply ds_region
    | (apply dw_any; kernel_rfl; kernel_rfl; exact rfl)
    | apply dw_block
    | apply dw_skip
    | apply dw_exit
    | (apply dw_condT; exact rfl)
    | (apply dw_condF; exact rfl)
    | apply thenD_n
    | apply thenD_e
    | apply thenD_r
    | apply inB_n
    | apply inB_r
    | (apply inB_e; exact rfl)
    | (apply inB_x; exact rfl)
    | (apply ds_call; exact rfl; exact rfl; apply one_fn; exact rfl; exact rfl; exact rfl; rintro _ rfl)
    | (apply dt_call; exact rfl; exact rfl; apply one_fn; exact rfl; exact rfl; exact rfl; exact rfl; exact ⟨_, rfl⟩; rintro _ rfl)
    | (apply ds_newC; exact rfl; (first | (with_reducible exact trivial) | (with_reducible exact u8_range _) | (with_reducible exact sat_range _ _) | omega | (constructor <;> omega) | (simp only [List.length_map]; omega) | (unfold maxLen at *; omega) | (simp <;> omega) | (unfold maxLen; simp <;> omega)); exact rfl; exact rfl; exact rfl)
    | (apply ds_setC; exact rfl; exact rfl; exact rfl; exact rfl)
    | (apply ds_bsC; exact rfl; exact rfl; exact rfl; exact rfl)
    | (apply ds_tradeC; exact rfl; (first | (with_reducible exact trivial) | (with_reducible exact u8_range _) | (with_reducible exact sat_range _ _) | omega | (constructor <;> omega) | (simp only [List.length_map]; omega) | (unfold maxLen at *; omega) | (simp <;> omega) | (unfold maxLen; simp <;> omega)); exact rfl; exact rfl; exact rfl; exact rfl))
    refine dw_cond rfl (fun hb => ?_) (fun hb => ?_)
    · repeat' (first
    | (apply ds_evC; exact rfl; (first | (with_reducible exact trivial) | (with_reducible exact u8_range _) | (with_reducible exact sat_range _ _) | omega | (constructor <;> omega) | (simp only [List.length_map]; omega) | (unfold maxLen at *; omega) | (simp <;> omega) | (unfold maxLen; simp <;> omega)); (first | (with_reducible exact hv_chr) | ((with_reducible apply hv_row); (first | exact nat_add_2 _ | exact nat_add_1 _ | exact nat_lit_0 | exact nat_lit_1 | exact rfl | exact (Int.toNat_of_nonneg (by omega)).symm); omega) | ((with_reducible apply hv_sat); (first | exact nat_add_2 _ | exact nat_add_1 _ | exact nat_lit_0 | exact nat_lit_1 | exact rfl | exact (Int.toNat_of_nonneg (by omega)).symm); omega) | ((with_reducible apply hv_ext); (first | exact nat_add_2 _ | exact nat_add_1 _ | exact nat_lit_0 | exact nat_lit_1 | exact rfl | exact (Int.toNat_of_nonneg (by omega)).symm); (first | exact nat_add_2 _ | exact nat_add_1 _ | exact nat_lit_0 | exact nat_lit_1 | exact rfl | exact (Int.toNat_of_nonneg (by omega)).symm)) | (with_reducible exact rfl)); exact rfl; exact rfl; exact rfl)
    | (apply ds_skip; exact rfl; exact rfl)
    | (apply ds_skip0; exact rfl)
    | apply ds_nil
    | (apply dt_ev; exact rfl; exact rfl; (first | (with_reducible exact trivial) | (with_reducible exact u8_range _) | (with_reducible exact sat_range _ _) | omega | (constructor <;> omega) | (simp only [List.length_map]; omega) | (unfold maxLen at *; omega) | (simp <;> omega) | (unfold maxLen; simp <;> omega)); (first | (with_reducible exact hv_chr) | ((with_reducible apply hv_row); (first | exact nat_add_2 _ | exact nat_add_1 _ | exact nat_lit_0 | exact nat_lit_1 | exact rfl | exact (Int.toNat_of_nonneg (by omega)).symm); omega) | ((with_reducible apply hv_sat); (first | exact nat_add_2 _ | exact nat_add_1 _ | exact nat_lit_0 | exact nat_lit_1 | exact rfl | exact (Int.toNat_of_nonneg (by omega)).symm); omega) | ((with_reducible apply hv_ext); (first | exact nat_add_2 _ | exact nat_add_1 _ | exact nat_lit_0 | exact nat_lit_1 | exact rfl | exact (Int.toNat_of_nonneg (by omega)).symm); (first | exact nat_add_2 _ | exact nat_add_1 _ | exact nat_lit_0 | exact nat_lit_1 | exact rfl | exact (Int.toNat_of_nonneg (by omega)).symm)) | (with_reducible exact rfl)); exact rfl; exact rfl; exact rfl; exact rfl)
    | (apply dt_skipD; exact rfl; exact rfl; exact rfl)
    | (apply dt_skip0; exact rfl; exact rfl)
    | (apply dt_set; exact rfl; exact rfl; (first | (with_reducible exact trivial) | (with_reducible exact u8_range _) | (with_reducible exact sat_range _ _) | omega | (constructor <;> omega) | (simp only [List.length_map]; omega) | (unfold maxLen at *; omega) | (simp <;> omega) | (unfold maxLen; simp <;> omega)); exact rfl; exact rfl; exact rfl; exact rfl)
    | (apply dt_new; exact rfl; exact rfl; exact rfl; (first | (with_reducible exact trivial) | (with_reducible exact u8_range _) | (with_reducible exact sat_range _ _) | omega | (constructor <;> omega) | (simp only [List.length_map]; omega) | (unfold maxLen at *; omega) | (simp <;> omega) | (unfold maxLen; simp <;> omega)); exact rfl; exact rfl; exact rfl; exact rfl; exact rfl)
    | (apply dt_trade; exact rfl; exact rfl; exact rfl; (first | (with_reducible exact trivial) | (with_reducible exact u8_range _) | (with_reducible exact sat_range _ _) | omega | (constructor <;> omega) | (simp only [List.length_map]; omega) | (unfold maxLen at *; omega) | (simp <;> omega) | (unfold maxLen; simp <;> omega)); exact rfl; exact rfl; exact rfl; exact rfl; exact rfl; exact rfl)
    | (apply dt_nil0; exact rfl; exact rfl; exact rfl; exact rfl)
    | (apply dt_nil; exact rfl)
    | apply dw_seq2
    | apply ds_region
    | (apply dw_any; kernel_rfl; kernel_rfl; exact rfl)
    | apply dw_block
    | apply dw_skip
    | apply dw_exit
    | apply dw_ret
    | (apply dw_condT; exact rfl)
    | (apply dw_condF; exact rfl)
    | apply thenD_n
    | apply thenD_e
    | apply thenD_r
    | apply inB_n
    | apply inB_r
    | (apply inB_e; exact rfl)
    | (apply inB_x; exact rfl))
      have hbad : l.all tokOk = false := by
        rw [List.all_eq_false]
        exact ⟨l[i], List.getElem_mem hi, by unfold tokOk; simpa using hb⟩
      unfold joinS
      rw [if_neg (by rw [hbad]; exact Bool.false_ne_true)]
      exact ret_2 rfl ⟨rfl, rfl⟩
    · have hok : oneS l[i].kind l[i].text = true := by simpa using hb
      have hsm := oneS_small hok
      repeat' (first
    | (apply ds_evC; exact rfl; (first | (with_reducible exact trivial) | (with_reducible exact u8_range _) | (with_reducible exact sat_range _ _) | omega | (constructor <;> omega) | (simp only [List.length_map]; omega) | (unfold maxLen at *; omega) | (simp <;> omega) | (unfold maxLen; simp <;> omega)); (first | (with_reducible exact hv_chr) | ((with_reducible apply hv_row); (first | exact nat_add_2 _ | exact nat_add_1 _ | exact nat_lit_0 | exact nat_lit_1 | exact rfl | exact (Int.toNat_of_nonneg (by omega)).symm); omega) | ((with_reducible apply hv_sat); (first | exact nat_add_2 _ | exact nat_add_1 _ | exact nat_lit_0 | exact nat_lit_1 | exact rfl | exact (Int.toNat_of_nonneg (by omega)).symm); omega) | ((with_reducible apply hv_ext); (first | exact nat_add_2 _ | exact nat_add_1 _ | exact nat_lit_0 | exact nat_lit_1 | exact rfl | exact (Int.toNat_of_nonneg (by omega)).symm); (first | exact nat_add_2 _ | exact nat_add_1 _ | exact nat_lit_0 | exact nat_lit_1 | exact rfl | exact (Int.toNat_of_nonneg (by omega)).symm)) | (with_reducible exact rfl)); exact rfl; exact rfl; exact rfl)
    | (apply ds_skip; exact rfl; exact rfl)
    | (apply ds_skip0; exact rfl)
    | apply ds_nil
    | (apply dt_ev; exact rfl; exact rfl; (first | (with_reducible exact trivial) | (with_reducible exact u8_range _) | (with_reducible exact sat_range _ _) | omega | (constructor <;> omega) | (simp only [List.length_map]; omega) | (unfold maxLen at *; omega) | (simp <;> omega) | (unfold maxLen; simp <;> omega)); (first | (with_reducible exact hv_chr) | ((with_reducible apply hv_row); (first | exact nat_add_2 _ | exact nat_add_1 _ | exact nat_lit_0 | exact nat_lit_1 | exact rfl | exact (Int.toNat_of_nonneg (by omega)).symm); omega) | ((with_reducible apply hv_sat); (first | exact nat_add_2 _ | exact nat_add_1 _ | exact nat_lit_0 | exact nat_lit_1 | exact rfl | exact (Int.toNat_of_nonneg (by omega)).symm); omega) | ((with_reducible apply hv_ext); (first | exact nat_add_2 _ | exact nat_add_1 _ | exact nat_lit_0 | exact nat_lit_1 | exact rfl | exact (Int.toNat_of_nonneg (by omega)).symm); (first | exact nat_add_2 _ | exact nat_add_1 _ | exact nat_lit_0 | exact nat_lit_1 | exact rfl | exact (Int.toNat_of_nonneg (by omega)).symm)) | (with_reducible exact rfl)); exact rfl; exact rfl; exact rfl; exact rfl)
    | (apply dt_skipD; exact rfl; exact rfl; exact rfl)
    | (apply dt_skip0; exact rfl; exact rfl)
    | (apply dt_set; exact rfl; exact rfl; (first | (with_reducible exact trivial) | (with_reducible exact u8_range _) | (with_reducible exact sat_range _ _) | omega | (constructor <;> omega) | (simp only [List.length_map]; omega) | (unfold maxLen at *; omega) | (simp <;> omega) | (unfold maxLen; simp <;> omega)); exact rfl; exact rfl; exact rfl; exact rfl)
    | (apply dt_new; exact rfl; exact rfl; exact rfl; (first | (with_reducible exact trivial) | (with_reducible exact u8_range _) | (with_reducible exact sat_range _ _) | omega | (constructor <;> omega) | (simp only [List.length_map]; omega) | (unfold maxLen at *; omega) | (simp <;> omega) | (unfold maxLen; simp <;> omega)); exact rfl; exact rfl; exact rfl; exact rfl; exact rfl)
    | (apply dt_trade; exact rfl; exact rfl; exact rfl; (first | (with_reducible exact trivial) | (with_reducible exact u8_range _) | (with_reducible exact sat_range _ _) | omega | (constructor <;> omega) | (simp only [List.length_map]; omega) | (unfold maxLen at *; omega) | (simp <;> omega) | (unfold maxLen; simp <;> omega)); exact rfl; exact rfl; exact rfl; exact rfl; exact rfl; exact rfl)
    | (apply dt_nil0; exact rfl; exact rfl; exact rfl; exact rfl)
    | (apply dt_nil; exact rfl)
    | apply dw_seq2
    | apply ds_region
    | (apply dw_any; kernel_rfl; kernel_rfl; exact rfl)
    | apply dw_block
    | apply dw_skip
    | apply dw_exit
    | (apply dw_condT; exact rfl)
    | (apply dw_condF; exact rfl)
    | apply thenD_n
    | apply thenD_e
    | apply thenD_r
    | apply inB_n
    | apply inB_r
    | (apply inB_e; exact rfl)
    | (apply inB_x; exact rfl)
    | (apply ds_newC; exact rfl; (first | (with_reducible exact trivial) | (with_reducible exact u8_range _) | (with_reducible exact sat_range _ _) | omega | (constructor <;> omega) | (simp only [List.length_map]; omega) | (unfold maxLen at *; omega) | (simp <;> omega) | (unfold maxLen; simp <;> omega)); exact rfl; exact rfl; exact rfl)
    | (apply ds_setC; exact rfl; exact rfl; exact rfl; exact rfl)
    | (apply ds_bsC; exact rfl; exact rfl; exact rfl; exact rfl)
    | (apply ds_tradeC; exact rfl; (first | (with_reducible exact trivial) | (with_reducible exact u8_range _) | (with_reducible exact sat_range _ _) | omega | (constructor <;> omega) | (simp only [List.length_map]; omega) | (unfold maxLen at *; omega) | (simp <;> omega) | (unfold maxLen; simp <;> omega)); exact rfl; exact rfl; exact rfl; exact rfl))
      have he : joinW (l.take (i + 1)) = joinW (l.take i) + (1 + l[i].text.size) := by rw [hsn, joinW_app]; simp [joinW]
      refine ⟨i + 1, ⟨hi, ?_⟩, ?_, ?_⟩
      · rw [hsn, List.all_append, h2]; simpa [tokOk] using hok
      · rw [he, hsn, List.map_append]
        exact ent_ren (fun _ => 2) ⟨rfl, rfl, rfl, rfl, rfl, trivial⟩ ⟨rfl, trivial⟩ rfl rfl rfl rfl rfl rfl
      · omega
  · have hil : i = l.length := by omega
    subst hil
    rw [List.take_length] at h2 hw
    rw [show joinW (l.take l.length) = joinW l by rw [List.take_length], show (l.take l.length) = l by rw [List.take_length]]
    repeat' (first
    | (apply ds_evC; exact rfl; (first | (with_reducible exact trivial) | (with_reducible exact u8_range _) | (with_reducible exact sat_range _ _) | omega | (constructor <;> omega) | (simp only [List.length_map]; omega) | (unfold maxLen at *; omega) | (simp <;> omega) | (unfold maxLen; simp <;> omega)); (first | (with_reducible exact hv_chr) | ((with_reducible apply hv_row); (first | exact nat_add_2 _ | exact nat_add_1 _ | exact nat_lit_0 | exact nat_lit_1 | exact rfl | exact (Int.toNat_of_nonneg (by omega)).symm); omega) | ((with_reducible apply hv_sat); (first | exact nat_add_2 _ | exact nat_add_1 _ | exact nat_lit_0 | exact nat_lit_1 | exact rfl | exact (Int.toNat_of_nonneg (by omega)).symm); omega) | ((with_reducible apply hv_ext); (first | exact nat_add_2 _ | exact nat_add_1 _ | exact nat_lit_0 | exact nat_lit_1 | exact rfl | exact (Int.toNat_of_nonneg (by omega)).symm); (first | exact nat_add_2 _ | exact nat_add_1 _ | exact nat_lit_0 | exact nat_lit_1 | exact rfl | exact (Int.toNat_of_nonneg (by omega)).symm)) | (with_reducible exact rfl)); exact rfl; exact rfl; exact rfl)
    | (apply ds_skip; exact rfl; exact rfl)
    | (apply ds_skip0; exact rfl)
    | apply ds_nil
    | (apply dt_ev; exact rfl; exact rfl; (first | (with_reducible exact trivial) | (with_reducible exact u8_range _) | (with_reducible exact sat_range _ _) | omega | (constructor <;> omega) | (simp only [List.length_map]; omega) | (unfold maxLen at *; omega) | (simp <;> omega) | (unfold maxLen; simp <;> omega)); (first | (with_reducible exact hv_chr) | ((with_reducible apply hv_row); (first | exact nat_add_2 _ | exact nat_add_1 _ | exact nat_lit_0 | exact nat_lit_1 | exact rfl | exact (Int.toNat_of_nonneg (by omega)).symm); omega) | ((with_reducible apply hv_sat); (first | exact nat_add_2 _ | exact nat_add_1 _ | exact nat_lit_0 | exact nat_lit_1 | exact rfl | exact (Int.toNat_of_nonneg (by omega)).symm); omega) | ((with_reducible apply hv_ext); (first | exact nat_add_2 _ | exact nat_add_1 _ | exact nat_lit_0 | exact nat_lit_1 | exact rfl | exact (Int.toNat_of_nonneg (by omega)).symm); (first | exact nat_add_2 _ | exact nat_add_1 _ | exact nat_lit_0 | exact nat_lit_1 | exact rfl | exact (Int.toNat_of_nonneg (by omega)).symm)) | (with_reducible exact rfl)); exact rfl; exact rfl; exact rfl; exact rfl)
    | (apply dt_skipD; exact rfl; exact rfl; exact rfl)
    | (apply dt_skip0; exact rfl; exact rfl)
    | (apply dt_set; exact rfl; exact rfl; (first | (with_reducible exact trivial) | (with_reducible exact u8_range _) | (with_reducible exact sat_range _ _) | omega | (constructor <;> omega) | (simp only [List.length_map]; omega) | (unfold maxLen at *; omega) | (simp <;> omega) | (unfold maxLen; simp <;> omega)); exact rfl; exact rfl; exact rfl; exact rfl)
    | (apply dt_new; exact rfl; exact rfl; exact rfl; (first | (with_reducible exact trivial) | (with_reducible exact u8_range _) | (with_reducible exact sat_range _ _) | omega | (constructor <;> omega) | (simp only [List.length_map]; omega) | (unfold maxLen at *; omega) | (simp <;> omega) | (unfold maxLen; simp <;> omega)); exact rfl; exact rfl; exact rfl; exact rfl; exact rfl)
    | (apply dt_trade; exact rfl; exact rfl; exact rfl; (first | (with_reducible exact trivial) | (with_reducible exact u8_range _) | (with_reducible exact sat_range _ _) | omega | (constructor <;> omega) | (simp only [List.length_map]; omega) | (unfold maxLen at *; omega) | (simp <;> omega) | (unfold maxLen; simp <;> omega)); exact rfl; exact rfl; exact rfl; exact rfl; exact rfl; exact rfl)
    | (apply dt_nil0; exact rfl; exact rfl; exact rfl; exact rfl)
    | (apply dt_nil; exact rfl)
    | apply dw_seq2
    | apply ds_region
    | (apply dw_any; kernel_rfl; kernel_rfl; exact rfl)
    | apply dw_block
    | apply dw_skip
    | apply dw_exit
    | (apply dw_condT; exact rfl)
    | (apply dw_condF; exact rfl)
    | apply thenD_n
    | apply thenD_e
    | apply thenD_r
    | apply inB_n
    | apply inB_r
    | (apply inB_e; exact rfl)
    | (apply inB_x; exact rfl)
    | (apply ds_newC; exact rfl; (first | (with_reducible exact trivial) | (with_reducible exact u8_range _) | (with_reducible exact sat_range _ _) | omega | (constructor <;> omega) | (simp only [List.length_map]; omega) | (unfold maxLen at *; omega) | (simp <;> omega) | (unfold maxLen; simp <;> omega)); exact rfl; exact rfl; exact rfl)
    | (apply ds_setC; exact rfl; exact rfl; exact rfl; exact rfl)
    | (apply ds_bsC; exact rfl; exact rfl; exact rfl; exact rfl)
    | (apply ds_tradeC; exact rfl; (first | (with_reducible exact trivial) | (with_reducible exact u8_range _) | (with_reducible exact sat_range _ _) | omega | (constructor <;> omega) | (simp only [List.length_map]; omega) | (unfold maxLen at *; omega) | (simp <;> omega) | (unfold maxLen; simp <;> omega)); exact rfl; exact rfl; exact rfl; exact rfl))
    refine dw_seal 4 rfl rfl ?_
    refine dw_condP rfl (fun hbig => ?_) (fun hbig => ?_)
    · repeat' (first
    | (apply ds_evC; exact rfl; (first | (with_reducible exact trivial) | (with_reducible exact u8_range _) | (with_reducible exact sat_range _ _) | omega | (constructor <;> omega) | (simp only [List.length_map]; omega) | (unfold maxLen at *; omega) | (simp <;> omega) | (unfold maxLen; simp <;> omega)); (first | (with_reducible exact hv_chr) | ((with_reducible apply hv_row); (first | exact nat_add_2 _ | exact nat_add_1 _ | exact nat_lit_0 | exact nat_lit_1 | exact rfl | exact (Int.toNat_of_nonneg (by omega)).symm); omega) | ((with_reducible apply hv_sat); (first | exact nat_add_2 _ | exact nat_add_1 _ | exact nat_lit_0 | exact nat_lit_1 | exact rfl | exact (Int.toNat_of_nonneg (by omega)).symm); omega) | ((with_reducible apply hv_ext); (first | exact nat_add_2 _ | exact nat_add_1 _ | exact nat_lit_0 | exact nat_lit_1 | exact rfl | exact (Int.toNat_of_nonneg (by omega)).symm); (first | exact nat_add_2 _ | exact nat_add_1 _ | exact nat_lit_0 | exact nat_lit_1 | exact rfl | exact (Int.toNat_of_nonneg (by omega)).symm)) | (with_reducible exact rfl)); exact rfl; exact rfl; exact rfl)
    | (apply ds_skip; exact rfl; exact rfl)
    | (apply ds_skip0; exact rfl)
    | apply ds_nil
    | (apply dt_ev; exact rfl; exact rfl; (first | (with_reducible exact trivial) | (with_reducible exact u8_range _) | (with_reducible exact sat_range _ _) | omega | (constructor <;> omega) | (simp only [List.length_map]; omega) | (unfold maxLen at *; omega) | (simp <;> omega) | (unfold maxLen; simp <;> omega)); (first | (with_reducible exact hv_chr) | ((with_reducible apply hv_row); (first | exact nat_add_2 _ | exact nat_add_1 _ | exact nat_lit_0 | exact nat_lit_1 | exact rfl | exact (Int.toNat_of_nonneg (by omega)).symm); omega) | ((with_reducible apply hv_sat); (first | exact nat_add_2 _ | exact nat_add_1 _ | exact nat_lit_0 | exact nat_lit_1 | exact rfl | exact (Int.toNat_of_nonneg (by omega)).symm); omega) | ((with_reducible apply hv_ext); (first | exact nat_add_2 _ | exact nat_add_1 _ | exact nat_lit_0 | exact nat_lit_1 | exact rfl | exact (Int.toNat_of_nonneg (by omega)).symm); (first | exact nat_add_2 _ | exact nat_add_1 _ | exact nat_lit_0 | exact nat_lit_1 | exact rfl | exact (Int.toNat_of_nonneg (by omega)).symm)) | (with_reducible exact rfl)); exact rfl; exact rfl; exact rfl; exact rfl)
    | (apply dt_skipD; exact rfl; exact rfl; exact rfl)
    | (apply dt_skip0; exact rfl; exact rfl)
    | (apply dt_set; exact rfl; exact rfl; (first | (with_reducible exact trivial) | (with_reducible exact u8_range _) | (with_reducible exact sat_range _ _) | omega | (constructor <;> omega) | (simp only [List.length_map]; omega) | (unfold maxLen at *; omega) | (simp <;> omega) | (unfold maxLen; simp <;> omega)); exact rfl; exact rfl; exact rfl; exact rfl)
    | (apply dt_new; exact rfl; exact rfl; exact rfl; (first | (with_reducible exact trivial) | (with_reducible exact u8_range _) | (with_reducible exact sat_range _ _) | omega | (constructor <;> omega) | (simp only [List.length_map]; omega) | (unfold maxLen at *; omega) | (simp <;> omega) | (unfold maxLen; simp <;> omega)); exact rfl; exact rfl; exact rfl; exact rfl; exact rfl)
    | (apply dt_trade; exact rfl; exact rfl; exact rfl; (first | (with_reducible exact trivial) | (with_reducible exact u8_range _) | (with_reducible exact sat_range _ _) | omega | (constructor <;> omega) | (simp only [List.length_map]; omega) | (unfold maxLen at *; omega) | (simp <;> omega) | (unfold maxLen; simp <;> omega)); exact rfl; exact rfl; exact rfl; exact rfl; exact rfl; exact rfl)
    | (apply dt_nil0; exact rfl; exact rfl; exact rfl; exact rfl)
    | (apply dt_nil; exact rfl)
    | apply dw_seq2
    | apply ds_region
    | (apply dw_any; kernel_rfl; kernel_rfl; exact rfl)
    | apply dw_block
    | apply dw_skip
    | apply dw_exit
    | apply dw_ret
    | (apply dw_condT; exact rfl)
    | (apply dw_condF; exact rfl)
    | apply thenD_n
    | apply thenD_e
    | apply thenD_r
    | apply inB_n
    | apply inB_r
    | (apply inB_e; exact rfl)
    | (apply inB_x; exact rfl))
      unfold joinS
      rw [if_pos h2, if_pos (by omega)]
      exact ret_2 rfl ⟨rfl, rfl⟩
    · have hj := join_fn (l.map (·.text)) ⟨#[32]⟩ (by rw [List.length_map]; omega) (by have := joinB_size l; omega)
      rw [show encStrs (l.map (·.text)) = l.map (fun t => [D.str t.text]) by unfold encStrs; rw [List.map_map]; rfl] at hj
      repeat' (first
    | (apply ds_evC; exact rfl; (first | (with_reducible exact trivial) | (with_reducible exact u8_range _) | (with_reducible exact sat_range _ _) | omega | (constructor <;> omega) | (simp only [List.length_map]; omega) | (unfold maxLen at *; omega) | (simp <;> omega) | (unfold maxLen; simp <;> omega)); (first | (with_reducible exact hv_chr) | ((with_reducible apply hv_row); (first | exact nat_add_2 _ | exact nat_add_1 _ | exact nat_lit_0 | exact nat_lit_1 | exact rfl | exact (Int.toNat_of_nonneg (by omega)).symm); omega) | ((with_reducible apply hv_sat); (first | exact nat_add_2 _ | exact nat_add_1 _ | exact nat_lit_0 | exact nat_lit_1 | exact rfl | exact (Int.toNat_of_nonneg (by omega)).symm); omega) | ((with_reducible apply hv_ext); (first | exact nat_add_2 _ | exact nat_add_1 _ | exact nat_lit_0 | exact nat_lit_1 | exact rfl | exact (Int.toNat_of_nonneg (by omega)).symm); (first | exact nat_add_2 _ | exact nat_add_1 _ | exact nat_lit_0 | exact nat_lit_1 | exact rfl | exact (Int.toNat_of_nonneg (by omega)).symm)) | (with_reducible exact rfl)); exact rfl; exact rfl; exact rfl)
    | (apply ds_skip; exact rfl; exact rfl)
    | (apply ds_skip0; exact rfl)
    | apply ds_nil
    | (apply dt_ev; exact rfl; exact rfl; (first | (with_reducible exact trivial) | (with_reducible exact u8_range _) | (with_reducible exact sat_range _ _) | omega | (constructor <;> omega) | (simp only [List.length_map]; omega) | (unfold maxLen at *; omega) | (simp <;> omega) | (unfold maxLen; simp <;> omega)); (first | (with_reducible exact hv_chr) | ((with_reducible apply hv_row); (first | exact nat_add_2 _ | exact nat_add_1 _ | exact nat_lit_0 | exact nat_lit_1 | exact rfl | exact (Int.toNat_of_nonneg (by omega)).symm); omega) | ((with_reducible apply hv_sat); (first | exact nat_add_2 _ | exact nat_add_1 _ | exact nat_lit_0 | exact nat_lit_1 | exact rfl | exact (Int.toNat_of_nonneg (by omega)).symm); omega) | ((with_reducible apply hv_ext); (first | exact nat_add_2 _ | exact nat_add_1 _ | exact nat_lit_0 | exact nat_lit_1 | exact rfl | exact (Int.toNat_of_nonneg (by omega)).symm); (first | exact nat_add_2 _ | exact nat_add_1 _ | exact nat_lit_0 | exact nat_lit_1 | exact rfl | exact (Int.toNat_of_nonneg (by omega)).symm)) | (with_reducible exact rfl)); exact rfl; exact rfl; exact rfl; exact rfl)
    | (apply dt_skipD; exact rfl; exact rfl; exact rfl)
    | (apply dt_skip0; exact rfl; exact rfl)
    | (apply dt_set; exact rfl; exact rfl; (first | (with_reducible exact trivial) | (with_reducible exact u8_range _) | (with_reducible exact sat_range _ _) | omega | (constructor <;> omega) | (simp only [List.length_map]; omega) | (unfold maxLen at *; omega) | (simp <;> omega) | (unfold maxLen; simp <;> omega)); exact rfl; exact rfl; exact rfl; exact rfl)
    | (apply dt_new; exact rfl; exact rfl; exact rfl; (first | (with_reducible exact trivial) | (with_reducible exact u8_range _) | (with_reducible exact sat_range _ _) | omega | (constructor <;> omega) | (simp only [List.length_map]; omega) | (unfold maxLen at *; omega) | (simp <;> omega) | (unfold maxLen; simp <;> omega)); exact rfl; exact rfl; exact rfl; exact rfl; exact rfl)
    | (apply dt_trade; exact rfl; exact rfl; exact rfl; (first | (with_reducible exact trivial) | (with_reducible exact u8_range _) | (with_reducible exact sat_range _ _) | omega | (constructor <;> omega) | (simp only [List.length_map]; omega) | (unfold maxLen at *; omega) | (simp <;> omega) | (unfold maxLen; simp <;> omega)); exact rfl; exact rfl; exact rfl; exact rfl; exact rfl; exact rfl)
    | (apply dt_nil0; exact rfl; exact rfl; exact rfl; exact rfl)
    | (apply dt_nil; exact rfl)
    | apply dw_seq2
    | apply ds_region
    | (apply dw_any; kernel_rfl; kernel_rfl; exact rfl)
    | apply dw_block
    | apply dw_skip
    | apply dw_exit
    | apply dw_ret
    | (apply dw_condT; exact rfl)
    | (apply dw_condF; exact rfl)
    | apply thenD_n
    | apply thenD_e
    | apply thenD_r
    | apply inB_n
    | apply inB_r
    | (apply inB_e; exact rfl)
    | (apply inB_x; exact rfl)
    | (apply ds_call; exact rfl; exact rfl; apply hj; exact rfl; exact rfl; exact rfl; rintro _ rfl)
    | (apply dt_call; exact rfl; exact rfl; apply hj; exact rfl; exact rfl; exact rfl; exact rfl; exact ⟨_, rfl⟩; rintro _ rfl)
    | (apply ds_newC; exact rfl; (first | (with_reducible exact trivial) | (with_reducible exact u8_range _) | (with_reducible exact sat_range _ _) | omega | (constructor <;> omega) | (simp only [List.length_map]; omega) | (unfold maxLen at *; omega) | (simp <;> omega) | (unfold maxLen; simp <;> omega)); exact rfl; exact rfl; exact rfl)
    | (apply ds_setC; exact rfl; exact rfl; exact rfl; exact rfl)
    | (apply ds_bsC; exact rfl; exact rfl; exact rfl; exact rfl)
    | (apply ds_tradeC; exact rfl; (first | (with_reducible exact trivial) | (with_reducible exact u8_range _) | (with_reducible exact sat_range _ _) | omega | (constructor <;> omega) | (simp only [List.length_map]; omega) | (unfold maxLen at *; omega) | (simp <;> omega) | (unfold maxLen; simp <;> omega)); exact rfl; exact rfl; exact rfl; exact rfl))
      unfold joinS
      rw [if_pos h2, if_neg (by omega)]
      exact ret_2 rfl ⟨rfl, rfl⟩
end Go.Proofs.Ytapciiffpnociaa
