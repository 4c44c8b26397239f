/- Several texts in one: WirA WirB TokR WirC GxElm RelA. Condition: none. -/
import Derived.Test.YtapciiffpnociabB08
import Derived.Laws.MakeOwn
import Derived.Laws.OwnMore
import Derived.Test.YtapciiffpnociabB01

/- The program's orders of ids and facts; whether lists rise. Condition: none. -/
namespace Go.Proofs.Ytapciiffpnociab
open Go Go.RowKit
attribute [local irreducible] DW DS DL DQ Ev FnOk FnP thenD inBlockD DT

theorem rises_bad {α : Type} {o : α → α → Int} {l : List α} {i : Nat} (hi : i + 1 < l.length) (h : 0 ≤ o (l[i]'(by omega)) l[i + 1]) : rises o (l.drop i) = false := by
  rw [List.drop_eq_getElem_cons (by omega), List.drop_eq_getElem_cons hi, rises, decide_eq_false (by omega)]; rfl
theorem rises_ok {α : Type} {o : α → α → Int} {l : List α} {i : Nat} (hi : i + 1 < l.length) (h : o (l[i]'(by omega)) l[i + 1] < 0) : rises o (l.drop i) = rises o (l.drop (i + 1)) := by
  rw [List.drop_eq_getElem_cons (show i < l.length by omega), List.drop_eq_getElem_cons hi, rises, decide_eq_true h]; rfl
theorem rises_end {α : Type} {o : α → α → Int} {l : List α} {i : Nat} (hi : l.length ≤ i + 1) : rises o (l.drop i) = true := by
  by_cases h : i < l.length
  · rw [List.drop_eq_getElem_cons h, List.drop_of_length_le hi]; unfold rises; rfl
  · rw [List.drop_of_length_le (by omega)]; unfold rises; rfl

set_option maxHeartbeats 8000000 in
theorem isNaN_fnD (dr : Bool) (a : Int) : FnD dr 32 [.d (.int .i64 a)] (fun r => r = .d (.bool false)) := by
  refine fnp_enter' _ Try.func32 rfl rfl (by kernel_rfl) ?_
  intro O w0 E0 β0
  repeat' (first | (apply ds_evC; exact rfl; (with_reducible exact trivial); (with_reducible exact rfl); exact rfl; exact rfl; exact rfl) | apply ds_nil | apply dw_seq2 | (apply ds_region; exact rfl) | apply dw_ret | apply thenD_n)
  exact ret_b rfl (by simp)
theorem isNaN_fn (a : Int) : Fn 32 [.d (.int .i64 a)] (fun r => r = .d (.bool false)) := isNaN_fnD false a
set_option maxHeartbeats 8000000 in
theorem compare_fnD (dr : Bool) (a b : Int) : FnD dr 23 [.d (.int .i64 a), .d (.int .i64 b)] (fun r => r = .d (.int .i64 (cmpI a b))) := by
  refine fnp_enter' _ Try.func23 rfl rfl (by kernel_rfl) ?_
  intro O w0 E0 β0
  repeat' (first | (apply ds_evC; exact rfl; (with_reducible exact trivial); (with_reducible exact rfl); exact rfl; exact rfl; exact rfl) | apply ds_nil | apply dw_seq2 | (apply ds_region; exact rfl) | apply dw_skip | apply dw_ret | (apply dw_condF; exact rfl) | apply thenD_n | apply thenD_r | (apply ds_call; exact rfl; exact rfl; apply isNaN_fnD; exact rfl; (exact rfl); exact rfl; rintro _ rfl) | (apply dw_condP; exact rfl; all_goals intro hg))
  all_goals exact ret_i rfl (by unfold cmpI; simp [*])
theorem compare_fn (a b : Int) : Fn 23 [.d (.int .i64 a), .d (.int .i64 b)] (fun r => r = .d (.int .i64 (cmpI a b))) := compare_fnD false a b

/-- The first that is not nothing. -/
def orL : List Int → Int
  | [] => 0
  | a :: l => if a = 0 then orL l else a
set_option maxHeartbeats 8000000 in
theorem or_fnD (dr : Bool) (l : List Int) : FnD dr 22 [.d (.slice 1 (l.map encI))] (fun r => r = .d (.int .i64 (orL l))) := by
  refine fnp_enter' _ Try.func22 rfl rfl (by kernel_rfl) ?_
  intro O w0 E0 β0
  refine dw_len_map (t := 0) rfl fun hb => ?_
  repeat' (first | (apply ds_evC; exact rfl; (with_reducible exact trivial); (with_reducible exact rfl); exact rfl; exact rfl; exact rfl) | apply ds_nil | apply dw_seq2 | (apply ds_region; exact rfl) | apply dw_block | apply thenD_n)
  refine ds_loop (ι := Nat) (fun i => ⟨0, [(3, .d (.int .i64 0)), (6, .d (.slice 1 (l.map encI))), (7, .d (.int .i64 l.length)), (8, .d (.int .i64 i))], []⟩)
    (fun i => i ≤ l.length ∧ orL l = orL (l.drop i)) (fun i => l.length - i) 0 ⟨Nat.zero_le _, rfl⟩
    (ent_ren id ⟨rfl, rfl, by simp; rfl, rfl, trivial⟩ trivial rfl rfl rfl rfl rfl rfl) ?_
  rintro i ⟨h1, h2⟩
  repeat' (first | (apply ds_evC; exact rfl; (with_reducible exact trivial); (with_reducible exact rfl); exact rfl; exact rfl; exact rfl) | apply ds_nil | apply dw_seq2 | (apply ds_region; exact rfl) | apply thenD_n)
  refine dw_condP rfl (fun h => ?_) (fun h => ?_)
  · have hi : i < l.length := by omega
    have hd := List.drop_eq_getElem_cons hi
    repeat' (first | (apply ds_evC; exact rfl; (first | (with_reducible exact trivial) | (simp only [List.length_map]; omega)); (first | ((with_reducible apply hv_row); (exact rfl); (rw [List.length_map]; omega)) | (with_reducible exact rfl)); exact rfl; exact rfl; exact rfl) | apply ds_nil | apply dw_seq2 | (apply ds_region; exact rfl) | apply dw_block | apply dw_skip | apply thenD_n)
    refine dw_condP rfl (fun hb => ?_) (fun hb => ?_)
    · repeat' (first | (apply ds_evC; exact rfl; (with_reducible exact trivial); (with_reducible exact rfl); exact rfl; exact rfl; exact rfl) | apply ds_nil | apply dw_seq2 | (apply ds_region; exact rfl) | apply dw_ret | apply thenD_n | apply thenD_r | apply inB_r)
      exact ret_i rfl (by rw [h2, hd, orL, if_neg hb])
    · repeat' (first | (apply ds_evC; exact rfl; (first | (with_reducible exact trivial) | omega); (with_reducible exact rfl); exact rfl; exact rfl; exact rfl) | apply ds_nil | (apply ds_region; exact rfl) | apply dw_skip | apply thenD_n | apply inB_n)
      exact ⟨i + 1, ⟨hi, by rw [h2, hd, orL, if_pos (Decidable.not_not.1 hb)]⟩, ent_ren id ⟨rfl, rfl, rfl, rfl, trivial⟩ trivial rfl rfl rfl rfl rfl rfl, by omega⟩
  · repeat' (first | (apply ds_evC; exact rfl; (with_reducible exact trivial); (with_reducible exact rfl); exact rfl; exact rfl; exact rfl) | apply ds_nil | apply dw_seq2 | (apply ds_region; exact rfl) | apply dw_exit | apply dw_ret | apply thenD_n | apply thenD_e | (apply inB_e; exact rfl))
    exact ret_i rfl (by rw [h2, List.drop_of_length_le (by omega)]; rfl)
theorem or_fn (l : List Int) : Fn 22 [.d (.slice 1 (l.map encI))] (fun r => r = .d (.int .i64 (orL l))) := or_fnD false l

theorem ordId_or (a b : UId) : ordId a b = orL [cmpI a.author b.author, cmpI a.number b.number] := by
  unfold ordId
  simp only [orL]
  split
  · split
    · assumption
    · rfl
  · rfl
theorem ordL_step {l m : List Int} {i : Nat} (h1 : i < l.length) (h2 : i < m.length) : ordL (l.drop i) (m.drop i) = if cmpI l[i] m[i] = 0 then ordL (l.drop (i + 1)) (m.drop (i + 1)) else cmpI l[i] m[i] := by
  rw [List.drop_eq_getElem_cons h1, List.drop_eq_getElem_cons h2, ordL]
theorem ordL_more {l m : List Int} {i : Nat} (h1 : i < l.length) (h2 : m.length ≤ i) : ordL (l.drop i) (m.drop i) = 1 := by
  rw [List.drop_eq_getElem_cons h1, List.drop_of_length_le h2]; unfold ordL; rfl
theorem ordL_less {l m : List Int} {i : Nat} (h1 : l.length ≤ i) (h2 : i < m.length) : ordL (l.drop i) (m.drop i) = -1 := by
  rw [List.drop_eq_getElem_cons h2, List.drop_of_length_le h1]; unfold ordL; rfl
theorem ordL_end {l m : List Int} {i : Nat} (h1 : l.length ≤ i) (h2 : m.length ≤ i) : ordL (l.drop i) (m.drop i) = 0 := by
  rw [List.drop_of_length_le h1, List.drop_of_length_le h2]; unfold ordL; rfl

set_option maxHeartbeats 8000000 in
theorem compareInts_fnD (dr : Bool) (l m : List Int) : FnD dr 24 [.d (.slice 1 (l.map encI)), .d (.slice 1 (m.map encI))] (fun r => r = .d (.int .i64 (ordL l m))) := by
  refine fnp_enter' _ Try.func24 rfl rfl (by kernel_rfl) ?_
  intro O w0 E0 β0
  refine dw_len_map (t := 0) rfl fun hb => ?_
  refine dw_len_map (t := 1) rfl fun hb2 => ?_
  repeat' (first | (apply ds_evC; exact rfl; (with_reducible exact trivial); (with_reducible exact rfl); exact rfl; exact rfl; exact rfl) | apply ds_nil | apply dw_seq2 | (apply ds_region; exact rfl) | apply dw_block | apply thenD_n)
  refine ds_loop (ι := Nat) (fun i => ⟨0, [(0, .d (.slice 1 (l.map encI))), (1, .d (.slice 1 (m.map encI))), (9, .d (.slice 1 (l.map encI))), (10, .d (.int .i64 l.length)), (11, .d (.int .i64 i))], []⟩)
    (fun i => i ≤ l.length ∧ i ≤ m.length ∧ ordL l m = ordL (l.drop i) (m.drop i)) (fun i => l.length - i) 0 ⟨Nat.zero_le _, Nat.zero_le _, rfl⟩
    (ent_ren id ⟨rfl, rfl, rfl, by simp; rfl, rfl, trivial⟩ trivial rfl rfl rfl rfl rfl rfl) ?_
  rintro i ⟨h1, h2, h3⟩
  repeat' (first | (apply ds_evC; exact rfl; (with_reducible exact trivial); (with_reducible exact rfl); exact rfl; exact rfl; exact rfl) | apply ds_nil | apply dw_seq2 | (apply ds_region; exact rfl) | apply thenD_n)
  refine dw_condP rfl (fun h => ?_) (fun h => ?_)
  · have hi : i < l.length := by omega
    repeat' (first | (apply ds_evC; exact rfl; (first | (with_reducible exact trivial) | (simp only [List.length_map]; omega)); (first | ((with_reducible apply hv_row); (exact rfl); (rw [List.length_map]; omega)) | (with_reducible exact rfl)); exact rfl; exact rfl; exact rfl) | apply ds_nil | apply dw_seq2 | (apply ds_region; exact rfl) | apply dw_block | apply dw_skip | apply thenD_n)
    refine dw_condP rfl (fun hb => ?_) (fun hb => ?_)
    · repeat' (first | (apply ds_evC; exact rfl; (with_reducible exact trivial); (with_reducible exact rfl); exact rfl; exact rfl; exact rfl) | apply ds_nil | apply dw_seq2 | (apply ds_region; exact rfl) | apply dw_ret | apply thenD_n | apply thenD_r | apply inB_r)
      exact ret_i rfl (by rw [h3, ordL_more hi (by rw [List.length_map] at hb; omega)])
    · have hm : i < m.length := by rw [List.length_map] at hb; omega
      have hs := ordL_step hi hm
      repeat' (first | (apply ds_evC; exact rfl; (first | (with_reducible exact trivial) | omega); (first | ((with_reducible apply hv_row); (exact rfl); (omega)) | (with_reducible exact rfl)); exact rfl; exact rfl; exact rfl) | apply ds_nil | apply dw_seq2 | (apply ds_region; exact rfl) | apply dw_skip | apply thenD_n | (apply ds_call; exact rfl; exact rfl; apply compare_fnD; exact rfl; (exact rfl); exact rfl; rintro _ rfl))
      refine dw_condP rfl (fun hc => ?_) (fun hc => ?_)
      · repeat' (first | (apply ds_evC; exact rfl; (with_reducible exact trivial); (with_reducible exact rfl); exact rfl; exact rfl; exact rfl) | apply ds_nil | apply dw_seq2 | (apply ds_region; exact rfl) | apply dw_ret | apply thenD_n | apply thenD_r | apply inB_r)
        exact ret_i rfl (by rw [h3, hs, if_neg hc])
      · repeat' (first | (apply ds_evC; exact rfl; (first | (with_reducible exact trivial) | omega); (with_reducible exact rfl); exact rfl; exact rfl; exact rfl) | apply ds_nil | (apply ds_region; exact rfl) | apply dw_skip | apply thenD_n | apply inB_n)
        exact ⟨i + 1, ⟨hi, hm, by rw [h3, hs, if_pos (Decidable.not_not.1 hc)]⟩, ent_ren id ⟨rfl, rfl, rfl, rfl, rfl, trivial⟩ trivial rfl rfl rfl rfl rfl rfl, by omega⟩
  · repeat' (first | (apply ds_evC; exact rfl; (with_reducible exact trivial); (with_reducible exact rfl); exact rfl; exact rfl; exact rfl) | apply ds_nil | apply dw_seq2 | (apply ds_region; exact rfl) | apply dw_exit | apply thenD_n | apply thenD_e | (apply inB_e; exact rfl))
    refine dw_condP rfl (fun hb => ?_) (fun hb => ?_)
    · repeat' (first | (apply ds_evC; exact rfl; (with_reducible exact trivial); (with_reducible exact rfl); exact rfl; exact rfl; exact rfl) | apply ds_nil | apply dw_seq2 | (apply ds_region; exact rfl) | apply dw_ret | apply thenD_n | apply thenD_r)
      exact ret_i rfl (by rw [h3, ordL_less (by omega) (by rw [List.length_map, List.length_map] at hb; omega)])
    · repeat' (first | (apply ds_evC; exact rfl; (with_reducible exact trivial); (with_reducible exact rfl); exact rfl; exact rfl; exact rfl) | apply ds_nil | apply dw_seq2 | (apply ds_region; exact rfl) | apply dw_skip | apply dw_ret | apply thenD_n)
      exact ret_i rfl (by rw [h3, ordL_end (by omega) (by rw [List.length_map, List.length_map] at hb; omega)])
theorem compareInts_fn (l m : List Int) : Fn 24 [.d (.slice 1 (l.map encI)), .d (.slice 1 (m.map encI))] (fun r => r = .d (.int .i64 (ordL l m))) := compareInts_fnD false l m

theorem ordF_or (a b : Fct) : ordF a b = orL [cmpI a.pred b.pred, ordL a.args b.args] := by
  unfold ordF
  simp only [orL]
  split
  · split
    · assumption
    · rfl
  · rfl
set_option maxHeartbeats 8000000 in
theorem orderF_fnD (dr : Bool) (a b : Fct) : FnD dr 10 [elFct a, elFct b] (fun r => r = .d (.int .i64 (ordF a b))) := by
  refine fnp_enter' _ Try.func10 rfl rfl (by kernel_rfl) ?_
  intro O w0 E0 β0
  have ho := or_fnD dr [cmpI a.pred b.pred, ordL a.args b.args]
  repeat' (first | (apply ds_evC; exact rfl; (with_reducible exact trivial); (with_reducible exact rfl); exact rfl; exact rfl; exact rfl) | apply ds_nil | (apply dt_ev; exact rfl; exact rfl; (with_reducible exact trivial); (with_reducible exact rfl); exact rfl; exact rfl; exact rfl; exact rfl) | (apply dt_nil0; exact rfl; exact rfl; exact rfl; exact rfl) | apply dw_seq2 | (apply ds_region; exact rfl) | (apply dw_any; kernel_rfl; kernel_rfl; exact rfl; exact rfl) | apply dw_ret | apply thenD_n | (apply dt_call; exact rfl; exact rfl; apply compare_fnD; exact rfl; (exact rfl); exact rfl; exact rfl; exact ⟨_, rfl⟩; rintro _ rfl) | (apply dt_call; exact rfl; exact rfl; apply compareInts_fnD; exact rfl; (exact rfl); exact rfl; exact rfl; exact ⟨_, rfl⟩; rintro _ rfl) | (apply dt_call; exact rfl; exact rfl; apply ho; exact rfl; (exact rfl); exact rfl; exact rfl; exact ⟨_, rfl⟩; rintro _ rfl) | (apply ds_newC; exact rfl; (with_reducible exact trivial); exact rfl; exact rfl; exact rfl))
  exact ret_i rfl (ordF_or a b).symm
theorem orderF_fn (a b : Fct) : Fn 10 [elFct a, elFct b] (fun r => r = .d (.int .i64 (ordF a b))) := orderF_fnD false a b

end Go.Proofs.Ytapciiffpnociab

/- The program's Check of updates. Condition: none. -/
namespace Go.Proofs.Ytapciiffpnociab
open Go Go.RowKit
attribute [local irreducible] DW DS DL DQ Ev FnOk FnP thenD inBlockD DT

theorem same_beq {x y : UId} {b : Bool} (h : (decide (y.author = x.author) && (decide (y.number = x.number) && true)) = b) : UId.same x y = b := by
  rw [← h]
  unfold UId.same
  rw [Bool.and_true]
  congr 1 <;> (rw [Bool.eq_iff_iff]; simp; exact eq_comm)
end Go.Proofs.Ytapciiffpnociab

/- The reference's small calls on bytes, and TokenAt, answer what the plain words say. Condition: none. -/
namespace Go.Proofs.Ytapciiffpnociab
open Go Go.RowKit
attribute [local irreducible] DW DS DL DQ Ev FnOk FnP thenD inBlockD DT

theorem ext2 (s : ByteArray) (i : Nat) (h : i + 1 < s.size) : s.extract i (i + 2) = ⟨#[s[i], s[i + 1]]⟩ := by
  apply ByteArray.ext
  simp only [ByteArray.data_extract]
  apply Array.toList_inj.1
  rw [Array.toList_extract]
  have hl : s.data.toList.length = s.size := by simp
  rw [List.extract_eq_take_drop, show i + 2 - i = 2 by omega, List.drop_eq_getElem_cons (by omega), List.drop_eq_getElem_cons (by omega), byteAt _ _ (by omega), byteAt _ _ (by omega)]
  rfl

theorem pair_ext (s : ByteArray) (i : Nat) (h : i + 1 < s.size) : pairB (s[i] :: s.data.toList.drop (i + 1)) = (decide (s.extract i (i + 2) = ⟨#[58, 45]⟩) || decide (s.extract i (i + 2) = ⟨#[60, 61]⟩) || decide (s.extract i (i + 2) = ⟨#[33, 61]⟩)) := by
  have hl : s.data.toList.length = s.size := by simp
  have key : ∀ a b c d : UInt8, decide ((⟨#[a, b]⟩ : ByteArray) = ⟨#[c, d]⟩) = (a == c && b == d) := fun a b c d => by
    rw [Bool.eq_iff_iff]; simp
  rw [ext2 s i h, key, key, key, List.drop_eq_getElem_cons (by omega), byteAt _ _ (by omega), pairB]

theorem signs_step (c : UInt8) (i : Nat) (h : i < (⟨#[40, 41, 44, 46, 60, 61, 43, 45, 42]⟩ : ByteArray).size) : (signs.drop i).contains c = (decide ((((⟨#[40, 41, 44, 46, 60, 61, 43, 45, 42]⟩ : ByteArray)[i]'h).toNat : Int) = (c.toNat : Int)) || (signs.drop (i + 1)).contains c) := by
  have h' : i < signs.length := h
  have e : signs[i] = (⟨#[40, 41, 44, 46, 60, 61, 43, 45, 42]⟩ : ByteArray)[i]'h := byteAt _ i h
  rw [List.drop_eq_getElem_cons h', List.contains_cons, e]
  congr 1
  rw [Bool.eq_iff_iff]
  simp only [beq_iff_eq, decide_eq_true_eq]
  exact ⟨fun h => by rw [h], fun h => (UInt8.toNat_inj.1 (by omega)).symm⟩

end Go.Proofs.Ytapciiffpnociab

/- The document's CheckUpdate; what is the same. Condition: none. -/
namespace Go.Proofs.Ytapciiffpnociab
open Go Go.RowKit
attribute [local irreducible] DW DS DL DQ Ev FnOk FnP thenD inBlockD DT

theorem all_step {α : Type} {p : α → Bool} {l : List α} {i : Nat} (hi : i < l.length) : (l.drop i).all p = (p l[i] && (l.drop (i + 1)).all p) := by
  rw [List.drop_eq_getElem_cons hi]; rfl
theorem all_end {α : Type} {p : α → Bool} {l : List α} {i : Nat} (hi : l.length ≤ i) : (l.drop i).all p = true := by
  rw [List.drop_of_length_le hi]; rfl
theorem same_beq2 {x y : UId} {b : Bool} (h : (decide (x.author = y.author) && (decide (x.number = y.number) && true)) = b) : UId.same x y = b := by
  rw [← h]
  unfold UId.same
  rw [Bool.and_true]
theorem same_not {x y : UId} {b : Bool} (h : (!(decide (x.author = y.author) && (decide (x.number = y.number) && true))) = !b) : UId.same x y = b := by
  have h2 := congrArg (fun q => !q) h
  simp only [Bool.not_not] at h2
  exact same_beq2 h2
theorem fct_not {x y : Fct} {b : Bool} (h : decide (ordF x y ≠ 0) = !b) : Fct.same x y = b := by
  unfold Fct.same
  cases b <;> simpa using h
theorem ordL_lt {l m : List Int} {i : Nat} (h1 : i < l.length) (h2 : i < m.length) (h : l[i] < m[i]) : ordL (l.drop i) (m.drop i) = -1 := by
  have e : cmpI l[i] m[i] = -1 := by unfold cmpI; rw [if_pos h]
  rw [ordL_step h1 h2, e]; rfl
theorem ordL_gt {l m : List Int} {i : Nat} (h1 : i < l.length) (h2 : i < m.length) (h : m[i] < l[i]) : ordL (l.drop i) (m.drop i) = 1 := by
  have e : cmpI l[i] m[i] = 1 := by unfold cmpI; rw [if_neg (by omega), if_pos h]
  rw [ordL_step h1 h2, e]; rfl
theorem ordL_eq {l m : List Int} {i : Nat} (h1 : i < l.length) (h2 : i < m.length) (h : l[i] = m[i]) : ordL (l.drop i) (m.drop i) = ordL (l.drop (i + 1)) (m.drop (i + 1)) := by
  rw [ordL_step h1 h2, h, if_pos (cmpI_self _)]
theorem cmpI_eq (a b : Int) : (cmpI a b = 0) = (a = b) := by unfold cmpI; rw [eq_iff_iff]; split <;> (try split) <;> simp <;> omega
set_option maxHeartbeats 8000000 in
theorem orderOf_fn (a b : Fct) : Fn 17 [elFct a, elFct b] (fun r => r = .d (.int .i64 (ordF a b))) := by
  refine fnp_enter' _ Try.func17 rfl rfl (by kernel_rfl) ?_
  intro O w0 E0 β0
  repeat' (first | (apply ds_evC; exact rfl; (with_reducible exact trivial); (with_reducible exact rfl); exact rfl; exact rfl; exact rfl) | apply ds_nil | apply dw_seq2 | (apply ds_region; exact rfl) | apply thenD_n | (apply ds_newC; exact rfl; (with_reducible exact trivial); exact rfl; exact rfl; exact rfl))
  refine dw_condP rfl (fun hp => ?_) (fun hp => ?_)
  · repeat' (first | (apply ds_evC; exact rfl; (with_reducible exact trivial); (with_reducible exact rfl); exact rfl; exact rfl; exact rfl) | apply ds_nil | apply dw_seq2 | (apply ds_region; exact rfl) | apply dw_skip | apply dw_ret | apply thenD_n | apply thenD_r | (apply dw_condP; exact rfl; all_goals intro hg))
    all_goals exact ret_i rfl (by unfold ordF; rw [if_neg (by rw [cmpI_eq]; exact hp)]; unfold cmpI; repeat' split; all_goals first | rfl | omega)
  · have hF : ordF a b = ordL a.args b.args := by unfold ordF; rw [if_pos (by rw [cmpI_eq]; exact Decidable.not_not.1 hp)]
    repeat' (first | (apply ds_evC; exact rfl; (with_reducible exact trivial); (with_reducible exact rfl); exact rfl; exact rfl; exact rfl) | apply ds_nil | apply dw_seq2 | (apply ds_region; exact rfl) | apply dw_block | apply dw_skip | apply thenD_n)
    refine ds_loop (ι := Nat) (fun i => ⟨2, [(2, .loc 0 0), (3, .loc 1 0), (5, .d (.int .i64 i))], [(0, .blk 25 [.d (.int .i64 a.pred), .d (.slice 1 (a.args.map encI))]), (1, .blk 25 [.d (.int .i64 b.pred), .d (.slice 1 (b.args.map encI))])]⟩)
      (fun i => i ≤ a.args.length ∧ i ≤ b.args.length ∧ ordF a b = ordL (a.args.drop i) (b.args.drop i)) (fun i => a.args.length - i) 0 ⟨Nat.zero_le _, Nat.zero_le _, hF⟩
      (ent_ren id ⟨rfl, rfl, rfl, trivial⟩ ⟨rfl, rfl, trivial⟩ rfl rfl rfl rfl rfl rfl) ?_
    rintro i ⟨h1, h2, h3⟩
    refine dw_lenC 0 1 rfl rfl fun hb => ?_
    have la : (a.args.map encI).length = a.args.length := List.length_map _
    have lb : (b.args.map encI).length = b.args.length := List.length_map _
    repeat' (first | (apply ds_evC; exact rfl; (first | (with_reducible exact trivial) | omega); (with_reducible exact rfl); exact rfl; exact rfl; exact rfl) | (apply ds_skip; exact rfl; exact rfl) | apply ds_nil | (apply dt_ev; exact rfl; exact rfl; (first | (with_reducible exact trivial) | omega); (first | ((with_reducible apply hv_row); (exact rfl); (omega)) | (with_reducible exact rfl)); exact rfl; exact rfl; exact rfl; exact rfl) | (apply dt_nil0; exact rfl; exact rfl; exact rfl; exact rfl) | apply dw_seq2 | (apply ds_region; exact rfl) | (apply dw_any; kernel_rfl; kernel_rfl; exact rfl; exact rfl) | apply dw_block | apply dw_skip | apply dw_exit | apply dw_ret | (apply dw_condF; exact rfl) | apply thenD_n | apply thenD_e | apply thenD_r | apply inB_n | apply inB_r | (apply inB_e; exact rfl) | (apply dw_condP; exact rfl; all_goals intro hg) | ((fail_if_success (apply ds_known; exact rfl)); apply ds_guardP; exact rfl; exact rfl; exact rfl; all_goals intro hg))
    all_goals first
      | (refine ret_i rfl (Eq.trans ?_ h3.symm); refine (ordL_lt ?_ ?_ ?_).symm <;> first | assumption | omega)
      | (refine ret_i rfl (Eq.trans ?_ h3.symm); refine (ordL_gt ?_ ?_ ?_).symm <;> first | assumption | omega)
      | (refine ret_i rfl (Eq.trans ?_ h3.symm); refine (ordL_less ?_ ?_).symm <;> omega)
      | (refine ret_i rfl (Eq.trans ?_ h3.symm); refine (ordL_more ?_ ?_).symm <;> omega)
      | (refine ret_i rfl (Eq.trans ?_ h3.symm); refine (ordL_end ?_ ?_).symm <;> omega)
      | (refine ⟨i + 1, ⟨?_, ?_, h3.trans (ordL_eq ?_ ?_ ?_)⟩, ent_ren id ⟨rfl, rfl, rfl, trivial⟩ ⟨rfl, rfl, trivial⟩ rfl rfl rfl rfl rfl rfl, ?_⟩ <;> omega)
set_option maxHeartbeats 8000000 in
theorem sameFacts_fn (l m : List (Fct)) : Fn 7 [.d (.slice 2 (l.map encFct)), .d (.slice 2 (m.map encFct))] (fun r => r = .d (.bool (sameL Fct.same l m))) := by
  refine fnp_enter' _ Try.func7 rfl rfl (by kernel_rfl) ?_
  intro O w0 E0 β0
  refine dw_len_map (t := 0) rfl fun hb => ?_
  repeat' (first | (apply ds_evC; exact rfl; (with_reducible exact trivial); (with_reducible exact rfl); exact rfl; exact rfl; exact rfl) | apply ds_nil | apply dw_seq2 | (apply ds_region; exact rfl) | apply thenD_n)
  refine dw_condP rfl (fun h => ?_) (fun h => ?_)
  · have hne : l.length ≠ m.length := by rw [List.length_map, List.length_map] at h; omega
    repeat' (first | (apply ds_evC; exact rfl; (with_reducible exact trivial); (with_reducible exact rfl); exact rfl; exact rfl; exact rfl) | apply ds_nil | apply dw_seq2 | (apply ds_region; exact rfl) | apply dw_ret | apply thenD_n | apply thenD_r)
    exact ret_b rfl (sameL_len _ _ _ hne).symm
  · have hlen : l.length = m.length := by rw [List.length_map, List.length_map] at h; omega
    repeat' (first | (apply ds_evC; exact rfl; (with_reducible exact trivial); (with_reducible exact rfl); exact rfl; exact rfl; exact rfl) | apply ds_nil | apply dw_seq2 | (apply ds_region; exact rfl) | apply dw_block | apply dw_skip | apply thenD_n)
    refine ds_loop (ι := Nat) (fun i => ⟨0, [(0, .d (.slice 2 (l.map encFct))), (1, .d (.slice 2 (m.map encFct))), (5, .d (.int .i64 i))], []⟩)
      (fun i => i ≤ l.length ∧ sameL Fct.same l m = sameL Fct.same (l.drop i) (m.drop i)) (fun i => l.length - i) 0 ⟨Nat.zero_le _, rfl⟩
      (ent_ren id ⟨rfl, rfl, rfl, trivial⟩ trivial rfl rfl rfl rfl rfl rfl) ?_
    rintro i ⟨h1, h2⟩
    repeat' (first | (apply ds_evC; exact rfl; (with_reducible exact trivial); (with_reducible exact rfl); exact rfl; exact rfl; exact rfl) | apply ds_nil | apply dw_seq2 | (apply ds_region; exact rfl) | apply thenD_n)
    refine dw_condP rfl (fun h => ?_) (fun h => ?_)
    · have hi : i < l.length := by rw [List.length_map] at h; omega
      have hm : i < m.length := by omega
      have hd := sameL_drop Fct.same l m i hi hm
      repeat' (first | (apply dt_ev; exact rfl; exact rfl; (first | (with_reducible exact trivial) | omega); (first | ((with_reducible apply hv_row); (exact rfl); (omega)) | (with_reducible exact rfl)); exact rfl; exact rfl; exact rfl; exact rfl) | (apply dt_nil0; exact rfl; exact rfl; exact rfl; exact rfl) | apply dw_seq2 | (apply dw_any; kernel_rfl; kernel_rfl; exact rfl; exact rfl) | apply dw_block | apply dw_skip | apply thenD_n | (apply dt_call; exact rfl; exact rfl; apply orderOf_fn; exact rfl; (exact rfl); exact rfl; exact rfl; exact ⟨_, rfl⟩; rintro _ rfl))
      refine dw_cond rfl (fun hb => ?_) (fun hb => ?_)
      · have hp : Fct.same l[i] m[i] = false := by exact fct_not hb
        repeat' (first | (apply ds_evC; exact rfl; (with_reducible exact trivial); (with_reducible exact rfl); exact rfl; exact rfl; exact rfl) | apply ds_nil | apply dw_seq2 | (apply ds_region; exact rfl) | apply dw_ret | apply thenD_n | apply thenD_r | apply inB_r)
        exact ret_b rfl (by rw [h2, hd, hp]; rfl)
      · have hp : Fct.same l[i] m[i] = true := by exact fct_not hb
        repeat' (first | (apply ds_evC; exact rfl; (first | (with_reducible exact trivial) | omega); (with_reducible exact rfl); exact rfl; exact rfl; exact rfl) | apply ds_nil | (apply ds_region; exact rfl) | apply dw_skip | apply thenD_n | apply inB_n)
        exact ⟨i + 1, ⟨hi, by rw [h2, hd, hp]; rfl⟩, ent_ren id ⟨rfl, rfl, rfl, trivial⟩ trivial rfl rfl rfl rfl rfl rfl, by omega⟩
    · repeat' (first | (apply ds_evC; exact rfl; (with_reducible exact trivial); (with_reducible exact rfl); exact rfl; exact rfl; exact rfl) | apply ds_nil | apply dw_seq2 | (apply ds_region; exact rfl) | apply dw_exit | apply dw_ret | apply thenD_n | apply thenD_e | (apply inB_e; exact rfl))
      exact ret_b rfl (by rw [h2, sameL_end _ _ _ _ (by rw [List.length_map] at h; omega) (by rw [List.length_map] at h; omega)])

end Go.Proofs.Ytapciiffpnociab

/- A plain logic over the walk: elements of own rows: read, written; rows that are made; rows that are shown to a call. No program is named here. Condition: none. -/
namespace Go.Proofs.Ytapciiffpnociab
open Go Go.RowKit

section
variable {Γ : Ctx} {k : Nat → Prop} {L : Sl} {H : Hp} {K : Next'} {ops : List Oper} {rest : List Oper} {a : Act} {w : World} {e : Env} {t t' ty : TypeId} {x y : Operand}

/-- Cells of data. -/
def dcellsL : List SV → Option (List D)
  | [] => some []
  | .d x :: l => match dcellsL l with
    | some xs => some (x :: xs)
    | none => none
  | _ :: _ => none
def dcells : SV → Option (List D)
  | .d x => some [x]
  | .agg ss => dcellsL ss
  | _ => none
theorem dcellsL_spec {X e w} : ∀ {ss : List SV} {vs : List Value} {ds : List D}, dcellsL ss = some ds → RelL X e w ss vs → vs.length = ds.length ∧ (∀ u ∈ vs, u.oneCell' = true) ∧ ∀ q (hq : q < ds.length), ∃ u, vs[q]? = some u ∧ RepC X w u ds[q]
  | [], [], ds, h, _ => by cases h; exact ⟨rfl, by simp, fun q hq => absurd hq (Nat.not_lt_zero q)⟩
  | [], _ :: _, _, _, h => h.elim
  | _ :: _, [], _, _, h => h.elim
  | s :: ss, v :: vs, ds, h, ⟨h1, h2⟩ => by
    cases s with
    | d x =>
      simp only [dcellsL] at h
      split at h
      · rename_i xs hx
        cases h
        obtain ⟨g1, g2, g3⟩ := dcellsL_spec hx h2
        refine ⟨by simp [g1], fun u hu => ?_, fun q hq => ?_⟩
        · rcases List.mem_cons.1 hu with rfl | hu
          · exact (RepC.one h1).1
          · exact g2 u hu
        · cases q with
          | zero => exact ⟨v, rfl, h1⟩
          | succ q => simpa using g3 q (by simpa using hq)
      · cases h
    | _ => cases h
theorem dcells_spec {X e w} {s : SV} {v : Value} {ds : List D} (h : dcells s = some ds) (hr : Rel X e w s v) : v.cells.toList.length = ds.length ∧ (∀ u ∈ v.cells.toList, u.oneCell' = true) ∧ ∀ q (hq : q < ds.length), ∃ u, v.cells.toList[q]? = some u ∧ RepC X w u ds[q] := by
  cases s with
  | d x =>
    cases h
    have hr : RepC X w v x := hr
    rw [show v.cells.toList = [v] by rw [(RepC.one hr).2]]
    refine ⟨rfl, fun u hu => ?_, fun q hq => ?_⟩
    · rw [List.mem_singleton.1 hu]; exact (RepC.one hr).1
    · have : q = 0 := by simp at hq; omega
      subst this
      exact ⟨v, rfl, hr⟩
  | agg ss =>
    obtain ⟨vs, rfl, h2⟩ := hr
    have := dcellsL_spec h h2
    simpa [Value.cells] using this
  | _ => cases h

/-- Cells of an element are written. -/
def spliceD (ds : List D) (o : Nat) (new : List D) : List D := ds.take o ++ new ++ ds.drop (o + new.length)
theorem spliceD_len {ds new : List D} {o : Nat} (h : o + new.length ≤ ds.length) : (spliceD ds o new).length = ds.length := by
  unfold spliceD
  simp
  omega
theorem mul_lt_row {i j es q : Nat} (h : i < j) (hq : q < es) : i * es + q < j * es := by
  have h1 : (i + 1) * es ≤ j * es := Nat.mul_le_mul_right _ h
  rw [Nat.add_mul] at h1
  omega

theorem splice_get {α : Type} (vs new : List α) (o p : Nat) (h : o + new.length ≤ vs.length) : (vs.take o ++ new ++ vs.drop (o + new.length))[p]? = if p < o then vs[p]? else if p < o + new.length then new[p - o]? else vs[p]? := by
  have ht : (vs.take o).length = o := by simp; omega
  by_cases h1 : p < o
  · rw [if_pos h1, List.append_assoc, List.getElem?_append_left (by omega), List.getElem?_take, if_pos h1]
  · rw [if_neg h1, List.append_assoc, List.getElem?_append_right (by omega), ht]
    by_cases h2 : p < o + new.length
    · rw [if_pos h2, List.getElem?_append_left (by omega)]
    · rw [if_neg h2, List.getElem?_append_right (by omega), List.getElem?_drop]
      congr 1
      omega

theorem op_storeP {te tb : TypeId} {pos : String} {af : Array Edge} {g : Option (Nat × Bool)} {i j es o : Nat} {xs : List (List D)} {s : SV} {new : List D} (hx : opSV L x = .prow i j es o) (hH : Hp.get H i = some (.row tb es xs)) (hj : j < xs.length)
    (hy : opSV L y = s) (hyo : opOkB y = true) (hd : dcells s = some new) (hkn : (Γ.sh te).known = true) (hn : Nat.beq new.length (Γ.cells te) = true) (hle : Nat.ble (o + new.length) es = true) :
    OpOk Γ ⟨none, .store te x y, ty, pos, af, g⟩ k L H k L (Hp.set H i (.row tb es (xs.set j (spliceD xs[j] o new)))) := by
  intro e a w Q m
  obtain ⟨inf, z, hi, _, hs, _⟩ := Ctx.info (Sh.known_ne hkn)
  obtain ⟨_, g0, n0, cap0, hη, hp⟩ := evT m hx (cSV_prow · _ _ _ _)
  have hr := m.op y (opOkB_spec hyo)
  rw [hy] at hr
  obtain ⟨c1, c2, c3⟩ := dcells_spec hd hr
  have hmem := Hp.mem_of hH
  obtain ⟨vs, ho, hes, hone, hrep⟩ := (m.heap _ hmem).2
  have hle' := Nat.le_of_ble_eq_true hle
  have hn' := Nat.eq_of_beq_eq_true hn
  rcases ho.2 with ⟨h2, h3⟩ | ⟨g', cap', cur, h2, hb0, hg, hnc, hcm, hcs, htake⟩
  · omega
  rw [hη] at h2
  cases h2
  generalize hN : (a.eval y).cells.toList = N at c1 c2 c3
  have hlen : vs.length = xs.length * es := ho.1
  have hjr : j * es + o + N.length ≤ xs.length * es := by
    have h1 : (j + 1) * es ≤ xs.length * es := Nat.mul_le_mul_right _ hj
    rw [Nat.add_mul] at h1
    omega
  have hcl : xs.length * es ≤ cur.toList.length := by
    rw [← hlen, ← htake, List.length_take]
    exact Nat.min_le_right _ _
  have hst := run_storeCells_at Γ.P g0 (j * es + o) tb N 0 cur w hg (by rw [← Array.length_toList]; omega) c2
  have hrun : (execOp a.eval ⟨none, .store te x y, ty, pos, af, g⟩).run Γ.P w = .ok .skip (w.setRow g0 (cur.toList.take (j * es + o) ++ N ++ cur.toList.drop (j * es + o + N.length)).toArray) := by
    have hsz : (a.eval y).cells.size = inf.size := by rw [← Array.length_toList, hN, c1, hn', hs]
    rw [← hN] at hst ⊢
    simp only [execOp, Instr.storeAt, hp, Instr.sureAddr]
    simp [storeVar, run_sizeOf hi, hsz, hst]
  unfold Oper.wp
  rw [hrun]
  have hown : HB.owned e (i, .row tb es xs) = some g0 := by simp [HB.owned, hη, Value.ownBlock]
  refine ⟨e, m.turn (b' := .row tb es (xs.set j (spliceD xs[j] o new))) hH ?_ rfl rfl rfl (fun _ => Nat.le_refl _) (fun c _ hc => setRow_other w _ c _ (fun h => hc (by rw [hown, h]))) rfl ?_⟩
  · simp [World.setRow]
  · have hset : (vs.take (j * es + o) ++ N ++ vs.drop (j * es + o + N.length)).length = xs.length * es := by simp; omega
    have hgo : (w.setRow g0 (cur.toList.take (j * es + o) ++ N ++ cur.toList.drop (j * es + o + N.length)).toArray).heap[g0]? = some (.cells (cur.toList.take (j * es + o) ++ N ++ cur.toList.drop (j * es + o + N.length)).toArray tb (0, 0)) := setRow_heap w g0 cur _ tb (0, 0) hg
    have hkeep : ∀ b, b < w.heap.size → ¬ Γ.X e H b → (w.setRow g0 (cur.toList.take (j * es + o) ++ N ++ cur.toList.drop (j * es + o + N.length)).toArray).heap[b]? = w.heap[b]? := fun b _ hb => setRow_other w _ b _ (fun h => hb (.inr (List.mem_filterMap.2 ⟨_, hmem, by rw [hown, h]⟩)))
    have hj0 : xs[j].length = es := hes j hj
    refine ⟨vs.take (j * es + o) ++ N ++ vs.drop (j * es + o + N.length), ⟨by rw [hset, List.length_set], .inr ⟨g0, _, _, ?_, hb0, hgo, ?_, hcm, ?_, ?_⟩⟩, fun i' h' => ?_, fun v hv => ?_, fun i' h' q hq => ?_⟩
    · rw [List.length_set]; exact hη
    · rw [List.length_set]; exact hnc
    · rw [← hcs]
      simp only [List.size_toArray, List.length_append, List.length_take, List.length_drop, Array.length_toList]
      have hcl2 : cur.toList.length = cur.size := Array.length_toList
      omega
    · rw [List.length_set]
      apply List.ext_getElem?
      intro p
      rw [List.getElem?_take]
      by_cases hp' : p < xs.length * es
      · rw [if_pos hp', splice_get _ _ _ _ (by omega), splice_get _ _ _ _ (by omega)]
        have hcv : cur.toList[p]? = vs[p]? := by rw [← htake, List.getElem?_take, if_pos hp']
        rw [hcv]
      · rw [if_neg hp', List.getElem?_eq_none (by omega)]
    · rw [List.getElem_set]
      split
      · rw [spliceD_len (by omega)]; exact hj0
      · exact hes i' (by simpa using h')
    · simp only [List.mem_append] at hv
      rcases hv with (hv | hv) | hv
      · exact hone v (List.mem_of_mem_take hv)
      · exact c2 v hv
      · exact hone v (List.mem_of_mem_drop hv)
    · have hi' : i' < xs.length := by simpa using h'
      rw [splice_get _ _ _ _ (by omega)]
      have old : ∀ (hq : q < xs[i'].length), ∃ v, vs[i' * es + q]? = some v ∧ RepC (Γ.X e H) (w.setRow g0 (cur.toList.take (j * es + o) ++ N ++ cur.toList.drop (j * es + o + N.length)).toArray) v (xs[i'][q]'hq) := fun hq => by
        obtain ⟨v, p1, p2⟩ := hrep i' hi' q hq
        exact ⟨v, p1, RepC.keep (by simp [World.setRow]) hkeep (fun _ _ h => h) p2⟩
      have hei := hes i' hi'
      by_cases hij : i' = j
      · subst hij
        have hsl : spliceD xs[i'] o new = (xs.set i' (spliceD xs[i'] o new))[i'] := by simp
        have hq0 : q < (spliceD xs[i'] o new).length := by rw [hsl]; exact hq
        have hq' : q < es := by rw [spliceD_len (by omega)] at hq0; omega
        have hg' := splice_get xs[i'] new o q (by omega)
        have hgq : (xs[i'].take o ++ new ++ xs[i'].drop (o + new.length))[q]? = some ((xs.set i' (spliceD xs[i'] o new))[i'][q]) := by
          have h9 := List.getElem?_eq_getElem hq0
          simp only [List.getElem_set_self]
          exact h9
        rw [hg'] at hgq
        by_cases q1 : q < o
        · rw [if_pos q1] at hgq
          rw [if_pos (by omega)]
          obtain ⟨v, p1, p2⟩ := old (by omega)
          rw [List.getElem?_eq_getElem (by omega)] at hgq
          injection hgq with hgq
          exact ⟨v, p1, hgq ▸ p2⟩
        · rw [if_neg q1] at hgq
          rw [if_neg (by omega)]
          by_cases q2 : q < o + new.length
          · rw [if_pos q2] at hgq
            rw [if_pos (by omega), show i' * es + q - (i' * es + o) = q - o by omega]
            obtain ⟨u, u1, u2⟩ := c3 (q - o) (by omega)
            rw [List.getElem?_eq_getElem (by omega)] at hgq
            injection hgq with hgq
            exact ⟨u, u1, hgq ▸ RepC.keep (by simp [World.setRow]) hkeep (fun _ _ h => h) u2⟩
          · rw [if_neg q2] at hgq
            rw [if_neg (by omega)]
            obtain ⟨v, p1, p2⟩ := old (by omega)
            rw [List.getElem?_eq_getElem (by omega)] at hgq
            injection hgq with hgq
            exact ⟨v, p1, hgq ▸ p2⟩
      · have hsx : (xs.set j (spliceD xs[j] o new))[i'] = xs[i'] := by rw [List.getElem_set, if_neg (fun h => hij h.symm)]
        have hq' : q < xs[i'].length := by rw [← hsx]; exact hq
        obtain ⟨v, p1, p2⟩ := old hq'
        have hv : (xs.set j (spliceD xs[j] o new))[i'][q] = xs[i'][q] := by simp only [hsx]
        rw [hv]
        rcases Nat.lt_or_gt_of_ne hij with h1 | h1
        · have := mul_lt_row (es := es) (q := q) h1 (by omega)
          rw [if_pos (by omega)]
          exact ⟨v, p1, p2⟩
        · have := mul_lt_row (es := es) (q := o + N.length - 1) h1
          have h4 : (j + 1) * es ≤ i' * es := Nat.mul_le_mul_right _ h1
          rw [Nat.add_mul] at h4
          rw [if_neg (by omega), if_neg (by omega)]
          exact ⟨v, p1, p2⟩

/-- A row of zero values is made. -/
theorem op_mk {d z n : Nat} {te : TypeId} {pos : String} {af : Array Edge} {g : Option (Nat × Bool)} {x y : Operand} {m' : Int} {v0 : Value} {x0 : D} (hz' : ¬ k z) (ht : Γ.sh t = .slice te) (hkn : (Γ.sh te).known = true) (hes : Γ.cells te = 1) (hzero : (tiGet Γ.τ te).zero = [v0]) (hx0 : cSV v0 = .d x0) (hzok : zeroOk (tiGet Γ.τ te).zero = true)
    (hx : opSV L x = .d (.int .i64 m')) (hy : opSV L y = .d (.int .i64 m')) (hn : m' = (n : Int)) (hroom : (tiGet Γ.τ te).bytes * n ≤ 281474976710656) (hmax : n ≤ maxLen) (hd : Nat.blt d Γ.n = true) :
    OpOk Γ ⟨some d, .makeSlice t x y, ty, pos, af, g⟩ k L H (with1 k z) ((d, .row z) :: L) ((z, .row te 1 (List.replicate n [x0])) :: H) := by
  subst hn
  intro e a w Q m
  have hze : ¬ e.dom z := fun h => hz' ((m.top z).1 h)
  obtain ⟨inf, zv, hi, hzz, hs, hb, hzc⟩ := Ctx.info (Sh.known_ne hkn)
  have hzcells : zv.cells = #[v0] := by
    apply Array.toList_inj.1
    rw [hzc, hzero]
  have hbytes : (inf.bytes : Int) * (n : Int) ≤ 281474976710656 := by
    have h : ((inf.bytes * n : Nat) : Int) ≤ 281474976710656 := by rw [hb]; omega
    rwa [Int.natCast_mul] at h
  have hrun := run_make (P := Γ.P) w t te inf zv (Ctx.slice ht) hi hzz .i64 .i64 (n : Int) n (by omega) (Int.le_refl _) hbytes (by unfold maxLen at hmax; omega)
  rw [hs, hes, Nat.mul_one, hzcells, Int.toNat_natCast] at hrun
  have hop : (execOp a.eval ⟨some d, .makeSlice t x y, ty, pos, af, g⟩).run Γ.P w = .ok (.value (.slice (some ⟨w.heap.size, 0, none⟩) n n)) (w.alloc (.cells (madeCells #[v0] n) te)) := by
    simp [execOp, evI m hx, evI m hy, hrun]
  unfold Oper.wp
  rw [hop]
  have hη : (e.bindRow z (.slice (some ⟨w.heap.size, 0, none⟩) n n)).η z = .slice (some ⟨w.heap.size, 0, none⟩) n n := if_pos rfl
  obtain ⟨hz1, hz2⟩ := zeroOk_spec (X := Γ.X e H) (e := e) (w := w) _ hzok
  rw [hzero] at hz1 hz2
  have hone : v0.oneCell' = true := hz2 v0 (List.mem_singleton.2 rfl)
  have hrep : RepC (Γ.X e H) w v0 x0 := by
    have h1 := hz1.1
    rw [hx0] at h1
    exact h1
  have m2 := m.new hz' (hb := .row te 1 (List.replicate n [x0])) (e' := e.bindRow z (.slice (some ⟨w.heap.size, 0, none⟩) n n)) (w' := w.alloc (.cells (madeCells #[v0] n) te)) (fun i => or_congr (m.top i) Iff.rfl) (e.bindRow_ext _ _ hze) (below_alloc Γ.dr _ _)
    (fun b hb => by simp only [HB.owned, hη, Value.ownBlock, Option.some.injEq] at hb; omega) (fun hX => by
      refine ⟨List.replicate n v0, ⟨by simp, .inr ⟨w.heap.size, n, _, by rw [hη, List.length_replicate], Nat.zero_le _, heap_alloc_new w _, by simp, hmax, by simp [size_madeCells], by rw [toList_madeCells_one]; simp⟩⟩, fun i h => by simp, fun v hv => ?_, fun i h j hj => ?_⟩
      · rw [(List.mem_replicate.1 hv).2]; exact hone
      · have hj0 : j = 0 := by simp at hj; omega
        subst hj0
        have hin : i < n := by simpa using h
        refine ⟨v0, by simp [hin], ?_⟩
        simp only [List.getElem_replicate, List.getElem_cons_zero]
        exact RepC.keep (below_alloc Γ.dr _ _).size (fun b hb _ => (below_alloc Γ.dr _ _).block b hb) (fun b hb hx => hX b hb hx) hrep)
  exact ⟨_, m2.put (s := .row z) (v := .slice (some ⟨w.heap.size, 0, none⟩) n n) (Nat.le_of_ble_eq_true hd) ⟨.inr rfl, hη.symm, rfl⟩⟩

/-- A stretch of data. -/
theorem ev_sliceD {es : Nat} {xs : List (List D)} {lo hi : Option Operand} {n m' : Int} (ht : Γ.sh t = .slice t') (hc : Γ.cells t' = es) (hkn : (Γ.sh t').known = true) (hx : opSV L x = .d (.slice es xs)) (hl : lowC (lo.map (opSV L)) = some n) (hh : highC xs.length (hi.map (opSV L)) = some m')
    (h0 : 0 ≤ n) (h1 : n ≤ m') (h2 : m' ≤ xs.length) : Ev Γ k L H (.slice t x lo hi none) ty (.d (.slice es ((xs.take m'.toNat).drop n.toNat))) := by
  intro e a w m
  have hrep := evT m hx (cSV_slice · _ _)
  obtain ⟨inf, z, hi', _, hs, _⟩ := Ctx.info (Sh.known_ne hkn)
  obtain ⟨ao, cap, hv, hlen, hmx, hnil⟩ := hrep.slice_inv
  have eN : ((n.toNat : Nat) : Int) = n := Int.toNat_of_nonneg h0
  have eM : ((m'.toNat : Nat) : Int) = m' := Int.toNat_of_nonneg (by omega)
  have hel : Γ.P.underlying t = some (.slice (Γ.P.elem t)) := by
    have h := Ctx.slice ht
    rw [h]
    simp [Program.elem, h]
  have hE : Γ.P.elem t = t' := by
    have h := Ctx.slice ht
    simp [Program.elem, h]
  have hrun : ∀ w', (Instr.slice t (.slice ao xs.length cap) (lo.map a.eval) (hi.map a.eval) none).run Γ.P w' = .ok (sliced ao n.toNat m'.toNat cap es) w' := by
    intro w'
    have hso : (sizeOf (Γ.P.elem t)).run Γ.P w' = .ok es w' := by rw [hE, run_sizeOf hi', hs, hc]
    have lo1 : ∀ z, lo = some z → opSV L z = .d (.int .i64 n) := by
      rintro z rfl
      simp only [Option.map_some] at hl
      generalize opSV L z = sz at hl
      unfold lowC at hl
      split at hl
      · rename_i h; cases h
      · rename_i h; cases h; cases hl; rfl
      · cases hl
    have hi1 : ∀ z, hi = some z → opSV L z = .d (.int .i64 m') := by
      rintro z rfl
      simp only [Option.map_some] at hh
      generalize opSV L z = sz at hh
      unfold highC at hh
      split at hh
      · rename_i h; cases h
      · rename_i h; cases h; cases hh; rfl
      · cases hh
    cases lo with
    | none =>
      cases hl
      cases hi with
      | none =>
        cases hh
        have := run_slice_all (P := Γ.P) (w := w') t ao xs.length cap hel
        rw [hso] at this
        simpa [Result.andThen] using this
      | some z =>
        have := run_slice_h (P := Γ.P) (w := w') t ao xs.length cap hel .i64 m' (by omega) (by omega)
        rw [hso] at this
        simpa [Result.andThen, evI m (hi1 z rfl)] using this
    | some y =>
      cases hi with
      | none =>
        cases hh
        have := run_slice_l (P := Γ.P) (w := w') t ao xs.length cap hel .i64 n h0 h1
        rw [hso] at this
        simpa [Result.andThen, evI m (lo1 y rfl)] using this
      | some z =>
        have := run_slice_lh (P := Γ.P) (w := w') t ao xs.length cap hel .i64 .i64 n m' h0 h1 (by omega)
        rw [hso] at this
        simpa [Result.andThen, evI m (lo1 y rfl), evI m (hi1 z rfl)] using this
  refine ⟨sliced ao n.toNat m'.toNat cap es, fun _ _ _ _ w' _ => ?_, ?_⟩
  · simp [execOp, Instr.sliceAt, hv, run_underlying (Ctx.slice ht), hrun w']
  · rw [hv] at hrep
    have hN : n.toNat ≤ m'.toNat := by omega
    have hM : m'.toNat ≤ xs.length := by omega
    generalize n.toNat = N at hN
    generalize m'.toNat = M at hN hM
    clear hrun hh hl
    have hlen2 : ((xs.take M).drop N).length = M - N := by simp; omega
    unfold sliced
    generalize hq : xs.length = q at hrep hM hlen
    cases hrep with
    | nil =>
      have hN0 : N = 0 := by simp at hq; omega
      have hM0 : M = 0 := by simp at hq; omega
      subst hN0; subst hM0
      exact .nil
    | zero =>
      have hN0 : N = 0 := by simp at hq; omega
      have hM0 : M = 0 := by simp at hq; omega
      subst hN0; subst hM0
      exact .zero
    | slice c hn hcc hm hX hb he hcell hrep =>
      rename_i b off
      by_cases hcn : cap = N
      · rw [if_pos hcn]
        have h0 : (xs.take M).drop N = [] := List.eq_nil_of_length_eq_zero (by omega)
        rw [h0, show M - N = 0 by omega, show cap - N = 0 by omega]
        exact .zero
      · rw [if_neg hcn, Option.map_some, Addr.add_at]
        have hget : ∀ i (h : i < ((xs.take M).drop N).length), ((xs.take M).drop N)[i]'h = xs[N + i]'(by omega) := by intro i h; simp
        refine .slice (fun i j => c (N + i) j) hlen2.symm (by omega) (by omega) hX hb (fun i h => ?_) (fun i h j hj => ?_) (fun i h j hj => ?_)
        · rw [hget i h]; exact he _ _
        · have hj2 : j < (xs[N + i]'(by omega)).length := by rw [← hget i h]; exact hj
          have := hcell (N + i) (by omega) j hj2
          rw [show off + (N + i) * es + j = off + N * es + i * es + j by rw [Nat.add_mul]; omega] at this
          exact this
        · have hj2 : j < (xs[N + i]'(by omega)).length := by rw [← hget i h]; exact hj
          have h3 := hrep (N + i) (by omega) j hj2
          have h4 : (((xs.take M).drop N)[i]'h)[j]'hj = (xs[N + i]'(by omega))[j]'hj2 := by simp only [hget i h]
          rw [h4]
          exact h3
end
section
variable {Γ : Ctx} {k : Nat} {L : Sl} {H : Hp} {K : Next'} {ops : List Oper} {rest : List Oper} {t t' ty : TypeId} {x y : Operand} {q : Bool}

theorem nat_sub_1 (a : Nat) : ((a + 1 : Nat) : Int) - 1 = (a : Int) := by omega
theorem hv_set {α : Type} {f : α → List D} {l : List α} {j o : Nat} {u v : α} {new : List D} (h : spliceD (f u) o new = f v) : (l.map f).set j (spliceD (f u) o new) = (l.set j v).map f := by rw [h, List.map_set]
theorem hv_drop {α : Type} {f : α → List D} {l : List α} {n : Int} {j N : Nat} (hn : n = (j : Int)) : (((l.map f).take ((N : Int)).toNat).drop n.toNat) = ((l.take N).drop j).map f := by subst hn; simp
theorem hv_take {α : Type} {f : α → List D} {l : List α} {n : Int} {j : Nat} (hn : n = (j : Int)) : (((l.map f).take n.toNat).drop (0 : Int).toNat) = (l.take j).map f := by subst hn; simp

theorem ds_ixR {d i es j : Nat} {te : TypeId} {pos : String} {af : Array Edge} {g : Option (Nat × Bool)} {n : Int} {xs : List (List D)} (hx : opSV L x = .row i) (hH : Hp.get H i = some (.row te es xs)) (hy : opSV L y = .d (.int .i64 n)) (hn : n = (j : Int)) (h1 : j < xs.length)
    (ht : (tiGet Γ.τ t).sh = .slice t') (hc : (tiGet Γ.τ t').cells = es) (hkn : (tiGet Γ.τ t').sh.known = true) (hw : wantedSV ops L g = some true) (hd : Nat.blt d Γ.n = true)
    (hk : DS q Γ ops rest K k ((d, .prow i j es 0) :: L) H) : DS q Γ ops (⟨some d, .indexAddr t x y, ty, pos, af, g⟩ :: rest) K k L H :=
  ds_ev (ev_index_row ht hc hkn hx hy hH hn h1) hw hd hk

theorem ds_ldP {d i es j o : Nat} {te : TypeId} {pos : String} {af : Array Edge} {g : Option (Nat × Bool)} {xs : List (List D)} {ds : List D} {p : Prop} {s : SV} (hx : opSV L x = .prow i j es o) (hH : Hp.get H i = some (.row te es xs)) (hds : xs[j]? = some ds)
    (h : loadC Γ.τ t (.pd (ds.drop o)) (fun _ => none) = some (p, s)) (hw : wantedSV ops L g = some true) (hd : Nat.blt d Γ.n = true)
    (hk : DS q Γ ops rest K k ((d, s) :: L) H) : DS q Γ ops (⟨some d, .load t x, ty, pos, af, g⟩ :: rest) K k L H := by
  have hj : j < xs.length := (List.getElem?_eq_some_iff.1 hds).1
  exact ds_ev (ev_load_prow hx hH hj (List.getElem?_eq_some_iff.1 hds).2 h) hw hd hk

theorem ds_stP {te tb : TypeId} {pos : String} {af : Array Edge} {g : Option (Nat × Bool)} {i j es o : Nat} {xs ys : List (List D)} {s : SV} {ds new : List D} {H' : Hp} (hx : opSV L x = .prow i j es o) (hH : Hp.get H i = some (.row tb es xs)) (hds : xs[j]? = some ds)
    (hy : opSV L y = s) (hd : dcells s = some new) (hys : xs.set j (spliceD ds o new) = ys) (hH' : setF H i (.row tb es ys) some = some H') (hyo : opOkB y = true) (hkn : (tiGet Γ.τ te).sh.known = true) (hn : Nat.beq new.length (tiGet Γ.τ te).cells = true) (hle : Nat.ble (o + new.length) es = true)
    (hw : wantedSV ops L g = some true) (hk : DS false Γ ops rest K k L H') : DS false Γ ops (⟨none, .store te x y, ty, pos, af, g⟩ :: rest) K k L H := by
  have hj : j < xs.length := (List.getElem?_eq_some_iff.1 hds).1
  have he := (List.getElem?_eq_some_iff.1 hds).2
  subst hys
  rw [← he] at hH'
  rw [setF_eq] at hH'
  cases hH'
  exact dl_op hw (op_storeP hx hH hj hy hyo hd hkn hn hle) hk

theorem ds_slD {d es : Nat} {xs ys : List (List D)} {lo hi : Option Operand} {n m' : Int} {pos : String} {af : Array Edge} {g : Option (Nat × Bool)} (hx : opSV L x = .d (.slice es xs)) (ht : (tiGet Γ.τ t).sh = .slice t') (hc : (tiGet Γ.τ t').cells = es) (hkn : (tiGet Γ.τ t').sh.known = true)
    (hl : lowC (lo.map (opSV L)) = some n) (hh : highC xs.length (hi.map (opSV L)) = some m') (h0 : 0 ≤ n ∧ n ≤ m' ∧ m' ≤ xs.length) (hys : (xs.take m'.toNat).drop n.toNat = ys) (hw : wantedSV ops L g = some true) (hd : Nat.blt d Γ.n = true)
    (hk : DS q Γ ops rest K k ((d, .d (.slice es ys)) :: L) H) : DS q Γ ops (⟨some d, .slice t x lo hi none, ty, pos, af, g⟩ :: rest) K k L H := by
  subst hys
  exact ds_ev (ev_sliceD ht hc hkn hx hl hh h0.1 h0.2.1 h0.2.2) hw hd hk

theorem ds_mk (ys : List (List D)) {d n : Nat} {te : TypeId} {pos : String} {af : Array Edge} {g : Option (Nat × Bool)} {x y : Operand} {m' : Int} {v0 : Value} {x0 : D} (hx : opSV L x = .d (.int .i64 m')) (hy : opSV L y = .d (.int .i64 m')) (hn : m' = (n : Int)) (ht : (tiGet Γ.τ t).sh = .slice te)
    (hkn : (tiGet Γ.τ te).sh.known = true) (hes : (tiGet Γ.τ te).cells = 1) (hzero : (tiGet Γ.τ te).zero = [v0]) (hx0 : cSV v0 = .d x0) (hzok : zeroOk (tiGet Γ.τ te).zero = true) (hroom : (tiGet Γ.τ te).bytes * n ≤ 281474976710656) (hmax : n ≤ maxLen) (hys : List.replicate n [x0] = ys)
    (hw : wantedSV ops L g = some true) (hd : Nat.blt d Γ.n = true) (hk : DS false Γ ops rest K (k + 1) ((d, .row k) :: L) ((k, .row te 1 ys) :: H)) : DS false Γ ops (⟨some d, .makeSlice t x y, ty, pos, af, g⟩ :: rest) K k L H := by
  subst hys
  exact dl_op hw ((op_mk (lo_not k) ht hkn hes hzero hx0 hzok hx hy hn hroom hmax hd).cast (with1_lo k)) hk

/-- Rows that are shown to a call, which hands back a plain value. -/
def sealSV (i es : Nat) (xs : List (List D)) : SV → SV
  | .row j => match Nat.beq j i with | true => .d (.slice es xs) | false => .row j
  | s => s
def sealL (i es : Nat) (xs : List (List D)) : List SV → List SV
  | [] => []
  | s :: l => sealSV i es xs s :: sealL i es xs l
def scalB : SV → Bool
  | .d (.int _ _) => true
  | .d (.bool _) => true
  | .d (.str _) => true
  | .tup [] => true
  | _ => false
theorem scal_rel {X Y : Nat → Prop} {e e' : Env} {w w' : World} {s : SV} {v : Value} (h : scalB s = true) (hr : Rel X e w s v) : Rel Y e' w' s v := by
  cases s with
  | d x =>
    cases x with
    | slice => cases h
    | _ => cases hr <;> constructor <;> assumption
  | tup ss =>
    cases ss with
    | nil => obtain ⟨vs, h1, h2⟩ := hr; cases vs with | nil => exact ⟨[], h1, trivial⟩ | cons => exact h2.elim
    | cons => cases h
  | _ => cases h
theorem dl_callS {f : FuncId} {xs : List Operand} {ts : Array TypeId} {ty : TypeId} {pos : String} {af : Array Edge} {g : Option (Nat × Bool)} {d i es : Nat} {te : TypeId} {ds : List (List D)} {args : List SV} {R : SV → Prop} (hw : wantedSV ops L g = some true)
    (hH : Hp.get H i = some (.row te es ds)) (ha : sealL i es ds (opsL L xs) = args) (hc : FnP Γ.dr Γ.P Γ.τ Γ.τok f args R) (hok : opsOk xs = true) (hlow : SV.lowL 0 args = true) (hd : Nat.blt d Γ.n = true) (hs : ∀ r, R r → scalB r = true)
    (hk : ∀ r, R r → DL Γ ops rest K k ((d, r) :: L) H) :
    DL Γ ops (⟨some d, .call { callee := .value (.func f), args := xs.toArray, argTypes := ts }, ty, pos, af, g⟩ :: rest) K k L H := by
  refine dl_run hw fun e a w m => ?_
  obtain ⟨m2, hX⟩ := m.del i
  have key : ∀ (ss : List SV) (vs : List Value), RelL (Γ.X e H) e w ss vs → RelL (Γ.X e (Hp.del H i)) e w (sealL i es ds ss) vs := by
    intro ss
    induction ss with
    | nil => intro vs h; cases vs <;> exact h
    | cons s ss ih =>
      intro vs h
      cases vs with
      | nil => exact h.elim
      | cons v vs =>
        refine ⟨?_, ih vs h.2⟩
        have hk : Rel (Γ.X e (Hp.del H i)) e w s v := Rel.keep (Nat.le_refl _) (fun _ _ _ => rfl) (fun b _ h => hX b h) _ _ h.1
        unfold sealSV
        split
        · rename_i j
          cases hb : Nat.beq j i with
          | true =>
            have := Nat.eq_of_beq_eq_true hb
            subst this
            rw [show v = e.η j from h.1.2.1]
            exact row_data m hH
          | false => exact hk
        · exact hk
  unfold Oper.wp
  rw [run_callOp hc.1]
  rw [Oper.upon_enter]
  refine (hc.use (τ := Γ.τ) (τok := Γ.τok) (Γ := Γ) m2 hlow _ (ha ▸ key _ _ (opsL_rel m xs hok))).mono ?_
  rintro en w' ⟨r, v, hR, rfl, hb, hlr, hrel⟩
  exact ⟨k, _, H, e, (m.below hb).put (Nat.le_of_ble_eq_true hd) (scal_rel (hs r hR) hrel), hk r hR⟩
theorem ds_callS (i : Nat) {f : FuncId} {xs : List Operand} {ts : Array TypeId} {ty : TypeId} {pos : String} {af : Array Edge} {g : Option (Nat × Bool)} {d es : Nat} {te : TypeId} {ds : List (List D)} {args : List SV} {R : SV → Prop} (hc : FnP Γ.dr Γ.P Γ.τ Γ.τok f args R)
    (hH : Hp.get H i = some (.row te es ds)) (ha : sealL i es ds (opsL L xs) = args) (hs : ∀ r, R r → scalB r = true) (hw : wantedSV ops L g = some true) (hok : opsOk xs = true) (hlow : SV.lowL 0 args = true) (hd : Nat.blt d Γ.n = true)
    (hk : ∀ r, R r → DS false Γ ops rest K k ((d, r) :: L) H) : DS false Γ ops (⟨some d, .call { callee := .value (.func f), args := xs.toArray, argTypes := ts }, ty, pos, af, g⟩ :: rest) K k L H :=
  dl_callS hw hH ha hc hok hlow hd hs hk

/-- A struct's field that is a slice is not too long. -/
theorem dw_lenA (t j : Nat) {c : Code} {Q : Post} {es : Nat} {ss : List SV} {xs : List (List D)} (h : L.get t = .agg ss) (hj : ss[j]? = some (.d (.slice es xs))) (hk : xs.length ≤ 9223372036854775807 → DW Γ c Q k L H) : DW Γ c Q k L H := by
  intro e a w m
  have hr := m.slot t
  rw [h] at hr
  obtain ⟨vs, _, h2⟩ := hr
  obtain ⟨v, _, h3⟩ := RelL.get _ _ h2 j _ hj
  obtain ⟨ao, cap, _, h4, h5, _⟩ := RepC.slice_inv h3
  exact hk (by unfold maxLen at h5; omega) e a w m

/-- A place to stop at: a block that has a number. -/
theorem dw_stop (id : Nat) {c y : Code} {Q : Post} (h : DW Γ (.seq (.block id c) y) Q k L H) : DW Γ (.seq (.block id c) y) Q k L H := h
theorem dw_stopR (id : Nat) {ops : Array Oper} {b : Bool} {x z : Code} {Q : Post} (h : DW Γ (.seq (.seq (.region id ops b) x) z) Q k L H) : DW Γ (.seq (.seq (.region id ops b) x) z) Q k L H := h
/-- What is known between two parts is said. -/
theorem dw_cut {ι : Type} {c y : Code} {Q : Post} (I : ι → St) (pre : ι → Prop) (hx : DW Γ c (thenD (fun k' L' H' => ∃ i, pre i ∧ Ent Γ k' L' H' (I i).k (I i).L (I i).H) Q) k L H) (hy : ∀ i, pre i → DW Γ y Q (I i).k (I i).L (I i).H) : DW Γ (.seq c y) Q k L H := by
  intro e a w m
  refine wpIn_seq (wpIn_mono (hx e a w m) ?_)
  rintro ex a' w' (⟨k', L', H', e', m', hq⟩ | hf)
  · cases ex with
    | normal =>
      obtain ⟨i, hp, he⟩ := hq
      obtain ⟨e2, m2⟩ := he e' a' w' m'
      exact hy i hp e2 a' w' m2
    | _ => exact .inl ⟨k', L', H', e', m', hq⟩
  · obtain ⟨v, k', e', rfl, r⟩ := hf
    exact .inr ⟨v, k', e', rfl, r⟩

theorem ent_trans {k2 k3 : Nat} {L2 L3 : Sl} {H2 H3 : Hp} (h : Ent Γ k L H k2 L2 H2) (g : Ent Γ k2 L2 H2 k3 L3 H3) : Ent Γ k L H k3 L3 H3 := fun e a w m =>
  let ⟨e2, m2⟩ := h e a w m
  g e2 a w m2
end
end Go.Proofs.Ytapciiffpnociab

/- The document's HasFact and SetOf. Condition: none. -/
namespace Go.Proofs.Ytapciiffpnociab
open Go Go.RowKit
attribute [local irreducible] DW DS DL DQ Ev FnOk FnP thenD inBlockD DT

end Go.Proofs.Ytapciiffpnociab
