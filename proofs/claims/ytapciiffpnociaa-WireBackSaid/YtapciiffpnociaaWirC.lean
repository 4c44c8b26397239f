/- The document's CheckUpdate; what is the same. Condition: none. -/
import Derived.Test.YtapciiffpnociaaWirB
import Derived.Test.YtapciiffpnociaaTokR
namespace Go.Proofs.Ytapciiffpnociaa
open Go Go.RowKit
attribute [local irreducible] DW DS DL DQ Ev FnOk FnP thenD inBlockD DT

theorem rbetween_fn (n a b : Int) : Fn 84 [.d (.int .i64 n), .d (.int .i64 a), .d (.int .i64 b)] (fun r => r = .d (.bool (inR n a b))) := between_fn n a b
set_option maxHeartbeats 8000000 in
theorem isNumber_fn (n : Int) : Fn 85 [.d (.int .i64 n)] (fun r => r = .d (.bool (numB n))) := by
  refine fnp_enter' _ Try.func85 rfl rfl (by kernel_rfl) ?_
  intro O w0 E0 β0
  repeat' (first | (apply ds_evC; exact rfl; (with_reducible exact trivial); (with_reducible exact rfl); exact rfl; exact rfl; exact rfl) | apply ds_nil | apply dw_seq2 | apply ds_region | apply dw_ret | apply thenD_n | (apply ds_call; exact rfl; exact rfl; apply rbetween_fn; exact rfl; (exact rfl); exact rfl; rintro _ rfl))
  exact ret_b rfl rfl
set_option maxHeartbeats 8000000 in
theorem isId_fn (i : UId) : Fn 80 [elId i] (fun r => r = .d (.bool (idB i))) := by
  refine fnp_enter' _ Try.func80 rfl rfl (by kernel_rfl) ?_
  intro O w0 E0 β0
  repeat' (first | (apply ds_evC; exact rfl; (with_reducible exact trivial); (with_reducible exact rfl); exact rfl; exact rfl; exact rfl) | (apply ds_skip; exact rfl; exact rfl) | apply ds_nil | apply dw_seq2 | apply ds_region | apply dw_ret | apply thenD_n | (apply ds_call; exact rfl; exact rfl; apply rbetween_fn; exact rfl; (exact rfl); exact rfl; rintro _ rfl) | (apply ds_newC; exact rfl; (with_reducible exact trivial); exact rfl; exact rfl; exact rfl) | ((fail_if_success (apply ds_known; exact rfl)); apply ds_guardB; exact rfl; exact rfl; exact rfl; all_goals intro hg))
  all_goals exact ret_b rfl (by unfold idB; simp [*])

theorem all_step {α : Type} {p : α → Bool} {l : List α} {i : Nat} (hi : i < l.length) : (l.drop i).all p = (p l[i] && (l.drop (i + 1)).all p) := by
  rw [List.drop_eq_getElem_cons hi]; rfl
theorem all_end {α : Type} {p : α → Bool} {l : List α} {i : Nat} (hi : l.length ≤ i) : (l.drop i).all p = true := by
  rw [List.drop_of_length_le hi]; rfl
set_option maxHeartbeats 8000000 in
theorem areIds_fn (l : List UId) : Fn 81 [.d (.slice 2 (l.map encId))] (fun r => r = .d (.bool (l.all idB))) := by
  refine fnp_enter' _ Try.func81 rfl rfl (by kernel_rfl) ?_
  intro O w0 E0 β0
  refine dw_len_map (t := 0) rfl fun hb => ?_
  repeat' (first | (apply ds_evC; exact rfl; (with_reducible exact trivial); (with_reducible exact rfl); exact rfl; exact rfl; exact rfl) | apply ds_nil | apply dw_seq2 | apply ds_region | apply dw_block | apply thenD_n)
  refine ds_loop (ι := Nat) (fun i => ⟨0, [(0, .d (.slice 2 (l.map encId))), (3, .d (.int .i64 i))], []⟩)
    (fun i => i ≤ l.length ∧ l.all idB = (l.drop i).all idB) (fun i => l.length - i) 0 ⟨Nat.zero_le _, rfl⟩
    (ent_ren id ⟨rfl, rfl, trivial⟩ trivial rfl rfl rfl rfl rfl rfl) ?_
  rintro i ⟨h1, h2⟩
  repeat' (first | (apply ds_evC; exact rfl; (with_reducible exact trivial); (with_reducible exact rfl); exact rfl; exact rfl; exact rfl) | apply ds_nil | apply dw_seq2 | apply ds_region | apply thenD_n)
  refine dw_condP rfl (fun h => ?_) (fun h => ?_)
  · have hi : i < l.length := by rw [List.length_map] at h; omega
    have hd := all_step (p := idB) hi
    repeat' (first | (apply ds_evC; exact rfl; (first | (with_reducible exact trivial) | omega); (first | ((with_reducible apply hv_row); (exact rfl); (omega)) | (with_reducible exact rfl)); exact rfl; exact rfl; exact rfl) | apply ds_nil | apply dw_seq2 | apply ds_region | apply dw_block | apply dw_skip | apply thenD_n | (apply ds_call; exact rfl; exact rfl; apply isId_fn; exact rfl; (exact rfl); exact rfl; rintro _ rfl))
    refine dw_cond rfl (fun hb => ?_) (fun hb => ?_)
    · repeat' (first | (apply ds_evC; exact rfl; (with_reducible exact trivial); (with_reducible exact rfl); exact rfl; exact rfl; exact rfl) | apply ds_nil | apply dw_seq2 | apply ds_region | apply dw_ret | apply thenD_n | apply thenD_r | apply inB_r)
      exact ret_b rfl (by rw [h2, hd]; simp at hb; rw [hb]; rfl)
    · repeat' (first | (apply ds_evC; exact rfl; (first | (with_reducible exact trivial) | omega); (with_reducible exact rfl); exact rfl; exact rfl; exact rfl) | apply ds_nil | apply ds_region | apply dw_skip | apply thenD_n | apply inB_n)
      exact ⟨i + 1, ⟨hi, by rw [h2, hd]; simp at hb; rw [hb]; rfl⟩, ent_ren id ⟨rfl, rfl, trivial⟩ trivial rfl rfl rfl rfl rfl rfl, by omega⟩
  · repeat' (first | (apply ds_evC; exact rfl; (with_reducible exact trivial); (with_reducible exact rfl); exact rfl; exact rfl; exact rfl) | apply ds_nil | apply dw_seq2 | apply ds_region | apply dw_exit | apply dw_ret | apply thenD_n | apply thenD_e | (apply inB_e; exact rfl))
    exact ret_b rfl (by rw [h2, all_end (by rw [List.length_map] at h; omega)])

set_option maxHeartbeats 8000000 in
theorem idOrder_fn (a b : UId) : Fn 118 [elId a, elId b] (fun r => r = .d (.int .i64 (ordId a b))) := by
  refine fnp_enter' _ Try.func118 rfl rfl (by kernel_rfl) ?_
  intro O w0 E0 β0
  repeat' (first | (apply ds_evC; exact rfl; (with_reducible exact trivial); (with_reducible exact rfl); exact rfl; exact rfl; exact rfl) | (apply ds_skip; exact rfl; exact rfl) | apply ds_nil | apply dw_seq2 | apply ds_region | apply dw_skip | apply dw_ret | (apply dw_condT; exact rfl) | (apply dw_condF; exact rfl) | apply thenD_n | apply thenD_r | (apply ds_newC; exact rfl; (with_reducible exact trivial); exact rfl; exact rfl; exact rfl) | (apply dw_condP; exact rfl; all_goals intro hg) | (apply dw_cond; exact rfl; all_goals intro hg) | ((fail_if_success (apply ds_known; exact rfl)); apply ds_guardP; exact rfl; exact rfl; exact rfl; all_goals intro hg))
  all_goals
    refine ret_i rfl ?_
    unfold ordId cmpI
    repeat' split
    all_goals first | rfl | (simp_all <;> omega)
set_option maxHeartbeats 8000000 in
theorem idsRise_fn (l : List UId) : Fn 82 [.d (.slice 2 (l.map encId))] (fun r => r = .d (.bool (rises ordId l))) := by
  refine fnp_enter' _ Try.func82 rfl rfl (by kernel_rfl) ?_
  intro O w0 E0 β0
  refine dw_len_map (t := 0) rfl fun hb => ?_
  repeat' (first | (apply ds_evC; exact rfl; (with_reducible exact trivial); (with_reducible exact rfl); exact rfl; exact rfl; exact rfl) | apply ds_nil | apply dw_seq2 | apply ds_region | apply dw_block | apply thenD_n)
  refine ds_loop (ι := Nat) (fun i => ⟨0, [(0, .d (.slice 2 (l.map encId))), (3, .d (.int .i64 ((i : Int) + 1)))], []⟩)
    (fun i => i ≤ l.length ∧ rises ordId l = rises ordId (l.drop i)) (fun i => l.length - i) 0 ⟨Nat.zero_le _, rfl⟩
    (ent_ren id ⟨rfl, rfl, trivial⟩ trivial rfl rfl rfl rfl rfl rfl) ?_
  rintro i ⟨h1, h2⟩
  repeat' (first | (apply ds_evC; exact rfl; (with_reducible exact trivial); (with_reducible exact rfl); exact rfl; exact rfl; exact rfl) | apply ds_nil | apply dw_seq2 | apply ds_region | apply thenD_n)
  refine dw_condP rfl (fun h => ?_) (fun h => ?_)
  · have hi : i + 1 < l.length := by have := h; rw [List.length_map] at this; omega
    have e0 : ∀ (j : Nat) (hj : j < l.length), j = i → l[j]'hj = l[i]'(by omega) := by rintro j hj rfl; rfl
    repeat' (first | (apply dt_ev; exact rfl; exact rfl; (first | (with_reducible exact trivial) | omega); (first | ((with_reducible apply hv_row); (first | exact nat_add_1 _ | exact (Int.toNat_of_nonneg (by omega)).symm); (omega)) | (with_reducible exact rfl)); exact rfl; exact rfl; exact rfl; exact rfl) | (apply dt_nil0; exact rfl; exact rfl; exact rfl; exact rfl) | apply dw_seq2 | (apply dw_any; kernel_rfl; kernel_rfl; exact rfl) | apply dw_block | apply dw_skip | apply thenD_n | (apply dt_call; exact rfl; exact rfl; apply idOrder_fn; exact rfl; (exact rfl); exact rfl; exact rfl; exact ⟨_, rfl⟩; rintro _ rfl))
    refine dw_condP rfl (fun hb => ?_) (fun hb => ?_)
    · repeat' (first | (apply ds_evC; exact rfl; (with_reducible exact trivial); (with_reducible exact rfl); exact rfl; exact rfl; exact rfl) | apply ds_nil | apply dw_seq2 | apply ds_region | apply dw_ret | apply thenD_n | apply thenD_r | apply inB_r)
      rw [e0 _ _ (by omega)] at hb
      exact ret_b rfl (by rw [h2, rises_bad hi (by omega)])
    · repeat' (first | (apply ds_evC; exact rfl; (first | (with_reducible exact trivial) | omega); (with_reducible exact rfl); exact rfl; exact rfl; exact rfl) | apply ds_nil | apply ds_region | apply dw_skip | apply thenD_n | apply inB_n)
      rw [e0 _ _ (by omega)] at hb
      exact ⟨i + 1, ⟨by omega, by rw [h2, rises_ok hi (by omega)]⟩, ent_ren id ⟨rfl, rfl, trivial⟩ trivial rfl rfl rfl rfl rfl rfl, by omega⟩
  · repeat' (first | (apply ds_evC; exact rfl; (with_reducible exact trivial); (with_reducible exact rfl); exact rfl; exact rfl; exact rfl) | apply ds_nil | apply dw_seq2 | apply ds_region | apply dw_exit | apply dw_ret | apply thenD_n | apply thenD_e | (apply inB_e; exact rfl))
    exact ret_b rfl (by rw [h2, rises_end (by have := h; rw [List.length_map] at this; omega)])

theorem same_beq2 {x y : UId} {b : Bool} (h : (decide (x.author = y.author) && (decide (x.number = y.number) && true)) = b) : UId.same x y = b := by
  rw [← h]
  unfold UId.same
  rw [Bool.and_true]
theorem same_not {x y : UId} {b : Bool} (h : (!(decide (x.author = y.author) && (decide (x.number = y.number) && true))) = !b) : UId.same x y = b := by
  have h2 := congrArg (fun q => !q) h
  simp only [Bool.not_not] at h2
  exact same_beq2 h2
theorem fct_not {x y : Fct} {b : Bool} (h : decide (ordF x y ≠ 0) = !b) : Fct.same x y = b := by
  unfold Fct.same
  cases b <;> simpa using h
set_option maxHeartbeats 8000000 in
theorem hasId_fn (l : List UId) (y : UId) : Fn 83 [.d (.slice 2 (l.map encId)), elId y] (fun r => r = .d (.bool (l.any fun x => x.same y))) := by
  refine fnp_enter' _ Try.func83 rfl rfl (by kernel_rfl) ?_
  intro O w0 E0 β0
  refine dw_len_map (t := 0) rfl fun hb => ?_
  repeat' (first | (apply ds_evC; exact rfl; (with_reducible exact trivial); (with_reducible exact rfl); exact rfl; exact rfl; exact rfl) | apply ds_nil | apply dw_seq2 | apply ds_region | apply dw_block | apply thenD_n | (apply ds_newC; exact rfl; (with_reducible exact trivial); exact rfl; exact rfl; exact rfl))
  refine ds_loop (ι := Nat) (fun i => ⟨1, [(0, .d (.slice 2 (l.map encId))), (3, .loc 0 0), (5, .d (.int .i64 i))], [(0, .blk 36 [.d (.int .i64 y.author), .d (.int .i64 y.number)])]⟩)
    (fun i => i ≤ l.length ∧ ∀ j (hj : j < l.length), j < i → UId.same l[j] y = false) (fun i => l.length - i) 0 ⟨Nat.zero_le _, fun j _ h => absurd h (Nat.not_lt_zero j)⟩
    (ent_ren id ⟨rfl, rfl, rfl, trivial⟩ ⟨rfl, trivial⟩ rfl rfl rfl rfl rfl rfl) ?_
  rintro i ⟨h1, h2⟩
  repeat' (first | (apply ds_evC; exact rfl; (with_reducible exact trivial); (with_reducible exact rfl); exact rfl; exact rfl; exact rfl) | apply ds_nil | apply dw_seq2 | apply ds_region | apply thenD_n)
  refine dw_condP rfl (fun h => ?_) (fun h => ?_)
  · have hi : i < l.length := by rw [List.length_map] at h; omega
    repeat' (first | (apply dt_ev; exact rfl; exact rfl; (first | (with_reducible exact trivial) | omega); (first | ((with_reducible apply hv_row); (exact rfl); (omega)) | (with_reducible exact rfl)); exact rfl; exact rfl; exact rfl; exact rfl) | (apply dt_nil0; exact rfl; exact rfl; exact rfl; exact rfl) | apply dw_seq2 | (apply dw_any; kernel_rfl; kernel_rfl; exact rfl) | apply dw_block | apply dw_skip | apply thenD_n)
    refine dw_cond rfl (fun hb => ?_) (fun hb => ?_)
    · repeat' (first | (apply ds_evC; exact rfl; (with_reducible exact trivial); (with_reducible exact rfl); exact rfl; exact rfl; exact rfl) | apply ds_nil | apply dw_seq2 | apply ds_region | apply dw_ret | apply thenD_n | apply thenD_r | apply inB_r)
      exact ret_b rfl (any_hit (p := fun x => x.same y) hi (same_beq2 hb)).symm
    · repeat' (first | (apply ds_evC; exact rfl; (first | (with_reducible exact trivial) | omega); (with_reducible exact rfl); exact rfl; exact rfl; exact rfl) | apply ds_nil | apply ds_region | apply dw_skip | apply thenD_n | apply inB_n)
      exact ⟨i + 1, ⟨hi, none_step (p := fun x => x.same y) h2 hi (same_beq2 hb)⟩, ent_ren id ⟨rfl, rfl, rfl, trivial⟩ ⟨rfl, trivial⟩ rfl rfl rfl rfl rfl rfl, by omega⟩
  · repeat' (first | (apply ds_evC; exact rfl; (with_reducible exact trivial); (with_reducible exact rfl); exact rfl; exact rfl; exact rfl) | apply ds_nil | apply dw_seq2 | apply ds_region | apply dw_exit | apply dw_ret | apply thenD_n | apply thenD_e | (apply inB_e; exact rfl))
    exact ret_b rfl (any_none fun j hj => h2 j hj (by rw [List.length_map] at h; omega)).symm

theorem ordL_lt {l m : List Int} {i : Nat} (h1 : i < l.length) (h2 : i < m.length) (h : l[i] < m[i]) : ordL (l.drop i) (m.drop i) = -1 := by
  have e : cmpI l[i] m[i] = -1 := by unfold cmpI; rw [if_pos h]
  rw [ordL_step h1 h2, e]; rfl
theorem ordL_gt {l m : List Int} {i : Nat} (h1 : i < l.length) (h2 : i < m.length) (h : m[i] < l[i]) : ordL (l.drop i) (m.drop i) = 1 := by
  have e : cmpI l[i] m[i] = 1 := by unfold cmpI; rw [if_neg (by omega), if_pos h]
  rw [ordL_step h1 h2, e]; rfl
theorem ordL_eq {l m : List Int} {i : Nat} (h1 : i < l.length) (h2 : i < m.length) (h : l[i] = m[i]) : ordL (l.drop i) (m.drop i) = ordL (l.drop (i + 1)) (m.drop (i + 1)) := by
  rw [ordL_step h1 h2, h, if_pos (cmpI_self _)]
theorem cmpI_eq (a b : Int) : (cmpI a b = 0) = (a = b) := by unfold cmpI; rw [eq_iff_iff]; split <;> (try split) <;> simp <;> omega
set_option maxHeartbeats 8000000 in
theorem orderOf_fn (a b : Fct) : Fn 53 [elFct a, elFct b] (fun r => r = .d (.int .i64 (ordF a b))) := by
  refine fnp_enter' _ Try.func53 rfl rfl (by kernel_rfl) ?_
  intro O w0 E0 β0
  repeat' (first | (apply ds_evC; exact rfl; (with_reducible exact trivial); (with_reducible exact rfl); exact rfl; exact rfl; exact rfl) | apply ds_nil | apply dw_seq2 | apply ds_region | apply thenD_n | (apply ds_newC; exact rfl; (with_reducible exact trivial); exact rfl; exact rfl; exact rfl))
  refine dw_condP rfl (fun hp => ?_) (fun hp => ?_)
  · repeat' (first | (apply ds_evC; exact rfl; (with_reducible exact trivial); (with_reducible exact rfl); exact rfl; exact rfl; exact rfl) | apply ds_nil | apply dw_seq2 | apply ds_region | apply dw_skip | apply dw_ret | apply thenD_n | apply thenD_r | (apply dw_condP; exact rfl; all_goals intro hg))
    all_goals exact ret_i rfl (by unfold ordF; rw [if_neg (by rw [cmpI_eq]; exact hp)]; unfold cmpI; repeat' split; all_goals first | rfl | omega)
  · have hF : ordF a b = ordL a.args b.args := by unfold ordF; rw [if_pos (by rw [cmpI_eq]; exact Decidable.not_not.1 hp)]
    repeat' (first | (apply ds_evC; exact rfl; (with_reducible exact trivial); (with_reducible exact rfl); exact rfl; exact rfl; exact rfl) | apply ds_nil | apply dw_seq2 | apply ds_region | apply dw_block | apply dw_skip | apply thenD_n)
    refine ds_loop (ι := Nat) (fun i => ⟨2, [(2, .loc 0 0), (3, .loc 1 0), (5, .d (.int .i64 i))], [(0, .blk 89 [.d (.int .i64 a.pred), .d (.slice 1 (a.args.map encI))]), (1, .blk 89 [.d (.int .i64 b.pred), .d (.slice 1 (b.args.map encI))])]⟩)
      (fun i => i ≤ a.args.length ∧ i ≤ b.args.length ∧ ordF a b = ordL (a.args.drop i) (b.args.drop i)) (fun i => a.args.length - i) 0 ⟨Nat.zero_le _, Nat.zero_le _, hF⟩
      (ent_ren id ⟨rfl, rfl, rfl, trivial⟩ ⟨rfl, rfl, trivial⟩ rfl rfl rfl rfl rfl rfl) ?_
    rintro i ⟨h1, h2, h3⟩
    refine dw_lenC 0 1 rfl rfl fun hb => ?_
    have la : (a.args.map encI).length = a.args.length := List.length_map _
    have lb : (b.args.map encI).length = b.args.length := List.length_map _
    repeat' (first | (apply ds_evC; exact rfl; (first | (with_reducible exact trivial) | omega); (with_reducible exact rfl); exact rfl; exact rfl; exact rfl) | (apply ds_skip; exact rfl; exact rfl) | apply ds_nil | (apply dt_ev; exact rfl; exact rfl; (first | (with_reducible exact trivial) | omega); (first | ((with_reducible apply hv_row); (exact rfl); (omega)) | (with_reducible exact rfl)); exact rfl; exact rfl; exact rfl; exact rfl) | (apply dt_nil0; exact rfl; exact rfl; exact rfl; exact rfl) | apply dw_seq2 | apply ds_region | (apply dw_any; kernel_rfl; kernel_rfl; exact rfl) | apply dw_block | apply dw_skip | apply dw_exit | apply dw_ret | (apply dw_condF; exact rfl) | apply thenD_n | apply thenD_e | apply thenD_r | apply inB_n | apply inB_r | (apply inB_e; exact rfl) | (apply dw_condP; exact rfl; all_goals intro hg) | ((fail_if_success (apply ds_known; exact rfl)); apply ds_guardP; exact rfl; exact rfl; exact rfl; all_goals intro hg))
    all_goals first
      | (refine ret_i rfl (Eq.trans ?_ h3.symm); refine (ordL_lt ?_ ?_ ?_).symm <;> first | assumption | omega)
      | (refine ret_i rfl (Eq.trans ?_ h3.symm); refine (ordL_gt ?_ ?_ ?_).symm <;> first | assumption | omega)
      | (refine ret_i rfl (Eq.trans ?_ h3.symm); refine (ordL_less ?_ ?_).symm <;> omega)
      | (refine ret_i rfl (Eq.trans ?_ h3.symm); refine (ordL_more ?_ ?_).symm <;> omega)
      | (refine ret_i rfl (Eq.trans ?_ h3.symm); refine (ordL_end ?_ ?_).symm <;> omega)
      | (refine ⟨i + 1, ⟨?_, ?_, h3.trans (ordL_eq ?_ ?_ ?_)⟩, ent_ren id ⟨rfl, rfl, rfl, trivial⟩ ⟨rfl, rfl, trivial⟩ rfl rfl rfl rfl rfl rfl, ?_⟩ <;> omega)
set_option maxHeartbeats 8000000 in
theorem sameIds_fn (l m : List (UId)) : Fn 102 [.d (.slice 2 (l.map encId)), .d (.slice 2 (m.map encId))] (fun r => r = .d (.bool (sameL UId.same l m))) := by
  refine fnp_enter' _ Try.func102 rfl rfl (by kernel_rfl) ?_
  intro O w0 E0 β0
  refine dw_len_map (t := 0) rfl fun hb => ?_
  repeat' (first | (apply ds_evC; exact rfl; (with_reducible exact trivial); (with_reducible exact rfl); exact rfl; exact rfl; exact rfl) | apply ds_nil | apply dw_seq2 | apply ds_region | apply thenD_n)
  refine dw_condP rfl (fun h => ?_) (fun h => ?_)
  · have hne : l.length ≠ m.length := by rw [List.length_map, List.length_map] at h; omega
    repeat' (first | (apply ds_evC; exact rfl; (with_reducible exact trivial); (with_reducible exact rfl); exact rfl; exact rfl; exact rfl) | apply ds_nil | apply dw_seq2 | apply ds_region | apply dw_ret | apply thenD_n | apply thenD_r)
    exact ret_b rfl (sameL_len _ _ _ hne).symm
  · have hlen : l.length = m.length := by rw [List.length_map, List.length_map] at h; omega
    repeat' (first | (apply ds_evC; exact rfl; (with_reducible exact trivial); (with_reducible exact rfl); exact rfl; exact rfl; exact rfl) | apply ds_nil | apply dw_seq2 | apply ds_region | apply dw_block | apply dw_skip | apply thenD_n)
    refine ds_loop (ι := Nat) (fun i => ⟨0, [(0, .d (.slice 2 (l.map encId))), (1, .d (.slice 2 (m.map encId))), (5, .d (.int .i64 i))], []⟩)
      (fun i => i ≤ l.length ∧ sameL UId.same l m = sameL UId.same (l.drop i) (m.drop i)) (fun i => l.length - i) 0 ⟨Nat.zero_le _, rfl⟩
      (ent_ren id ⟨rfl, rfl, rfl, trivial⟩ trivial rfl rfl rfl rfl rfl rfl) ?_
    rintro i ⟨h1, h2⟩
    repeat' (first | (apply ds_evC; exact rfl; (with_reducible exact trivial); (with_reducible exact rfl); exact rfl; exact rfl; exact rfl) | apply ds_nil | apply dw_seq2 | apply ds_region | apply thenD_n)
    refine dw_condP rfl (fun h => ?_) (fun h => ?_)
    · have hi : i < l.length := by rw [List.length_map] at h; omega
      have hm : i < m.length := by omega
      have hd := sameL_drop UId.same l m i hi hm
      repeat' (first | (apply dt_ev; exact rfl; exact rfl; (first | (with_reducible exact trivial) | omega); (first | ((with_reducible apply hv_row); (exact rfl); (omega)) | (with_reducible exact rfl)); exact rfl; exact rfl; exact rfl; exact rfl) | (apply dt_nil0; exact rfl; exact rfl; exact rfl; exact rfl) | apply dw_seq2 | (apply dw_any; kernel_rfl; kernel_rfl; exact rfl) | apply dw_block | apply dw_skip | apply thenD_n)
      refine dw_cond rfl (fun hb => ?_) (fun hb => ?_)
      · have hp : UId.same l[i] m[i] = false := by exact same_not hb
        repeat' (first | (apply ds_evC; exact rfl; (with_reducible exact trivial); (with_reducible exact rfl); exact rfl; exact rfl; exact rfl) | apply ds_nil | apply dw_seq2 | apply ds_region | apply dw_ret | apply thenD_n | apply thenD_r | apply inB_r)
        exact ret_b rfl (by rw [h2, hd, hp]; rfl)
      · have hp : UId.same l[i] m[i] = true := by exact same_not hb
        repeat' (first | (apply ds_evC; exact rfl; (first | (with_reducible exact trivial) | omega); (with_reducible exact rfl); exact rfl; exact rfl; exact rfl) | apply ds_nil | apply ds_region | apply dw_skip | apply thenD_n | apply inB_n)
        exact ⟨i + 1, ⟨hi, by rw [h2, hd, hp]; rfl⟩, ent_ren id ⟨rfl, rfl, rfl, trivial⟩ trivial rfl rfl rfl rfl rfl rfl, by omega⟩
    · repeat' (first | (apply ds_evC; exact rfl; (with_reducible exact trivial); (with_reducible exact rfl); exact rfl; exact rfl; exact rfl) | apply ds_nil | apply dw_seq2 | apply ds_region | apply dw_exit | apply dw_ret | apply thenD_n | apply thenD_e | (apply inB_e; exact rfl))
      exact ret_b rfl (by rw [h2, sameL_end _ _ _ _ (by rw [List.length_map] at h; omega) (by rw [List.length_map] at h; omega)])

set_option maxHeartbeats 8000000 in
theorem sameFacts_fn (l m : List (Fct)) : Fn 54 [.d (.slice 2 (l.map encFct)), .d (.slice 2 (m.map encFct))] (fun r => r = .d (.bool (sameL Fct.same l m))) := by
  refine fnp_enter' _ Try.func54 rfl rfl (by kernel_rfl) ?_
  intro O w0 E0 β0
  refine dw_len_map (t := 0) rfl fun hb => ?_
  repeat' (first | (apply ds_evC; exact rfl; (with_reducible exact trivial); (with_reducible exact rfl); exact rfl; exact rfl; exact rfl) | apply ds_nil | apply dw_seq2 | apply ds_region | apply thenD_n)
  refine dw_condP rfl (fun h => ?_) (fun h => ?_)
  · have hne : l.length ≠ m.length := by rw [List.length_map, List.length_map] at h; omega
    repeat' (first | (apply ds_evC; exact rfl; (with_reducible exact trivial); (with_reducible exact rfl); exact rfl; exact rfl; exact rfl) | apply ds_nil | apply dw_seq2 | apply ds_region | apply dw_ret | apply thenD_n | apply thenD_r)
    exact ret_b rfl (sameL_len _ _ _ hne).symm
  · have hlen : l.length = m.length := by rw [List.length_map, List.length_map] at h; omega
    repeat' (first | (apply ds_evC; exact rfl; (with_reducible exact trivial); (with_reducible exact rfl); exact rfl; exact rfl; exact rfl) | apply ds_nil | apply dw_seq2 | apply ds_region | apply dw_block | apply dw_skip | apply thenD_n)
    refine ds_loop (ι := Nat) (fun i => ⟨0, [(0, .d (.slice 2 (l.map encFct))), (1, .d (.slice 2 (m.map encFct))), (5, .d (.int .i64 i))], []⟩)
      (fun i => i ≤ l.length ∧ sameL Fct.same l m = sameL Fct.same (l.drop i) (m.drop i)) (fun i => l.length - i) 0 ⟨Nat.zero_le _, rfl⟩
      (ent_ren id ⟨rfl, rfl, rfl, trivial⟩ trivial rfl rfl rfl rfl rfl rfl) ?_
    rintro i ⟨h1, h2⟩
    repeat' (first | (apply ds_evC; exact rfl; (with_reducible exact trivial); (with_reducible exact rfl); exact rfl; exact rfl; exact rfl) | apply ds_nil | apply dw_seq2 | apply ds_region | apply thenD_n)
    refine dw_condP rfl (fun h => ?_) (fun h => ?_)
    · have hi : i < l.length := by rw [List.length_map] at h; omega
      have hm : i < m.length := by omega
      have hd := sameL_drop Fct.same l m i hi hm
      repeat' (first | (apply dt_ev; exact rfl; exact rfl; (first | (with_reducible exact trivial) | omega); (first | ((with_reducible apply hv_row); (exact rfl); (omega)) | (with_reducible exact rfl)); exact rfl; exact rfl; exact rfl; exact rfl) | (apply dt_nil0; exact rfl; exact rfl; exact rfl; exact rfl) | apply dw_seq2 | (apply dw_any; kernel_rfl; kernel_rfl; exact rfl) | apply dw_block | apply dw_skip | apply thenD_n | (apply dt_call; exact rfl; exact rfl; apply orderOf_fn; exact rfl; (exact rfl); exact rfl; exact rfl; exact ⟨_, rfl⟩; rintro _ rfl))
      refine dw_cond rfl (fun hb => ?_) (fun hb => ?_)
      · have hp : Fct.same l[i] m[i] = false := by exact fct_not hb
        repeat' (first | (apply ds_evC; exact rfl; (with_reducible exact trivial); (with_reducible exact rfl); exact rfl; exact rfl; exact rfl) | apply ds_nil | apply dw_seq2 | apply ds_region | apply dw_ret | apply thenD_n | apply thenD_r | apply inB_r)
        exact ret_b rfl (by rw [h2, hd, hp]; rfl)
      · have hp : Fct.same l[i] m[i] = true := by exact fct_not hb
        repeat' (first | (apply ds_evC; exact rfl; (first | (with_reducible exact trivial) | omega); (with_reducible exact rfl); exact rfl; exact rfl; exact rfl) | apply ds_nil | apply ds_region | apply dw_skip | apply thenD_n | apply inB_n)
        exact ⟨i + 1, ⟨hi, by rw [h2, hd, hp]; rfl⟩, ent_ren id ⟨rfl, rfl, rfl, trivial⟩ trivial rfl rfl rfl rfl rfl rfl, by omega⟩
    · repeat' (first | (apply ds_evC; exact rfl; (with_reducible exact trivial); (with_reducible exact rfl); exact rfl; exact rfl; exact rfl) | apply ds_nil | apply dw_seq2 | apply ds_region | apply dw_exit | apply dw_ret | apply thenD_n | apply thenD_e | (apply inB_e; exact rfl))
      exact ret_b rfl (by rw [h2, sameL_end _ _ _ _ (by rw [List.length_map] at h; omega) (by rw [List.length_map] at h; omega)])

end Go.Proofs.Ytapciiffpnociaa
