/- The program's Check of updates. Condition: none. -/
import Derived.Test.YtapciiffpnociaaWirA
namespace Go.Proofs.Ytapciiffpnociaa
open Go Go.RowKit
attribute [local irreducible] DW DS DL DQ Ev FnOk FnP thenD inBlockD DT

set_option maxHeartbeats 8000000 in
theorem within_fn (n a b : Int) : Fn 154 [.d (.int .i64 n), .d (.int .i64 a), .d (.int .i64 b)] (fun r => r = .d (.bool (inR n a b))) := by
  refine fnp_enter' _ Try.func154 rfl rfl (by kernel_rfl) ?_
  intro O w0 E0 β0
  repeat' (first | (apply ds_evC; exact rfl; (with_reducible exact trivial); (with_reducible exact rfl); exact rfl; exact rfl; exact rfl) | (apply ds_skip; exact rfl; exact rfl) | apply ds_nil | apply dw_seq2 | apply ds_region | apply dw_ret | apply thenD_n | ((fail_if_success (apply ds_known; exact rfl)); apply ds_guardP; exact rfl; exact rfl; exact rfl; all_goals intro hg))
  all_goals exact ret_b rfl (by unfold inR; first | (simp_all; done) | (simp_all; omega))
set_option maxHeartbeats 8000000 in
theorem swithin_fn (n a b : Int) : Fn 196 [.d (.int .i64 n), .d (.int .i64 a), .d (.int .i64 b)] (fun r => r = .d (.bool (inR n a b))) := by
  refine fnp_enter' _ Try.func196 rfl rfl (by kernel_rfl) ?_
  intro O w0 E0 β0
  repeat' (first | (apply ds_evC; exact rfl; (with_reducible exact trivial); (with_reducible exact rfl); exact rfl; exact rfl; exact rfl) | (apply ds_skip; exact rfl; exact rfl) | apply ds_nil | apply dw_seq2 | apply ds_region | apply dw_ret | apply thenD_n | ((fail_if_success (apply ds_known; exact rfl)); apply ds_guardP; exact rfl; exact rfl; exact rfl; all_goals intro hg))
  all_goals exact ret_b rfl (by unfold inR; first | (simp_all; done) | (simp_all; omega))
set_option maxHeartbeats 8000000 in
theorem number_fn (n : Int) : Fn 160 [.d (.int .i64 n)] (fun r => r = .d (.bool (numB n))) := by
  refine fnp_enter' _ Try.func160 rfl rfl (by kernel_rfl) ?_
  intro O w0 E0 β0
  repeat' (first | (apply ds_evC; exact rfl; (with_reducible exact trivial); (with_reducible exact rfl); exact rfl; exact rfl; exact rfl) | apply ds_nil | apply dw_seq2 | apply ds_region | apply dw_ret | apply thenD_n | (apply ds_call; exact rfl; exact rfl; apply swithin_fn; exact rfl; (exact rfl); exact rfl; rintro _ rfl))
  exact ret_b rfl rfl
set_option maxHeartbeats 8000000 in
theorem right_fn (i : UId) : Fn 93 [elId i] (fun r => r = .d (.bool (idB i))) := by
  refine fnp_enter' _ Try.func93 rfl rfl (by kernel_rfl) ?_
  intro O w0 E0 β0
  repeat' (first | (apply ds_evC; exact rfl; (with_reducible exact trivial); (with_reducible exact rfl); exact rfl; exact rfl; exact rfl) | (apply ds_skip; exact rfl; exact rfl) | apply ds_nil | apply dw_seq2 | apply ds_region | apply dw_ret | apply thenD_n | (apply ds_call; exact rfl; exact rfl; apply within_fn; exact rfl; (exact rfl); exact rfl; rintro _ rfl) | (apply ds_newC; exact rfl; (with_reducible exact trivial); exact rfl; exact rfl; exact rfl) | ((fail_if_success (apply ds_known; exact rfl)); apply ds_guardB; exact rfl; exact rfl; exact rfl; all_goals intro hg))
  all_goals exact ret_b rfl (by unfold idB; simp [*])
set_option maxHeartbeats 8000000 in
theorem wrong_fn (i : UId) : Fn 92 [elId i] (fun r => r = .d (.bool (!idB i))) := by
  refine fnp_enter' _ Try.func92 rfl rfl (by kernel_rfl) ?_
  intro O w0 E0 β0
  repeat' (first | (apply ds_evC; exact rfl; (with_reducible exact trivial); (with_reducible exact rfl); exact rfl; exact rfl; exact rfl) | apply ds_nil | apply dw_seq2 | apply ds_region | apply dw_ret | apply thenD_n | (apply ds_call; exact rfl; exact rfl; apply right_fn; exact rfl; (exact rfl); exact rfl; rintro _ rfl) | (apply ds_newC; exact rfl; (with_reducible exact trivial); exact rfl; exact rfl; exact rfl))
  exact ret_b rfl rfl
set_option maxHeartbeats 8000000 in
theorem noNum_fn (n : Int) : Fn 159 [elI n] (fun r => r = .d (.bool (!numB n))) := by
  refine fnp_enter' _ Try.func159 rfl rfl (by kernel_rfl) ?_
  intro O w0 E0 β0
  repeat' (first | (apply ds_evC; exact rfl; (with_reducible exact trivial); (with_reducible exact rfl); exact rfl; exact rfl; exact rfl) | apply ds_nil | apply dw_seq2 | apply ds_region | apply dw_ret | apply thenD_n | (apply ds_call; exact rfl; exact rfl; apply number_fn; exact rfl; (exact rfl); exact rfl; rintro _ rfl))
  exact ret_b rfl rfl
set_option maxHeartbeats 8000000 in
theorem says_fn (f : Fct) : Fn 100 [elFct f] (fun r => r = .d (.bool (saysB f))) := by
  refine fnp_enter' _ Try.func100 rfl rfl (by kernel_rfl) ?_
  intro O w0 E0 β0
  have hc := containsFuncInt_fn (fun n => !numB n) f.args rfl fun x _ => noNum_fn x
  repeat' (first | (apply ds_evC; exact rfl; (with_reducible exact trivial); (with_reducible exact rfl); exact rfl; exact rfl; exact rfl) | (apply ds_skip; exact rfl; exact rfl) | apply ds_nil | apply dw_seq2 | apply ds_region | apply dw_ret | apply thenD_n | (apply ds_call; exact rfl; exact rfl; apply within_fn; exact rfl; (exact rfl); exact rfl; rintro _ rfl) | (apply ds_call; exact rfl; exact rfl; apply hc; exact rfl; (exact rfl); exact rfl; rintro _ rfl) | (apply ds_newC; exact rfl; (with_reducible exact trivial); exact rfl; exact rfl; exact rfl) | ((fail_if_success (apply ds_known; exact rfl)); apply ds_guardP; exact rfl; exact rfl; exact rfl; all_goals intro hg) | ((fail_if_success (apply ds_known; exact rfl)); apply ds_guardB; exact rfl; exact rfl; exact rfl; all_goals intro hg))
  all_goals exact ret_b rfl (by unfold saysB; rw [all_any]; first | (simp_all; done) | (simp_all; omega) | (simp_all; intros; omega))
set_option maxHeartbeats 8000000 in
theorem noSays_fn (f : Fct) : Fn 99 [elFct f] (fun r => r = .d (.bool (!saysB f))) := by
  refine fnp_enter' _ Try.func99 rfl rfl (by kernel_rfl) ?_
  intro O w0 E0 β0
  repeat' (first | (apply ds_evC; exact rfl; (with_reducible exact trivial); (with_reducible exact rfl); exact rfl; exact rfl; exact rfl) | apply ds_nil | apply dw_seq2 | apply ds_region | apply dw_ret | apply thenD_n | (apply ds_call; exact rfl; exact rfl; apply says_fn; exact rfl; (exact rfl); exact rfl; rintro _ rfl) | (apply ds_newC; exact rfl; (with_reducible exact trivial); exact rfl; exact rfl; exact rfl))
  exact ret_b rfl rfl

theorem same_beq {x y : UId} {b : Bool} (h : (decide (y.author = x.author) && (decide (y.number = x.number) && true)) = b) : UId.same x y = b := by
  rw [← h]
  unfold UId.same
  rw [Bool.and_true]
  congr 1 <;> (rw [Bool.eq_iff_iff]; simp; exact eq_comm)
set_option maxHeartbeats 8000000 in
theorem indexId_fn (y : UId) (l : List (UId)) : Fn 156 [.d (.slice 2 (l.map encId)), elId y] (fun r => r = .d (.int .i64 (idxF (fun x => UId.same x y) l))) := by
  refine fnp_enter' _ Try.func156 rfl rfl (by kernel_rfl) ?_
  intro O w0 E0 β0
  refine dw_len_map (t := 0) rfl fun hb => ?_
  repeat' (first | (apply ds_evC; exact rfl; (with_reducible exact trivial); (with_reducible exact rfl); exact rfl; exact rfl; exact rfl) | apply ds_nil | apply dw_seq2 | apply ds_region | apply dw_block | apply thenD_n | (apply ds_newC; exact rfl; (with_reducible exact trivial); exact rfl; exact rfl; exact rfl))
  refine ds_loop (ι := Nat) (fun i => ⟨1, [(0, .d (.slice 2 (l.map encId))), (3, .loc 0 0),(7, .d (.int .i64 l.length)), (8, .d (.int .i64 i))], [(0, .blk 36 [.d (.int .i64 y.author), .d (.int .i64 y.number)])]⟩)
    (fun i => i ≤ l.length ∧ ∀ j (hj : j < l.length), j < i → UId.same l[j] y = false) (fun i => l.length - i) 0 ⟨Nat.zero_le _, fun j _ h => absurd h (Nat.not_lt_zero j)⟩
    (ent_ren id ⟨rfl, rfl,by simp; rfl, rfl, trivial⟩ ⟨rfl, trivial⟩ rfl rfl rfl rfl rfl rfl) ?_
  rintro i ⟨h1, h2⟩
  repeat' (first | (apply ds_evC; exact rfl; (with_reducible exact trivial); (with_reducible exact rfl); exact rfl; exact rfl; exact rfl) | apply ds_nil | apply dw_seq2 | apply ds_region | apply thenD_n)
  refine dw_condP rfl (fun h => ?_) (fun h => ?_)
  · have hi : i < l.length := by omega
    repeat' (first | (apply ds_evC; exact rfl; (with_reducible exact trivial); (with_reducible exact rfl); exact rfl; exact rfl; exact rfl) | apply ds_nil | (apply dt_ev; exact rfl; exact rfl; (first | (with_reducible exact trivial) | (simp only [List.length_map]; omega)); (first | ((with_reducible apply hv_row); (exact rfl); (rw [List.length_map]; omega)) | (with_reducible exact rfl)); exact rfl; exact rfl; exact rfl; exact rfl) | (apply dt_nil0; exact rfl; exact rfl; exact rfl; exact rfl) | apply dw_seq2 | apply ds_region | (apply dw_any; kernel_rfl; kernel_rfl; exact rfl) | apply dw_block | apply dw_skip | apply thenD_n)
    refine dw_cond rfl (fun hb => ?_) (fun hb => ?_)
    · repeat' (first | (apply ds_evC; exact rfl; (with_reducible exact trivial); (with_reducible exact rfl); exact rfl; exact rfl; exact rfl) | apply ds_nil | apply dw_seq2 | apply ds_region | apply dw_ret | apply thenD_n | apply thenD_r | apply inB_r)
      exact ret_i rfl (idxF_hit (p := fun x => UId.same x y) h2 hi (same_beq hb)).symm
    · repeat' (first | (apply ds_evC; exact rfl; (first | (with_reducible exact trivial) | omega); (with_reducible exact rfl); exact rfl; exact rfl; exact rfl) | apply ds_nil | apply ds_region | apply dw_skip | apply thenD_n | apply inB_n)
      exact ⟨i + 1, ⟨hi, none_step (p := fun x => UId.same x y) h2 hi (same_beq hb)⟩, ent_ren id ⟨rfl, rfl,rfl, rfl, trivial⟩ ⟨rfl, trivial⟩ rfl rfl rfl rfl rfl rfl, by omega⟩
  · repeat' (first | (apply ds_evC; exact rfl; (with_reducible exact trivial); (with_reducible exact rfl); exact rfl; exact rfl; exact rfl) | apply ds_nil | apply dw_seq2 | apply ds_region | apply dw_exit | apply dw_ret | apply thenD_n | apply thenD_e | (apply inB_e; exact rfl))
    exact ret_i rfl (idxF_none fun j hj => h2 j hj (by omega)).symm

set_option maxHeartbeats 8000000 in
theorem containsId_fn (y : UId) (l : List UId) : Fn 97 [.d (.slice 2 (l.map encId)), elId y] (fun r => r = .d (.bool (l.any fun x => x.same y))) := by
  refine fnp_enter' _ Try.func97 rfl rfl (by kernel_rfl) ?_
  intro O w0 E0 β0
  repeat' (first | (apply ds_evC; exact rfl; (with_reducible exact trivial); (with_reducible exact rfl); exact rfl; exact rfl; exact rfl) | apply ds_nil | apply dw_seq2 | apply ds_region | apply dw_ret | apply thenD_n | (apply ds_call; exact rfl; exact rfl; apply indexId_fn; exact rfl; (exact rfl); exact rfl; rintro _ rfl) | (apply ds_newC; exact rfl; (with_reducible exact trivial); exact rfl; exact rfl; exact rfl))
  exact ret_b rfl (idxF_any _ l)

set_option maxHeartbeats 8000000 in
theorem checkU_fn (u : Upd) : Fn 26 [elUpd u] (fun r => r = .d (.int .i64 (checkU u))) := by
  refine fnp_enter' _ Try.func26 rfl rfl (by kernel_rfl) ?_
  intro O w0 E0 β0
  have h1 := containsFuncId_fn (fun i => !idB i) u.parents rfl fun x _ => wrong_fn x
  have h2 := containsFuncId_fn (fun i => !idB i) u.takes rfl fun x _ => wrong_fn x
  have h3 := risesId_fn ordId u.parents order_fn
  have h4 := risesId_fn ordId u.takes order_fn
  have h5 := containsId_fn ⟨u.id.author, u.id.number - 1⟩ u.parents
  have h6 := containsFuncFct_fn (fun f => !saysB f) u.says rfl fun x _ => noSays_fn x
  have h7 := risesFct_fn ordF u.says orderF_fn
  have h8 := wrong_fn u.id
  rw [← Bool.not_not (b := u.parents.any _), ← all_any] at h1
  rw [← Bool.not_not (b := u.takes.any _), ← all_any] at h2
  rw [← Bool.not_not (b := u.says.any _), ← all_any] at h6
  unfold checkU
  have hid := fun h => (idB_parts (i := u.id) h).2.2.2
  have hid1 := fun h => (idB_parts (i := u.id) h).2.2.1
  generalize idB u.id = b0 at *
  have hidN : b0 = false ∨ (b0 = true ∧ 1 ≤ u.id.number ∧ u.id.number ≤ 200) := by
    cases b0 with
    | false => exact .inl rfl
    | true => exact .inr ⟨rfl, hid1 rfl, hid rfl⟩
  clear hid hid1
  rcases hidN with rfl | ⟨rfl, n1, n2⟩
  · repeat' (first | (apply ds_evC; exact rfl; (with_reducible exact trivial); (with_reducible exact rfl); exact rfl; exact rfl; exact rfl) | apply ds_nil | apply dw_seq2 | apply ds_region | apply dw_block | apply dw_ret | (apply dw_condT; exact rfl) | apply thenD_n | apply thenD_r | apply inB_r | (apply ds_callV; exact rfl; exact rfl; exact rfl; exact rfl; apply h8; exact rfl; (exact rfl); exact rfl; rintro _ rfl) | (apply ds_newC; exact rfl; (with_reducible exact trivial); exact rfl; exact rfl; exact rfl))
    all_goals exact ret_i rfl (by simp)
  generalize (u.parents.all fun x => idB x) = b1 at *
  generalize (u.takes.all fun x => idB x) = b2 at *
  generalize rises ordId u.parents = b3 at *
  generalize rises ordId u.takes = b4 at *
  generalize (u.parents.any fun x => x.same ⟨u.id.author, u.id.number - 1⟩) = b5 at *
  generalize (u.says.all fun x => saysB x) = b6 at *
  generalize rises ordF u.says = b7 at *
  repeat' (first | (apply ds_evC; exact rfl; (first | (with_reducible exact trivial) | omega); (with_reducible exact rfl); exact rfl; exact rfl; exact rfl) | (apply ds_skip; exact rfl; exact rfl) | apply ds_nil | apply dw_seq2 | apply ds_region | apply dw_block | apply dw_skip | apply dw_ret | (apply dw_condT; exact rfl) | (apply dw_condF; exact rfl) | apply thenD_n | apply thenD_r | apply inB_n | apply inB_r | (apply ds_callV; exact rfl; exact rfl; exact rfl; exact rfl; apply h8; exact rfl; (exact rfl); exact rfl; rintro _ rfl) | (apply ds_call; exact rfl; exact rfl; apply h1; exact rfl; (exact rfl); exact rfl; rintro _ rfl) | (apply ds_call; exact rfl; exact rfl; apply h2; exact rfl; (exact rfl); exact rfl; rintro _ rfl) | (apply ds_call; exact rfl; exact rfl; apply h3; exact rfl; (exact rfl); exact rfl; rintro _ rfl) | (apply ds_call; exact rfl; exact rfl; apply h4; exact rfl; (exact rfl); exact rfl; rintro _ rfl) | (apply ds_call; exact rfl; exact rfl; apply h5; exact rfl; (exact rfl); exact rfl; rintro _ rfl) | (apply ds_call; exact rfl; exact rfl; apply h6; exact rfl; (exact rfl); exact rfl; rintro _ rfl) | (apply ds_call; exact rfl; exact rfl; apply h7; exact rfl; (exact rfl); exact rfl; rintro _ rfl) | (apply ds_newC; exact rfl; (with_reducible exact trivial); exact rfl; exact rfl; exact rfl) | (apply dw_condP; exact rfl; all_goals intro hg) | (apply dw_cond; exact rfl; all_goals intro hg) | ((fail_if_success (apply ds_known; exact rfl)); apply ds_guardP; exact rfl; exact rfl; exact rfl; all_goals intro hg) | ((fail_if_success (apply ds_known; exact rfl)); apply ds_guardB; exact rfl; exact rfl; exact rfl; all_goals intro hg))
  all_goals
    refine ret_i rfl ?_
    clear h1 h2 h3 h4 h5 h6 h7 h8
    first | (simp_all; done) | (simp_all; omega) | (simp_all; intros; omega)
end Go.Proofs.Ytapciiffpnociaa
