/- Several texts in one: TokW TokX TokY TokZ TokA TokB TokC TokD ScoB. Condition: none. -/
import Derived.Test.YtapciiffpnociabGreatB10

/- The program's scanner: what sign and skip do to it. Condition: none. -/
namespace Go.Proofs.YtapciiffpnociabGreat
open Go Go.RowKit
attribute [local irreducible] DW DS DL DQ Ev FnOk FnP thenD inBlockD DT
abbrev FnS (f : FuncId) (args : List SV) (J k : Nat) (H : Hp) (R : Nat → SV → Hp → Prop) : Prop := FnOk false Tryz.prog tab tab_ok f args J k H R
abbrev scH (s : ByteArray) (i : Nat) : Hp := [(0, .blk 303 [.d (.str s), .d (.int .i64 i)])]
set_option maxHeartbeats 8000000 in
theorem sign_fn (s : ByteArray) (i : Nat) : FnS 274 [.loc 0 0] 1 1 (scH s i) (fun k2 r H2 => k2 = 1 ∧ r = .d (.int .u8 (if h : i < s.size then (s[i].toNat : Int) else 0)) ∧ H2 = scH s i) := by
  refine fn_enter _ Tryz.func274 rfl rfl (by kernel_rfl) ?_
  intro O w0 E0 β0
  repeat' (first | (apply ds_evC; exact rfl; (with_reducible exact trivial); (with_reducible exact rfl); exact rfl; exact rfl; exact rfl) | apply ds_nil | (apply dt_ev; exact rfl; exact rfl; (first | (with_reducible exact trivial) | omega); (first | ((with_reducible apply hv_sat); (exact rfl); omega) | (with_reducible exact rfl)); exact rfl; exact rfl; exact rfl; exact rfl) | (apply dt_nil0; exact rfl; exact rfl; exact rfl; exact rfl) | apply dw_seq2 | (apply ds_region; exact rfl) | (apply dw_any; kernel_rfl; kernel_rfl; exact rfl; exact rfl) | apply dw_skip | apply dw_ret | apply thenD_n | apply thenD_r | (apply dw_condP; exact rfl; all_goals intro hg))
  · refine ⟨.inl rfl, _, rfl, rfl, ?_, rfl⟩
    rw [dif_pos (by omega)]; rfl
  · refine ⟨.inl rfl, _, rfl, rfl, ?_, rfl⟩
    rw [dif_neg (by omega)]; rfl
theorem note_at (s : ByteArray) (j : Nat) (h : j < s.size) (h1 : (s[j].toNat : Int) = 37) : scanAt s false j = scanAt s true j := by
  rw [note_step s false j h (.inr h1), note_step s true j h (.inl rfl)]
theorem note_in (s : ByteArray) (j : Nat) (h : j < s.size) (h1 : ¬ (s[j].toNat : Int) = 10) : scanAt s true j = scanAt s true (j + 1) := by
  rw [note_step s true j h (.inl rfl), decide_eq_true h1]
theorem note_out (s : ByteArray) (j : Nat) (h : ∀ h : j < s.size, (s[j].toNat : Int) = 10) : scanAt s true j = scanAt s false j := by
  by_cases hj : j < s.size
  · have h10 := h hj
    rw [note_step s true j hj (.inl rfl), decide_eq_false (by rw [h10]; simp), blank_step s false j hj rfl (by omega) (by omega)]
  · rw [scanAt_end s true j (by omega), scanAt_end s false j (by omega)]
set_option maxHeartbeats 8000000 in
theorem skip_fn (s : ByteArray) (i : Nat) (hi : i ≤ s.size) (hs : s.size ≤ 5000) : FnS 269 [.loc 0 0] 1 1 (scH s i)
    (fun k2 r H2 => k2 = 1 ∧ r = .tup [] ∧ ∃ j : Nat, i ≤ j ∧ j ≤ s.size ∧ scanAt s false i = scanAt s false j ∧ (∀ h : j < s.size, ¬ (s[j].toNat : Int) = 37 ∧ ¬ (s[j].toNat : Int) = 32 ∧ ¬ (s[j].toNat : Int) = 9 ∧ ¬ (s[j].toNat : Int) = 10) ∧ H2 = scH s j) := by
  refine fn_enter _ Tryz.func269 rfl rfl (by kernel_rfl) ?_
  intro O w0 E0 β0
  repeat' (apply dw_block)
  refine ds_loop (ι := Nat) (fun j => ⟨1, [(0, .loc 0 0)], scH s j⟩) (fun j => i ≤ j ∧ j ≤ s.size ∧ scanAt s false i = scanAt s false j) (fun j => s.size - j) i ⟨Nat.le_refl _, hi, rfl⟩
    (ent_ren id ⟨rfl, trivial⟩ ⟨rfl, trivial⟩ rfl rfl rfl rfl rfl rfl) ?_
  rintro j ⟨h1, h2, h3⟩
  repeat' (first | (apply ds_evC; exact rfl; (first | (with_reducible exact trivial) | omega); (with_reducible exact rfl); exact rfl; exact rfl; exact rfl) | apply ds_nil | (apply dt_ev; exact rfl; exact rfl; (first | (with_reducible exact trivial) | omega); (first | ((with_reducible apply hv_sat); (exact rfl); omega) | (with_reducible exact rfl)); exact rfl; exact rfl; exact rfl; exact rfl) | (apply dt_nil0; exact rfl; exact rfl; exact rfl; exact rfl) | apply dw_seq2 | (apply ds_region; exact rfl) | (apply dw_any; kernel_rfl; kernel_rfl; exact rfl; exact rfl) | apply dw_block | apply dw_skip | apply dw_exit | apply dw_ret | apply thenD_n | apply thenD_e | apply thenD_r | apply inB_n | apply inB_r | (apply inB_e; exact rfl) | (apply ds_setC; exact rfl; exact rfl; exact rfl; exact rfl) | (apply dw_condP; exact rfl; all_goals intro hg))
  all_goals first
    | (exfalso; omega)
    | (refine ⟨j + 1, ⟨by omega, by omega, h3.trans (blank_step s false j (by omega) rfl (by omega) (by omega))⟩, ent_ren id ⟨rfl, trivial⟩ ⟨rfl, trivial⟩ rfl rfl rfl rfl rfl rfl, by omega⟩)
    | (refine ⟨.inl rfl, _, rfl, rfl, rfl, j, h1, h2, h3, ?_, rfl⟩
       intro hj
       refine ⟨?_, ?_, ?_, ?_⟩ <;> omega)
    | (refine ⟨.inr rfl, _, rfl, rfl, rfl, j, h1, h2, h3, ?_, rfl⟩
       intro hj
       refine ⟨?_, ?_, ?_, ?_⟩ <;> omega)
    | skip
  all_goals
    refine ds_loop (ι := Nat) (fun m => ⟨1, [(0, .loc 0 0)], scH s m⟩) (fun m => j ≤ m ∧ m ≤ s.size ∧ scanAt s false i = scanAt s true m) (fun m => s.size - m) j
      ⟨Nat.le_refl _, h2, h3.trans (note_at s j (by omega) (by omega))⟩ (ent_ren id ⟨rfl, trivial⟩ ⟨rfl, trivial⟩ rfl rfl rfl rfl rfl rfl) ?_
    rintro m ⟨g1, g2, g3⟩
    repeat' (first | (apply ds_evC; exact rfl; (first | (with_reducible exact trivial) | omega); (with_reducible exact rfl); exact rfl; exact rfl; exact rfl) | apply ds_nil | (apply dt_ev; exact rfl; exact rfl; (first | (with_reducible exact trivial) | omega); (first | ((with_reducible apply hv_sat); (exact rfl); omega) | (with_reducible exact rfl)); exact rfl; exact rfl; exact rfl; exact rfl) | (apply dt_skipD; exact rfl; exact rfl; exact rfl) | (apply dt_nil0; exact rfl; exact rfl; exact rfl; exact rfl) | apply dw_seq2 | (apply ds_region; exact rfl) | (apply dw_any; kernel_rfl; kernel_rfl; exact rfl; exact rfl) | apply dw_block | apply dw_skip | apply dw_exit | (apply dw_condF; exact rfl) | apply thenD_n | apply thenD_e | apply inB_n | (apply inB_e; exact rfl) | (apply ds_setC; exact rfl; exact rfl; exact rfl; exact rfl) | (apply dw_condP; exact rfl; all_goals intro hg) | ((fail_if_success (apply dt_known; exact rfl)); apply dt_guardP; exact rfl; exact rfl; exact rfl; all_goals intro hg))
    all_goals first
      | (refine ⟨m + 1, ⟨by omega, by omega, g3.trans (note_in s m (by omega) (by omega))⟩, ent_ren id ⟨rfl, trivial⟩ ⟨rfl, trivial⟩ rfl rfl rfl rfl rfl rfl, by omega⟩)
      | (have hne : m ≠ j := by
           intro e
           subst e
           omega
         refine ⟨m, ⟨by omega, g2, g3.trans (note_out s m (by intro h; omega))⟩, ent_ren id ⟨rfl, trivial⟩ ⟨rfl, trivial⟩ rfl rfl rfl rfl rfl rfl, by omega⟩)
end Go.Proofs.YtapciiffpnociabGreat

/- The program's scanner: what run does to it. Condition: none. -/
namespace Go.Proofs.YtapciiffpnociabGreat
open Go Go.RowKit
attribute [local irreducible] DW DS DL DQ Ev FnOk FnP thenD inBlockD DT
set_option maxHeartbeats 8000000 in
theorem run_fn (s : ByteArray) (i : Nat) (hi : i ≤ s.size) (hs : s.size ≤ 5000) (f : FuncId) (p : UInt8 → Bool) (hp : ∀ c : UInt8, Fn f [.d (.int .u8 (c.toNat : Int))] (fun r => r = .d (.bool (p c)))) :
    FnS 277 [.loc 0 0, .fn f []] 1 1 (scH s i)
      (fun k2 r H2 => k2 = 1 ∧ r = .d (.str (s.extract i (i + takeW p (s.data.toList.drop i)))) ∧ H2 = scH s (i + takeW p (s.data.toList.drop i))) := by
  refine fn_enter _ Tryz.func277 rfl rfl (by kernel_rfl) ?_
  intro O w0 E0 β0
  repeat' (first | (apply ds_evC; exact rfl; (with_reducible exact trivial); (with_reducible exact rfl); exact rfl; exact rfl; exact rfl) | apply ds_nil | apply dw_seq2 | (apply ds_region; exact rfl) | apply dw_block | apply thenD_n)
  have hl0 : s.data.toList.length = s.size := by simp
  refine ds_loop (ι := Nat) (fun j => ⟨1, [(0, .loc 0 0), (1, .fn f []), (5, .d (.int .i64 i))], scH s j⟩) (fun j => i ≤ j ∧ j ≤ s.size ∧ i + takeW p (s.data.toList.drop i) = j + takeW p (s.data.toList.drop j)) (fun j => s.size - j) i ⟨Nat.le_refl _, hi, rfl⟩
    (ent_ren id ⟨rfl, rfl, rfl, trivial⟩ ⟨rfl, trivial⟩ rfl rfl rfl rfl rfl rfl) ?_
  rintro j ⟨h1, h2, h3⟩
  have hstep := fun h hq => takeW_step p s.data.toList j h hq
  have hstop := fun h hq => takeW_stop p s.data.toList j h hq
  have hend := takeW_end p s.data.toList j
  repeat' (first | (apply dt_ev; exact rfl; exact rfl; (first | (with_reducible exact trivial) | omega); (first | ((with_reducible apply hv_sat); (exact rfl); omega) | ((with_reducible apply hv_ext); (exact rfl); (exact rfl)) | (with_reducible exact rfl)); exact rfl; exact rfl; exact rfl; exact rfl) | (apply dt_skipD; exact rfl; exact rfl; exact rfl) | (apply dt_nil0; exact rfl; exact rfl; exact rfl; exact rfl) | apply dw_seq2 | (apply dw_any; kernel_rfl; kernel_rfl; exact rfl; exact rfl) | apply dw_exit | apply dw_ret | (apply dw_condF; exact rfl) | apply thenD_n | apply thenD_e | (apply inB_e; exact rfl) | ((fail_if_success (apply dt_known; exact rfl)); apply dt_guardP; exact rfl; exact rfl; exact rfl; all_goals intro hg))
  all_goals first
    | (refine dt_callV rfl rfl rfl rfl (hp _) rfl rfl rfl rfl ⟨_, rfl⟩ ?_; rintro _ rfl)
    | (exact absurd hg (by decide))
    | skip
  repeat' (first | (apply ds_evC; exact rfl; (first | (with_reducible exact trivial) | omega); (with_reducible exact rfl); exact rfl; exact rfl; exact rfl) | apply ds_nil | (apply dt_ev; exact rfl; exact rfl; (first | (with_reducible exact trivial) | omega); (first | ((with_reducible apply hv_ext); (exact rfl); (exact rfl)) | (with_reducible exact rfl)); exact rfl; exact rfl; exact rfl; exact rfl) | (apply dt_nil0; exact rfl; exact rfl; exact rfl; exact rfl) | apply dw_seq2 | (apply ds_region; exact rfl) | (apply dw_any; kernel_rfl; kernel_rfl; exact rfl; exact rfl) | apply dw_block | apply dw_skip | apply dw_exit | apply dw_ret | apply thenD_n | apply thenD_e | apply inB_n | (apply inB_e; exact rfl) | (apply ds_setC; exact rfl; exact rfl; exact rfl; exact rfl) | (apply dw_cond; exact rfl; all_goals intro hg))
  all_goals first
    | (have hj : i + takeW p (s.data.toList.drop i) = j := by have := hend (by omega); omega
       rw [hj]
       exact ⟨.inl rfl, _, rfl, rfl, rfl, rfl⟩)
    | (have hq := hstep (by omega) (by rw [byteAt _ _ (by omega)]; first | assumption | simp_all)
       refine ⟨j + 1, ⟨by omega, by omega, by omega⟩, ent_ren id ⟨rfl, rfl, rfl, trivial⟩ ⟨rfl, trivial⟩ rfl rfl rfl rfl rfl rfl, by omega⟩)
    | (have hq := hstop (by omega) (by rw [byteAt _ _ (by omega)]; first | assumption | simp_all)
       have hj : i + takeW p (s.data.toList.drop i) = j := by omega
       rw [hj]
       exact ⟨.inl rfl, _, rfl, rfl, rfl, rfl⟩)
end Go.Proofs.YtapciiffpnociabGreat

/- The program's scanner: the pairs, and whether one begins here. Condition: none. -/
namespace Go.Proofs.YtapciiffpnociabGreat
open Go Go.RowKit
attribute [local irreducible] DW DS DL DQ Ev FnOk FnP thenD inBlockD DT
def pairL : D := .slice 1 [[.str ⟨#[58, 45]⟩], [.str ⟨#[60, 61]⟩], [.str ⟨#[33, 61]⟩]]
set_option maxHeartbeats 8000000 in
theorem pairs_fn : Fn 281 [] (fun r => r = .d pairL) := by
  refine fnp_enter' _ Tryz.func281 rfl rfl (by kernel_rfl) ?_
  intro O w0 E0 β0
  repeat' (first | (apply ds_evC; exact rfl; (with_reducible exact trivial); (with_reducible exact rfl); exact rfl; exact rfl; exact rfl) | apply ds_nil | apply dw_seq2 | (apply ds_region; exact rfl) | apply dw_ret | apply thenD_n | (apply ds_bsC; exact rfl; exact rfl; exact rfl; exact rfl))
  exact ⟨.inl rfl, _, rfl, rfl, rfl⟩
def hasPre (s t : ByteArray) : Bool := decide (t.size ≤ s.size) && decide (s.extract 0 t.size = t)
set_option maxHeartbeats 8000000 in
theorem hasPrefix0_fn (s t : ByteArray) : Fn 289 [.d (.str s), .d (.str t)] (fun r => r = .d (.bool (hasPre s t))) := by
  refine fnp_enter' _ Tryz.func289 rfl rfl (by kernel_rfl) ?_
  intro O w0 E0 β0
  repeat' (first | (apply ds_evC; exact rfl; (first | (with_reducible exact trivial) | omega); (first | ((with_reducible apply hv_ext); (exact nat_lit_0); (exact rfl)) | (with_reducible exact rfl)); exact rfl; exact rfl; exact rfl) | (apply ds_skip; exact rfl; exact rfl) | apply ds_nil | apply dw_seq2 | (apply ds_region; exact rfl) | apply dw_ret | apply thenD_n | ((fail_if_success (apply ds_known; exact rfl)); apply ds_guardP; exact rfl; exact rfl; exact rfl; all_goals intro hg))
  all_goals exact ret_b rfl (by
    unfold hasPre
    first
      | (have h : t.size ≤ s.size := by omega
         simp [h]; done)
      | (have h : ¬ t.size ≤ s.size := by omega
         simp [h]; done))
set_option maxHeartbeats 8000000 in
theorem hasPrefix_fn (s t : ByteArray) : Fn 283 [.d (.str s), .d (.str t)] (fun r => r = .d (.bool (hasPre s t))) := by
  refine fnp_enter' _ Tryz.func283 rfl rfl (by kernel_rfl) ?_
  intro O w0 E0 β0
  repeat' (first | (apply ds_evC; exact rfl; (with_reducible exact trivial); (with_reducible exact rfl); exact rfl; exact rfl; exact rfl) | apply ds_nil | apply dw_seq2 | (apply ds_region; exact rfl) | apply dw_ret | apply thenD_n | (apply ds_call; exact rfl; exact rfl; apply hasPrefix0_fn; exact rfl; (exact rfl); exact rfl; rintro _ rfl))
  all_goals exact ret_b rfl rfl
abbrev scH2 (s : ByteArray) (i : Nat) : Hp := [(0, .blk 303 [.d (.str s), .d (.int .i64 i)]), (1, .blk 301 [.loc 0 0])]
set_option maxHeartbeats 8000000 in
theorem begins_fn (s : ByteArray) (i : Nat) (hi : i ≤ s.size) (t : ByteArray) :
    FnS 282 [.d (.str t), .loc 1 0] 2 2 (scH2 s i) (fun k2 r H2 => k2 = 2 ∧ r = .d (.bool (hasPre (s.extract i s.size) t)) ∧ H2 = scH2 s i) := by
  refine fn_enter _ Tryz.func282 rfl rfl (by kernel_rfl) ?_
  intro O w0 E0 β0
  repeat' (first | (apply ds_evC; exact rfl; (with_reducible exact trivial); (with_reducible exact rfl); exact rfl; exact rfl; exact rfl) | apply ds_nil | (apply dt_ev; exact rfl; exact rfl; (first | (with_reducible exact trivial) | omega); (first | ((with_reducible apply hv_ext); (exact rfl); (exact rfl)) | (with_reducible exact rfl)); exact rfl; exact rfl; exact rfl; exact rfl) | (apply dt_nil0; exact rfl; exact rfl; exact rfl; exact rfl) | apply dw_seq2 | (apply ds_region; exact rfl) | (apply dw_any; kernel_rfl; kernel_rfl; exact rfl; exact rfl) | apply dw_ret | apply thenD_n | (apply dt_call; exact rfl; exact rfl; apply hasPrefix_fn; exact rfl; (exact rfl); exact rfl; exact rfl; exact ⟨_, rfl⟩; rintro _ rfl) | (apply dt_call; exact rfl; exact rfl; apply hasPrefix_fn; exact rfl; (exact rfl); exact rfl; exact rfl; exact ⟨_, rfl⟩; rintro _ rfl))
  exact ⟨.inl rfl, _, rfl, rfl, rfl, rfl⟩
end Go.Proofs.YtapciiffpnociabGreat

/- The program's scanner: the search among the pairs. Condition: none. -/
namespace Go.Proofs.YtapciiffpnociabGreat
open Go Go.RowKit
attribute [local irreducible] DW DS DL DQ Ev FnOk FnP thenD inBlockD DT
def pairT : List ByteArray := [⟨#[58, 45]⟩, ⟨#[60, 61]⟩, ⟨#[33, 61]⟩]
def pairAt (r : ByteArray) : Int := if hasPre r ⟨#[58, 45]⟩ then 0 else if hasPre r ⟨#[60, 61]⟩ then 1 else if hasPre r ⟨#[33, 61]⟩ then 2 else -1
theorem pairAt_hit (r : ByteArray) (j : Nat) (hj : j < pairT.length) (h2 : ∀ m (_ : m < j) (hm3 : m < pairT.length), hasPre r pairT[m] = false) (h : hasPre r pairT[j] = true) : pairAt r = j := by
  have hj3 : j < 3 := hj
  unfold pairAt
  match j, hj3 with
  | 0, _ => rw [if_pos (show hasPre r ⟨#[58, 45]⟩ = true from h)]; rfl
  | 1, _ => rw [if_neg (by rw [show hasPre r ⟨#[58, 45]⟩ = false from h2 0 (by omega) (by decide)]; decide), if_pos (show hasPre r ⟨#[60, 61]⟩ = true from h)]; rfl
  | 2, _ => rw [if_neg (by rw [show hasPre r ⟨#[58, 45]⟩ = false from h2 0 (by omega) (by decide)]; decide), if_neg (by rw [show hasPre r ⟨#[60, 61]⟩ = false from h2 1 (by omega) (by decide)]; decide), if_pos (show hasPre r ⟨#[33, 61]⟩ = true from h)]; rfl
theorem pairAt_none (r : ByteArray) (h2 : ∀ m (_ : m < 3) (hm3 : m < pairT.length), hasPre r pairT[m] = false) : pairAt r = -1 := by
  unfold pairAt
  rw [if_neg (by rw [show hasPre r ⟨#[58, 45]⟩ = false from h2 0 (by omega) (by decide)]; decide), if_neg (by rw [show hasPre r ⟨#[60, 61]⟩ = false from h2 1 (by omega) (by decide)]; decide), if_neg (by rw [show hasPre r ⟨#[33, 61]⟩ = false from h2 2 (by omega) (by decide)]; decide)]
set_option maxHeartbeats 8000000 in
theorem indexFunc_fn (s : ByteArray) (i : Nat) (hi : i ≤ s.size) :
    FnS 288 [.d (.slice 1 (pairT.map fun t => [.str t])), .fn 282 [.loc 1 0]] 2 2 (scH2 s i) (fun _ r H2 => r = .d (.int .i64 (pairAt (s.extract i s.size))) ∧ H2 = scH2 s i) := by
  refine fn_enter _ Tryz.func288 rfl rfl (by kernel_rfl) ?_
  intro O w0 E0 β0
  repeat' (first | (apply ds_evC; exact rfl; (with_reducible exact trivial); (with_reducible exact rfl); exact rfl; exact rfl; exact rfl) | apply ds_nil | apply dw_seq2 | (apply ds_region; exact rfl) | apply dw_block | apply thenD_n)
  refine ds_loop (ι := Nat) (fun j => ⟨2, [(0, .d (.slice 1 (pairT.map fun t => [.str t]))), (1, .fn 282 [.loc 1 0]), (7, .d (.int .i64 3)), (8, .d (.int .i64 j))], scH2 s i⟩)
    (fun j => j ≤ 3 ∧ ∀ m (hm : m < j) (hm3 : m < pairT.length), hasPre (s.extract i s.size) pairT[m] = false) (fun j => 3 - j) 0 ⟨by omega, fun m hm => absurd hm (by omega)⟩
    (ent_ren id ⟨rfl, rfl, rfl, rfl, trivial⟩ ⟨rfl, rfl, trivial⟩ rfl rfl rfl rfl rfl rfl) ?_
  rintro j ⟨h1, h2⟩
  repeat' (first | (apply ds_evC; exact rfl; (with_reducible exact trivial); (with_reducible exact rfl); exact rfl; exact rfl; exact rfl) | apply ds_nil | apply dw_seq2 | (apply ds_region; exact rfl) | apply thenD_n)
  have hp3 : pairT.length = 3 := rfl
  refine dw_condP rfl (fun hlt => ?_) (fun hlt => ?_)
  · repeat' (first | (apply ds_evC; exact rfl; (first | (with_reducible exact trivial) | (simp only [List.length_map]; omega)); (first | ((with_reducible apply hv_row); (exact rfl); (rw [List.length_map]; omega)) | (with_reducible exact rfl)); exact rfl; exact rfl; exact rfl) | apply ds_nil | apply dw_seq2 | (apply ds_region; exact rfl) | apply dw_block | apply dw_skip | apply thenD_n)
    have hj : j < pairT.length := by omega
    refine ds_callVO id (begins_fn s i hi pairT[j]) rfl rfl rfl rfl rfl rfl ⟨rfl, rfl, trivial⟩ rfl rfl rfl rfl rfl rfl ?_ ?_
    · rintro k2 r H2 ⟨rfl, rfl, rfl⟩
      exact ⟨rfl, rfl⟩
    rintro k2 r H2 ⟨rfl, rfl, rfl⟩
    repeat' (first | apply ds_nil | apply thenD_n)
    refine dw_cond rfl (fun hh => ?_) (fun hh => ?_)
    · repeat' (first | (apply ds_evC; exact rfl; (with_reducible exact trivial); (with_reducible exact rfl); exact rfl; exact rfl; exact rfl) | apply ds_nil | apply dw_seq2 | (apply ds_region; exact rfl) | apply dw_ret | apply thenD_n | apply thenD_r | apply inB_r)
      refine ⟨.inl rfl, _, rfl, ?_⟩
      rw [pairAt_hit _ j hj h2 hh]
      exact ⟨rfl, rfl⟩
    · repeat' (first | (apply ds_evC; exact rfl; (first | (with_reducible exact trivial) | omega); (with_reducible exact rfl); exact rfl; exact rfl; exact rfl) | apply ds_nil | (apply ds_region; exact rfl) | apply dw_skip | apply thenD_n | apply inB_n)
      refine ⟨j + 1, ⟨by omega, fun m hm hm3 => ?_⟩, ent_ren id ⟨rfl, rfl, rfl, rfl, trivial⟩ ⟨rfl, rfl, trivial⟩ rfl rfl rfl rfl rfl rfl, by omega⟩
      by_cases e : m = j
      · subst e; exact hh
      · exact h2 m (by omega) hm3
  · repeat' (first | (apply ds_evC; exact rfl; (with_reducible exact trivial); (with_reducible exact rfl); exact rfl; exact rfl; exact rfl) | apply ds_nil | apply dw_seq2 | (apply ds_region; exact rfl) | apply dw_exit | apply dw_ret | apply thenD_n | apply thenD_e | (apply inB_e; exact rfl))
    refine ⟨.inl rfl, _, rfl, ?_, rfl⟩
    rw [pairAt_none _ (fun m hm hm3 => h2 m (by omega) hm3)]
    rfl
set_option maxHeartbeats 8000000 in
theorem containsFunc_fn (s : ByteArray) (i : Nat) (hi : i ≤ s.size) :
    FnS 280 [.d (.slice 1 (pairT.map fun t => [.str t])), .fn 282 [.loc 1 0]] 2 2 (scH2 s i) (fun _ r H2 => r = .d (.bool (decide (pairAt (s.extract i s.size) ≥ 0))) ∧ H2 = scH2 s i) := by
  refine fn_enter _ Tryz.func280 rfl rfl (by kernel_rfl) ?_
  intro O w0 E0 β0
  repeat' (first | (apply ds_evC; exact rfl; (with_reducible exact trivial); (with_reducible exact rfl); exact rfl; exact rfl; exact rfl) | apply ds_nil | apply dw_seq2 | (apply ds_region; exact rfl) | apply thenD_n)
  refine ds_callO id (indexFunc_fn s i hi) rfl rfl rfl rfl ⟨rfl, rfl, trivial⟩ rfl rfl rfl rfl rfl rfl ?_ ?_
  · rintro k2 r H2 ⟨rfl, rfl⟩
    exact ⟨rfl, rfl⟩
  rintro k2 r H2 ⟨rfl, rfl⟩
  repeat' (first | (apply ds_evC; exact rfl; (with_reducible exact trivial); (with_reducible exact rfl); exact rfl; exact rfl; exact rfl) | apply ds_nil | apply dw_ret | apply thenD_n)
  exact ⟨.inl rfl, _, rfl, rfl, rfl⟩
end Go.Proofs.YtapciiffpnociabGreat

/- The program's search for a byte in a string. Condition: none. -/
namespace Go.Proofs.YtapciiffpnociabGreat
open Go Go.RowKit
attribute [local irreducible] DW DS DL DQ Ev FnOk FnP thenD inBlockD DT
set_option maxHeartbeats 8000000 in
theorem indexByte0_fn (s : ByteArray) (c : UInt8) : Fn 290 [.d (.str s), .d (.int .u8 (c.toNat : Int))] (fun r => r = .d (.int .i64 (firstIdx s ((c.toNat : Int).toNat.toUInt8)))) := by
  refine fnp_enter' _ Tryz.func290 rfl rfl (by kernel_rfl) ?_
  intro O w0 E0 β0
  repeat' (first | (apply ds_evC; exact rfl; (with_reducible exact trivial); (with_reducible exact rfl); exact rfl; exact rfl; exact rfl) | apply ds_nil | apply dw_seq2 | (apply ds_region; exact rfl) | apply thenD_n)
  refine ds_ev (ev_indexByte Tryz.func292 rfl rfl rfl rfl rfl rfl rfl) rfl rfl ?_
  repeat' (first | (apply ds_evC; exact rfl; (with_reducible exact trivial); (with_reducible exact rfl); exact rfl; exact rfl; exact rfl) | apply ds_nil | apply dw_ret | apply thenD_n)
  exact ret_i rfl rfl
set_option maxHeartbeats 8000000 in
theorem indexByte_fn (s : ByteArray) (c : UInt8) : Fn 284 [.d (.str s), .d (.int .u8 (c.toNat : Int))] (fun r => r = .d (.int .i64 (firstIdx s ((c.toNat : Int).toNat.toUInt8)))) := by
  refine fnp_enter' _ Tryz.func284 rfl rfl (by kernel_rfl) ?_
  intro O w0 E0 β0
  repeat' (first | (apply ds_evC; exact rfl; (with_reducible exact trivial); (with_reducible exact rfl); exact rfl; exact rfl; exact rfl) | apply ds_nil | apply dw_seq2 | (apply ds_region; exact rfl) | apply dw_ret | apply thenD_n | (apply ds_call; exact rfl; exact rfl; apply indexByte0_fn; exact rfl; (exact rfl); exact rfl; rintro _ rfl))
  exact ret_i rfl rfl
end Go.Proofs.YtapciiffpnociabGreat

/- The program's scanner: one token. Condition: none. -/
namespace Go.Proofs.YtapciiffpnociabGreat
open Go Go.RowKit
attribute [local irreducible] DW DS DL DQ Ev FnOk FnP thenD inBlockD DT
section
variable (s : ByteArray) (i : Nat) (hi : i < s.size)
include hi
theorem drop_cons : s.data.toList.drop i = s[i] :: s.data.toList.drop (i + 1) := by
  have hl0 : s.data.toList.length = s.size := by simp
  rw [List.drop_eq_getElem_cons (by omega), byteAt]
theorem takeW_one (p : UInt8 → Bool) (h : p s[i] = true) : takeW p (s.data.toList.drop i) = 1 + takeW p (s.data.toList.drop (i + 1)) := by
  have := takeW_step p s.data.toList i (by simpa using hi) (by rw [byteAt _ _ hi]; exact h)
  omega
theorem tok_letter (h : letterB s[i] = true) : tokAt (s.data.toList.drop i) = (if smallB s[i] then 1 else 2, takeW alnumB (s.data.toList.drop i)) := by
  rw [takeW_one s i hi alnumB (by unfold alnumB; rw [h]; rfl), drop_cons s i hi, tokAt_cons, if_pos h]
theorem tok_digit (h : letterB s[i] = false) (hd : digitB s[i] = true) : tokAt (s.data.toList.drop i) = (3, takeW digitB (s.data.toList.drop i)) := by
  rw [takeW_one s i hi digitB hd, drop_cons s i hi, tokAt_cons, if_neg (by rw [h]; exact Bool.false_ne_true), if_pos hd]
theorem tok_sign (h : letterB s[i] = false) (hd : digitB s[i] = false) : tokAt (s.data.toList.drop i) = if pairB (s[i] :: s.data.toList.drop (i + 1)) then (4, 2) else if signs.contains s[i] then (4, 1) else (0, 0) := by
  rw [drop_cons s i hi, tokAt_cons, if_neg (by rw [h]; exact Bool.false_ne_true), if_neg (by rw [hd]; exact Bool.false_ne_true)]
omit hi in
theorem ext_ext (k : Nat) (h : i + k ≤ s.size) : (s.extract i s.size).extract 0 k = s.extract i (i + k) := by
  rw [ByteArray.extract_extract]
  congr 1
  omega
theorem pair_at : decide (pairAt (s.extract i s.size) ≥ 0) = pairB (s[i] :: s.data.toList.drop (i + 1)) := by
  have hsz : (s.extract i s.size).size = s.size - i := by rw [ByteArray.size_extract]; omega
  by_cases h2 : i + 1 < s.size
  · rw [pair_ext s i h2]
    have hp : ∀ t : ByteArray, t.size = 2 → hasPre (s.extract i s.size) t = decide (s.extract i (i + 2) = t) := by
      intro t ht
      unfold hasPre
      rw [ht, hsz, ext_ext s i 2 (by omega), decide_eq_true (by omega), Bool.true_and]
    unfold pairAt
    rw [hp _ rfl, hp _ rfl, hp _ rfl]
    by_cases a : s.extract i (i + 2) = ⟨#[58, 45]⟩
    · simp [a]
    · by_cases b : s.extract i (i + 2) = ⟨#[60, 61]⟩
      · simp [b]
      · by_cases c : s.extract i (i + 2) = ⟨#[33, 61]⟩
        · simp [c]
        · simp [a, b, c]
  · have hp : ∀ t : ByteArray, t.size = 2 → hasPre (s.extract i s.size) t = false := by
      intro t ht
      unfold hasPre
      rw [ht, hsz, decide_eq_false (by omega), Bool.false_and]
    have hl : s.data.toList.drop (i + 1) = [] := List.drop_eq_nil_of_le (by simp; omega)
    unfold pairAt
    rw [hp _ rfl, hp _ rfl, hp _ rfl, hl]
    simp [pairB]
theorem pair_room (h : pairAt (s.extract i s.size) ≥ 0) : i + 2 ≤ s.size := by
  have hq := pair_at s i hi
  rw [decide_eq_true h] at hq
  rcases Nat.lt_or_ge (i + 1) s.size with h2 | h2
  · omega
  · have hl : s.data.toList.drop (i + 1) = [] := List.drop_eq_nil_of_le (by simp; omega)
    rw [hl] at hq
    simp [pairB] at hq
end
theorem idx_signs (c : UInt8) : decide ((0 : Int) ≤ firstIdx ⟨#[40, 41, 44, 46, 60, 61, 43, 45, 42]⟩ c) = signs.contains c := by
  have key : ∀ n : Fin 256, decide ((0 : Int) ≤ firstIdx ⟨#[40, 41, 44, 46, 60, 61, 43, 45, 42]⟩ (UInt8.ofNat n.1)) = signs.contains (UInt8.ofNat n.1) := by decide +kernel
  have := key ⟨c.toNat, c.toNat_lt⟩
  simpa using this
theorem signs_low (c : UInt8) (h : signs.contains c = true) : (c.toNat : Int) < 128 := by
  have key : ∀ n : Fin 256, signs.contains (UInt8.ofNat n.1) = true → (n.1 : Int) < 128 := by decide +kernel
  exact key ⟨c.toNat, c.toNat_lt⟩ (by simpa using h)
theorem use1 {A C G : Prop} (c : A → C) (a : A) (k : C → G) : G := k (c a)
theorem use2 {A B C G : Prop} (c : A → B → C) (a : A) (b : B) (k : C → G) : G := k (c a b)
theorem use3 {A B E C G : Prop} (c : A → B → E → C) (a : A) (b : B) (e : E) (k : C → G) : G := k (c a b e)
theorem errL (kd : Int) (n : Nat) (c : UInt8) (h : kd = 1 ∨ kd = 2) : tokErr kd n c = if 12 < n then 2 else 0 := by
  unfold tokErr
  rcases h with rfl | rfl <;> simp
theorem errD (n : Nat) (c : UInt8) : tokErr 3 n c = if 7 < n then 2 else if 1 < n ∧ (c.toNat : Int) = 48 then 1 else 0 := by
  rw [tokErr_int]
  simp only [if_false, true_and, Int.reduceEq, or_self, false_and, false_or]
  by_cases h1 : 7 < n
  · rw [if_pos h1, if_pos (by omega)]
  · rw [if_neg h1, if_neg (by omega)]
    by_cases h2 : 1 < n ∧ (c.toNat : Int) = 48
    · rw [if_pos h2, if_pos (by omega)]
    · rw [if_neg h2, if_neg (by omega)]
theorem errP (n : Nat) (c : UInt8) : tokErr 4 n c = 0 := by
  unfold tokErr
  simp
theorem small_great {c : UInt8} (h : smallB c = true) : greatB c = false := by
  unfold smallB at h
  unfold greatB
  simp at h ⊢
  omega
def tokenR (s : ByteArray) (i : Nat) (hi : i < s.size) (r : SV) (H2 : Hp) : Prop :=
  ∃ (kd e : Int) (tx : ByteArray) (j : Nat), r = .tup [.agg [.d (.int .i64 kd), .d (.int .i64 i), .d (.str tx)], .d (.int .i64 e)] ∧ H2 = scH s j ∧ e = tokErr (tokAt (s.data.toList.drop i)).1 (tokAt (s.data.toList.drop i)).2 s[i] ∧
    (e = 0 → kd = (tokAt (s.data.toList.drop i)).1 ∧ tx = s.extract i (i + (tokAt (s.data.toList.drop i)).2) ∧ j = i + (tokAt (s.data.toList.drop i)).2)
set_option maxHeartbeats 8000000 in
theorem token_fn (s : ByteArray) (i : Nat) (hi : i < s.size) (hs : s.size ≤ 5000) :
    FnS 270 [.loc 0 0] 1 1 (scH s i) (fun _ r H2 => tokenR s i hi r H2) := by
  refine fn_enterF _ Tryz.func270 rfl rfl (by kernel_rfl) ?_
  intro O w0 E0 β0
  repeat' (first | (apply ds_evC; exact rfl; (with_reducible exact trivial); (with_reducible exact rfl); exact rfl; exact rfl; exact rfl) | apply ds_nil | apply dw_seq2 | (apply ds_region; exact rfl) | apply thenD_n | (apply ds_newC; exact rfl; (with_reducible exact trivial); exact rfl; exact rfl; exact rfl) | (apply ds_setC; exact rfl; exact rfl; exact rfl; exact rfl))
  (refine ds_callF id (sign_fn s i) rfl rfl rfl rfl ⟨rfl, trivial⟩ rfl rfl rfl rfl rfl rfl ?_ ?_)
  · rintro k2 r H2 ⟨rfl, rfl, rfl⟩
    exact ⟨rfl, rfl⟩
  rintro k2 r H2 ⟨rfl, rfl, rfl⟩
  rw [dif_pos hi]
  change DS _ _ _ _ _ _ _ _
  have hl0 : s.data.toList.length = s.size := by simp
  have hla := takeW_le alnumB (s.data.toList.drop i)
  have hld := takeW_le digitB (s.data.toList.drop i)
  rw [List.length_drop, hl0] at hla hld
  have hea : (s.extract i (i + takeW alnumB (s.data.toList.drop i))).size = takeW alnumB (s.data.toList.drop i) := by rw [ByteArray.size_extract]; omega
  have hed : (s.extract i (i + takeW digitB (s.data.toList.drop i))).size = takeW digitB (s.data.toList.drop i) := by rw [ByteArray.size_extract]; omega
  have cS : smallB s[i] = true → (tokAt (s.data.toList.drop i)).1 = 1 ∧ (tokAt (s.data.toList.drop i)).2 = takeW alnumB (s.data.toList.drop i) := by
    intro h
    rw [tok_letter s i hi (by unfold letterB; simp [h]), if_pos h]
    exact ⟨rfl, rfl⟩
  have cG : smallB s[i] = false → greatB s[i] = true → (tokAt (s.data.toList.drop i)).1 = 2 ∧ (tokAt (s.data.toList.drop i)).2 = takeW alnumB (s.data.toList.drop i) := by
    intro h h2
    rw [tok_letter s i hi (by unfold letterB; simp [h2]), if_neg (by rw [h]; exact Bool.false_ne_true)]
    exact ⟨rfl, rfl⟩
  have cD : smallB s[i] = false → greatB s[i] = false → digitB s[i] = true → (tokAt (s.data.toList.drop i)).1 = 3 ∧ (tokAt (s.data.toList.drop i)).2 = takeW digitB (s.data.toList.drop i) := by
    intro h h2 h3
    rw [tok_digit s i hi (by unfold letterB; simp [h, h2]) h3]
    exact ⟨rfl, rfl⟩
  have cN : smallB s[i] = false → greatB s[i] = false → digitB s[i] = false → tokAt (s.data.toList.drop i) = if pairAt (s.extract i s.size) ≥ 0 then (4, 2) else if signs.contains s[i] then (4, 1) else (0, 0) := by
    intro h h2 h3
    rw [tok_sign s i hi (by unfold letterB; simp [h, h2]) h3, ← pair_at s i hi]
    by_cases hp : pairAt (s.extract i s.size) ≥ 0
    · rw [if_pos hp, if_pos (by simpa using hp)]
    · rw [if_neg hp, if_neg (by simpa using hp)]
  have cX : smallB s[i] = true → greatB s[i] = true → False := fun h h2 => by rw [small_great h] at h2; cases h2
  have cY : greatB s[i] = true → greatB s[i] = false → False := fun h h2 => by rw [h] at h2; cases h2
  have hroom := pair_room s i hi
  clear hl0
  repeat' (first | (apply ds_evC; exact rfl; (with_reducible exact trivial); (with_reducible exact rfl); exact rfl; exact rfl; exact rfl) | (apply ds_skip; exact rfl; exact rfl) | apply ds_nil | apply dw_seq2 | (apply ds_region; exact rfl) | apply dw_block | apply dw_skip | (apply dw_condT; exact rfl) | apply thenD_n | (apply ds_call; exact rfl; exact rfl; apply small_fn; exact rfl; (exact rfl); exact rfl; rintro _ rfl) | (apply ds_call; exact rfl; exact rfl; apply great_fn; exact rfl; (exact rfl); exact rfl; rintro _ rfl) | (apply ds_call; exact rfl; exact rfl; apply digit_fn; exact rfl; (exact rfl); exact rfl; rintro _ rfl) | (apply ds_setC; exact rfl; exact rfl; exact rfl; exact rfl) | (apply dw_cond; exact rfl; all_goals intro hg) | ((fail_if_success (apply ds_known; exact rfl)); apply ds_guardB; exact rfl; exact rfl; exact rfl; all_goals intro hg))
  all_goals first
    | ((refine ds_callF id (run_fn s i (by omega) hs _ alnumB alnum_fn) rfl rfl rfl rfl ⟨rfl, trivial⟩ rfl rfl rfl rfl rfl rfl ?_ ?_)
       · rintro k2 r H2 ⟨rfl, rfl, rfl⟩
         exact ⟨rfl, rfl⟩
       rintro k2 r H2 ⟨rfl, rfl, rfl⟩
       change DS _ _ _ _ _ _ _ _)
    | ((refine ds_callF id (run_fn s i (by omega) hs _ digitB digit_fn) rfl rfl rfl rfl ⟨rfl, trivial⟩ rfl rfl rfl rfl rfl rfl ?_ ?_)
       · rintro k2 r H2 ⟨rfl, rfl, rfl⟩
         exact ⟨rfl, rfl⟩
       rintro k2 r H2 ⟨rfl, rfl, rfl⟩
       change DS _ _ _ _ _ _ _ _)
    | skip
  repeat' (first | (apply ds_evC; exact rfl; (with_reducible exact trivial); (with_reducible exact rfl); exact rfl; exact rfl; exact rfl) | (apply ds_skip; exact rfl; exact rfl) | apply ds_nil | apply dw_seq2 | (apply ds_region; exact rfl) | apply dw_skip | apply dw_ret | (apply dw_condF; exact rfl) | apply thenD_n | apply thenD_r | apply inB_n | apply inB_r | (apply ds_call; exact rfl; exact rfl; apply pairs_fn; exact rfl; (exact rfl); exact rfl; rintro _ rfl) | (apply ds_setC; exact rfl; exact rfl; exact rfl; exact rfl) | (apply dw_condP; exact rfl; all_goals intro hg) | ((fail_if_success (apply ds_known; exact rfl)); apply ds_guardP; exact rfl; exact rfl; exact rfl; all_goals intro hg))
  all_goals first
    | (refine use2 cX ?_ ?_ False.elim; assumption; assumption)
    | (refine use2 cY ?_ ?_ False.elim; assumption; assumption)
    | (refine use1 cS ?_ ?_; assumption; rintro ⟨t1, t2⟩
       refine ⟨.inl rfl, _, rfl, 1, scH s _, ⟨rfl, trivial⟩, rfl, rfl, rfl, rfl, _, _, _, _, rfl, rfl, ?_, ?_⟩
       · rw [t1, t2, errL _ _ _ (.inl rfl)]
         first | rw [if_pos (by omega)] | rw [if_neg (by omega)]
       · intro he
         first | exact absurd he (by decide) | (rw [t1, t2]; exact ⟨rfl, rfl, rfl⟩))
    | (refine use2 cG ?_ ?_ ?_; assumption; assumption; rintro ⟨t1, t2⟩
       refine ⟨.inl rfl, _, rfl, 1, scH s _, ⟨rfl, trivial⟩, rfl, rfl, rfl, rfl, _, _, _, _, rfl, rfl, ?_, ?_⟩
       · rw [t1, t2, errL _ _ _ (.inr rfl)]
         first | rw [if_pos (by omega)] | rw [if_neg (by omega)]
       · intro he
         first | exact absurd he (by decide) | (rw [t1, t2]; exact ⟨rfl, rfl, rfl⟩))
    | (refine use3 cD ?_ ?_ ?_ ?_; assumption; assumption; assumption; rintro ⟨t1, t2⟩
       refine ⟨.inl rfl, _, rfl, 1, scH s _, ⟨rfl, trivial⟩, rfl, rfl, rfl, rfl, _, _, _, _, rfl, rfl, ?_, ?_⟩
       · rw [t1, t2, errD]
         first | rw [if_pos (by omega)] | rw [if_neg (by omega), if_pos (by omega)] | rw [if_neg (by omega), if_neg (by omega)]
       · intro he
         first | exact absurd he (by decide) | (rw [t1, t2]; exact ⟨rfl, rfl, rfl⟩))
    | skip
  have hT := cN ‹_› ‹_› ‹_›
  (refine ds_callF id (containsFunc_fn s i (by omega)) rfl rfl rfl rfl ⟨rfl, rfl, trivial⟩ rfl rfl rfl rfl rfl rfl ?_ ?_)
  · rintro k2 r H2 ⟨rfl, rfl⟩
    exact ⟨rfl, rfl⟩
  rintro k2 r H2 ⟨rfl, rfl⟩
  change DS _ _ _ _ _ _ _ _
  repeat' (first | (apply ds_evC; exact rfl; (with_reducible exact trivial); (with_reducible exact rfl); exact rfl; exact rfl; exact rfl) | apply ds_nil | apply thenD_n)
  refine dw_condP rfl (fun hp => ?_) (fun hp => ?_)
  · have hr := hroom hp
    rw [if_pos hp] at hT
    repeat' (first | (apply ds_evC; exact rfl; (first | (with_reducible exact trivial) | omega); (with_reducible exact rfl); exact rfl; exact rfl; exact rfl) | apply ds_nil | (apply dt_ev; exact rfl; exact rfl; (first | (with_reducible exact trivial) | omega); (first | ((with_reducible apply hv_ext); (exact rfl); (exact nat_add_2 _)) | (with_reducible exact rfl)); exact rfl; exact rfl; exact rfl; exact rfl) | (apply dt_set; exact rfl; exact rfl; (with_reducible exact trivial); exact rfl; exact rfl; exact rfl; exact rfl) | (apply dt_nil0; exact rfl; exact rfl; exact rfl; exact rfl) | apply dw_seq2 | (apply ds_region; exact rfl) | (apply dw_any; kernel_rfl; kernel_rfl; exact rfl; exact rfl) | apply dw_ret | apply thenD_n | apply inB_n | (apply ds_setC; exact rfl; exact rfl; exact rfl; exact rfl))
    refine ⟨.inl rfl, _, rfl, 1, scH s _, ⟨rfl, trivial⟩, rfl, rfl, rfl, rfl, _, _, _, _, rfl, rfl, ?_, ?_⟩
    · rw [hT, errP]
    · intro he
      rw [hT]
      exact ⟨rfl, rfl, rfl⟩
  · rw [if_neg hp] at hT
    repeat' (first | (apply ds_evC; exact rfl; (with_reducible exact trivial); (with_reducible exact rfl); exact rfl; exact rfl; exact rfl) | apply ds_nil | apply dw_seq2 | (apply ds_region; exact rfl) | apply thenD_n | (apply ds_call; exact rfl; exact rfl; apply indexByte_fn; exact rfl; (exact rfl); exact rfl; rintro _ rfl))
    have hidx := idx_signs s[i]
    have hu : ((s[i].toNat : Int).toNat.toUInt8) = s[i] := by simp
    refine dw_condP rfl (fun hq => ?_) (fun hq => ?_)
    · rw [hu] at hq
      rw [decide_eq_true (by exact hq)] at hidx
      have hlow := signs_low s[i] hidx.symm
      have hlow0 : (0 : Int) ≤ (s[i].toNat : Int) := by omega
      rw [if_pos hidx.symm] at hT
      have hone : (⟨#[s[i]]⟩ : ByteArray) = s.extract i (i + 1) := by
        apply ByteArray.ext
        simp only [ByteArray.data_extract]
        apply Array.toList_inj.1
        rw [Array.toList_extract, List.extract_eq_take_drop, show i + 1 - i = 1 by omega, drop_cons s i hi]
        rfl
      repeat' (first | (apply ds_evC; exact rfl; (first | (with_reducible exact trivial) | omega); (first | (with_reducible exact hv_chr) | (with_reducible exact rfl)); exact rfl; exact rfl; exact rfl) | apply ds_nil | apply dw_seq2 | (apply ds_region; exact rfl) | apply dw_ret | apply thenD_n | apply inB_n | (apply ds_setC; exact rfl; exact rfl; exact rfl; exact rfl))
      refine ⟨.inl rfl, _, rfl, 1, scH s _, ⟨rfl, trivial⟩, rfl, rfl, rfl, rfl, _, _, _, _, rfl, rfl, ?_, ?_⟩
      · rw [hT, errP]
      · intro he
        rw [hT]
        exact ⟨rfl, hone, rfl⟩
    · rw [hu] at hq
      rw [decide_eq_false (by exact hq)] at hidx
      rw [if_neg (by rw [← hidx]; exact Bool.false_ne_true)] at hT
      repeat' (first | (apply ds_evC; exact rfl; (with_reducible exact trivial); (with_reducible exact rfl); exact rfl; exact rfl; exact rfl) | apply ds_nil | apply dw_seq2 | (apply ds_region; exact rfl) | apply dw_ret | apply thenD_n | apply thenD_r | apply inB_r | (apply ds_setC; exact rfl; exact rfl; exact rfl; exact rfl))
      refine ⟨.inl rfl, _, rfl, 1, scH s _, ⟨rfl, trivial⟩, rfl, rfl, rfl, rfl, _, _, _, _, rfl, rfl, ?_, ?_⟩
      · rw [hT]
        unfold tokErr
        simp
      · intro he
        exact absurd he (by decide)
end Go.Proofs.YtapciiffpnociabGreat

/- Scan answers what the plain words say. Condition: none. -/
namespace Go.Proofs.YtapciiffpnociabGreat
open Go Go.RowKit
attribute [local irreducible] DW DS DL DQ Ev FnOk FnP thenD inBlockD DT
def scanInv (s : ByteArray) (x : List Tok × Nat) : Prop :=
  x.2 ≤ s.size ∧ x.1.length ≤ x.2 ∧ scanAt s false 0 = (scanAt s false x.2).map (x.1 ++ ·) ∧
  ∀ h : x.2 < s.size, ¬ (s[x.2].toNat : Int) = 37 ∧ ¬ (s[x.2].toNat : Int) = 32 ∧ ¬ (s[x.2].toNat : Int) = 9 ∧ ¬ (s[x.2].toNat : Int) = 10
set_option maxHeartbeats 8000000 in
theorem scan_fn (s : ByteArray) : Fn 265 [.d (.str s)] (fun r => r = encScan (scanS s)) := by
  refine fnp_enter' _ Tryz.func265 rfl rfl (by kernel_rfl) ?_
  intro O w0 E0 β0
  repeat' (first | (apply ds_evC; exact rfl; (with_reducible exact trivial); (with_reducible exact rfl); exact rfl; exact rfl; exact rfl) | apply ds_nil | apply dw_seq2 | (apply ds_region; exact rfl) | apply thenD_n)
  refine dw_condP rfl (fun hbig => ?_) (fun hbig => ?_)
  · repeat' (first | (apply ds_evC; exact rfl; (with_reducible exact trivial); (with_reducible exact rfl); exact rfl; exact rfl; exact rfl) | apply ds_nil | apply dw_seq2 | (apply ds_region; exact rfl) | apply thenD_n)
    refine dw_nild 2 3 rfl ?_
    repeat' (first | apply dw_ret | apply thenD_r)
    exact ret_3 rfl (by rw [scanS_big s (by omega)]; exact ⟨rfl, rfl, rfl⟩)
  · repeat' (first | (apply ds_evC; exact rfl; (with_reducible exact trivial); (with_reducible exact rfl); exact rfl; exact rfl; exact rfl) | apply ds_nil | apply dw_seq2 | (apply ds_region; exact rfl) | apply dw_skip | apply thenD_n | (apply ds_newC; exact rfl; (with_reducible exact trivial); exact rfl; exact rfl; exact rfl))
    (refine ds_callF id (skip_fn s 0 (by omega) (by omega)) rfl rfl rfl rfl ⟨rfl, trivial⟩ rfl rfl rfl rfl rfl rfl ?_ ?_)
    · rintro k2 r H2 ⟨rfl, rfl, j, _, _, _, _, rfl⟩
      exact ⟨rfl, rfl⟩
    rintro k2 r H2 ⟨rfl, rfl, j0, g1, g2, g3, g4, rfl⟩
    change DS _ _ _ _ _ _ _ _
    repeat' (first | apply ds_nil | apply dw_block | apply thenD_n)
    refine dw_nilrow (t := 6) 296 3 rfl ?_
    refine ds_loop (ι := List Tok × Nat) (fun x => ⟨2, [(0, .d (.str s)), (5, .loc 0 0), (6, .row 1)], [(0, .blk 303 [.d (.str s), .d (.int .i64 x.2)]), (1, .row 296 3 (x.1.map encTok))]⟩)
      (scanInv s) (fun x => s.size - x.2) ([], j0) ⟨g2, Nat.zero_le _, by rw [g3]; cases scanAt s false j0 <;> rfl, g4⟩
      (ent_ren id ⟨rfl, rfl, rfl, trivial⟩ ⟨rfl, rfl, trivial⟩ rfl rfl rfl rfl rfl rfl) ?_
    rintro ⟨toks, i⟩ ⟨h1, h2, h3, h4⟩
    dsimp only at h1 h2 h3 h4 ⊢
    repeat' (first | (apply ds_evC; exact rfl; (with_reducible exact trivial); (with_reducible exact rfl); exact rfl; exact rfl; exact rfl) | apply ds_nil | apply dw_seq2 | (apply ds_region; exact rfl) | apply thenD_n)
    refine dw_condP rfl (fun hlt => ?_) (fun hlt => ?_)
    · have hlt' : i < s.size := by omega
      have h4' := h4 hlt'
      repeat' (first | (apply ds_evC; exact rfl; (with_reducible exact trivial); (with_reducible exact rfl); exact rfl; exact rfl; exact rfl) | apply dw_seq2 | (apply ds_region; exact rfl) | apply dw_block | apply dw_skip | apply thenD_n)
      (refine ds_callF id (token_fn s i hlt' (by omega)) rfl rfl rfl rfl ⟨rfl, trivial⟩ rfl rfl rfl rfl rfl rfl ?_ ?_)
      · rintro k2 r H2 ⟨kd, e, tx, j, rfl, rfl, _, _⟩
        exact ⟨rfl, rfl⟩
      rintro k2 r H2 ⟨kd, e, tx, j, rfl, rfl, he, hz⟩
      change DS _ _ _ _ _ _ _ _
      have hS := tok_step s false i hlt' rfl h4'.1 h4'.2.1 h4'.2.2.1 h4'.2.2.2 _ rfl
      have hle := tokAt_le (s.data.toList.drop i)
      have hpo := tokAt_pos (s.data.toList.drop i)
      rw [List.length_drop, show s.data.toList.length = s.size by simp] at hle
      generalize tokAt (s.data.toList.drop i) = q at hS hle hpo he hz
      obtain ⟨kind, n⟩ := q
      dsimp only at hS hle hpo he hz
      rw [hS] at h3
      repeat' (first | (apply ds_evC; exact rfl; (with_reducible exact trivial); (with_reducible exact rfl); exact rfl; exact rfl; exact rfl) | apply ds_nil | apply dw_seq2 | (apply ds_region; exact rfl) | apply thenD_n | (apply ds_newC; exact rfl; (with_reducible exact trivial); exact rfl; exact rfl; exact rfl) | (apply ds_setC; exact rfl; exact rfl; exact rfl; exact rfl))
      refine dw_condP rfl (fun hne => ?_) (fun hne => ?_)
      · repeat' (first | (apply dt_ev; exact rfl; exact rfl; (with_reducible exact trivial); (with_reducible exact rfl); exact rfl; exact rfl; exact rfl; exact rfl) | (apply dt_nil0; exact rfl; exact rfl; exact rfl; exact rfl) | apply dw_seq2 | (apply dw_any; kernel_rfl; kernel_rfl; exact rfl; exact rfl) | apply thenD_n)
        refine dw_nild 2 3 rfl ?_
        repeat' (first | apply dw_ret | apply thenD_r | apply inB_r)
        refine ret_3 rfl ?_
        have := scanS_err s (by omega) i e (by rw [h3, if_neg (by rw [← he]; exact hne), ← he]; rfl)
        rw [this]
        exact ⟨rfl, rfl, rfl⟩
      · have he0 : e = 0 := Decidable.not_not.1 hne
        obtain ⟨z1, z2, z3⟩ := hz he0
        rw [if_pos (by rw [← he]; exact he0)] at h3
        have hn1 := hpo (by intro hk; rw [hk] at he; unfold tokErr at he; simp at he; omega)
        subst z1; subst z2; subst z3
        repeat' (first | (apply ds_evC; exact rfl; (with_reducible exact trivial); (with_reducible exact rfl); exact rfl; exact rfl; exact rfl) | apply ds_nil | (apply ds_region; exact rfl) | apply dw_skip | apply thenD_n | apply inB_n | (apply ds_bsC; exact rfl; exact rfl; exact rfl; exact rfl) | (apply ds_tradeC; exact rfl; (unfold maxLen; simp <;> omega); exact rfl; exact rfl; exact rfl; exact rfl))
        (refine ds_callF id (skip_fn s (i + n) (by omega) (by omega)) rfl rfl rfl rfl ⟨rfl, trivial⟩ rfl rfl rfl rfl rfl rfl ?_ ?_)
        · rintro k2 r H2 ⟨rfl, rfl, j, _, _, _, _, rfl⟩
          exact ⟨rfl, rfl⟩
        rintro k2 r H2 ⟨rfl, rfl, j, q1, q2, q3, q4, rfl⟩
        change DS _ _ _ _ _ _ _ _
        repeat' (first | apply ds_nil | apply thenD_n)
        refine ⟨(toks ++ [⟨kd, i, s.extract i (i + n)⟩], j), ⟨?_, ?_, ?_, q4⟩, ?_, ?_⟩
        · exact q2
        · show (toks ++ [_]).length ≤ j
          rw [List.length_append]
          show _ + 1 ≤ _
          omega
        · show scanAt s false 0 = _
          rw [h3, map_map, q3]
          simp only [List.append_assoc, List.singleton_append]
        · dsimp only
          rw [List.map_append]
          exact ent_ren (fun i => match i with | 0 => 0 | _ => 3) ⟨rfl, rfl, rfl, trivial⟩ ⟨rfl, rfl, trivial⟩ rfl rfl rfl rfl rfl rfl
        · show s.size - j < s.size - i; omega
    · repeat' (first | (apply ds_evC; exact rfl; (with_reducible exact trivial); (with_reducible exact rfl); exact rfl; exact rfl; exact rfl) | apply ds_nil | apply dw_seq2 | (apply ds_region; exact rfl) | apply dw_exit | apply thenD_n | apply thenD_e | (apply inB_e; exact rfl))
      refine dw_seal 2 rfl rfl ?_
      repeat' (apply dw_ret)
      refine ret_3 rfl ?_
      rw [scanS_ok s (by omega) toks (by rw [h3, scanAt_end s false i (by omega)]; exact congrArg Except.ok (List.append_nil _))]
      exact ⟨rfl, rfl, rfl⟩
end Go.Proofs.YtapciiffpnociabGreat

/- Whether a text is just one token of a kind, by the program's own scanner. Condition: none. -/
namespace Go.Proofs.YtapciiffpnociabGreat
open Go Go.RowKit
attribute [local irreducible] DW DS DL DQ Ev FnOk FnP thenD inBlockD DT
def oneS (kind : Int) (s : ByteArray) : Bool := match scanS s with
  | ([t], _, e) => decide (e = 0) && (decide (t.kind = kind) && decide (t.text = s))
  | _ => false
set_option maxHeartbeats 8000000 in
theorem one_fn (kind : Int) (s : ByteArray) : Fn 257 [.d (.int .i64 kind), .d (.str s)] (fun r => r = .d (.bool (oneS kind s))) := by
  refine fnp_enter' _ Tryz.func257 rfl rfl (by kernel_rfl) ?_
  intro O w0 E0 β0
  have hsc := scan_fn s
  unfold oneS
  generalize scanS s = q at hsc ⊢
  obtain ⟨l, p, e⟩ := q
  unfold encScan encToks at hsc
  dsimp only at hsc
  rcases l with _ | ⟨t, _ | ⟨t', l⟩⟩
  · repeat' (first | (apply ds_evC; exact rfl; (with_reducible exact trivial); (with_reducible exact rfl); exact rfl; exact rfl; exact rfl) | (apply ds_skip; exact rfl; exact rfl) | apply ds_nil | apply dw_seq2 | (apply ds_region; exact rfl) | apply dw_ret | apply thenD_n | (apply ds_call; exact rfl; exact rfl; apply hsc; exact rfl; (exact rfl); exact rfl; rintro _ rfl) | ((fail_if_success (apply ds_known; exact rfl)); apply ds_guardP; exact rfl; exact rfl; exact rfl; all_goals intro hg))
    all_goals exact ret_b rfl (by simp)
  · repeat' (first | (apply ds_evC; exact rfl; (first | (with_reducible exact trivial) | (simp <;> omega)); (with_reducible exact rfl); exact rfl; exact rfl; exact rfl) | (apply ds_skip; exact rfl; exact rfl) | apply ds_nil | apply dw_seq2 | (apply ds_region; exact rfl) | apply dw_ret | apply thenD_n | (apply ds_call; exact rfl; exact rfl; apply hsc; exact rfl; (exact rfl); exact rfl; rintro _ rfl) | ((fail_if_success (apply ds_known; exact rfl)); apply ds_guardP; exact rfl; exact rfl; exact rfl; all_goals intro hg))
    all_goals exact ret_b rfl (by simp_all)
  · repeat' (first | (apply ds_evC; exact rfl; (with_reducible exact trivial); (with_reducible exact rfl); exact rfl; exact rfl; exact rfl) | (apply ds_skip; exact rfl; exact rfl) | apply ds_nil | apply dw_seq2 | (apply ds_region; exact rfl) | apply dw_ret | apply thenD_n | (apply ds_call; exact rfl; exact rfl; apply hsc; exact rfl; (exact rfl); exact rfl; rintro _ rfl) | ((fail_if_success (apply ds_known; exact rfl)); apply ds_guardP; exact rfl; exact rfl; exact rfl; all_goals intro hg))
    all_goals first
      | exact ret_b rfl (by simp_all)
      | (rename_i h; exfalso; revert h; simp; done)
      | (exfalso; simp at *; done)
      | (exfalso; simp at *; omega)
end Go.Proofs.YtapciiffpnociabGreat

/- Names; what is wrong with a program's predicates. Condition: none. -/
namespace Go.Proofs.YtapciiffpnociabGreat
open Go Go.RowKit
attribute [local irreducible] DW DS DL DQ Ev FnOk FnP thenD inBlockD DT
def eqS (x y : ByteArray) : Bool := decide (y = x)
def eqB (x y : Bool) : Bool := y == x
abbrev elS (s : ByteArray) : SV := .d (.str s)
abbrev elB (b : Bool) : SV := .d (.bool b)
set_option maxHeartbeats 8000000 in
theorem indexS_fn (y : ByteArray) (l : List (ByteArray)) : Fn 236 [.d (.slice 1 (l.map encT)), elS y] (fun r => r = .d (.int .i64 (idxF (fun x => eqS x y) l))) := by
  refine fnp_enter' _ Tryz.func236 rfl rfl (by kernel_rfl) ?_
  intro O w0 E0 β0
  refine dw_len_map (t := 0) rfl fun hb => ?_
  repeat' (first | (apply ds_evC; exact rfl; (with_reducible exact trivial); (with_reducible exact rfl); exact rfl; exact rfl; exact rfl) | apply ds_nil | apply dw_seq2 | (apply ds_region; exact rfl) | apply dw_block | apply thenD_n)
  refine ds_loop (ι := Nat) (fun i => ⟨0, [(0, .d (.slice 1 (l.map encT))), (1, .d (.str y)),(7, .d (.int .i64 l.length)), (8, .d (.int .i64 i))], []⟩)
    (fun i => i ≤ l.length ∧ ∀ j (hj : j < l.length), j < i → eqS l[j] y = false) (fun i => l.length - i) 0 ⟨Nat.zero_le _, fun j _ h => absurd h (Nat.not_lt_zero j)⟩
    (ent_ren id ⟨rfl, rfl,by simp; rfl, rfl, trivial⟩ trivial rfl rfl rfl rfl rfl rfl) ?_
  rintro i ⟨h1, h2⟩
  repeat' (first | (apply ds_evC; exact rfl; (with_reducible exact trivial); (with_reducible exact rfl); exact rfl; exact rfl; exact rfl) | apply ds_nil | apply dw_seq2 | (apply ds_region; exact rfl) | apply thenD_n)
  refine dw_condP rfl (fun h => ?_) (fun h => ?_)
  · have hi : i < l.length := by omega
    repeat' (first | (apply ds_evC; exact rfl; (first | (with_reducible exact trivial) | (simp only [List.length_map]; omega)); (first | ((with_reducible apply hv_row); (exact rfl); (rw [List.length_map]; omega)) | (with_reducible exact rfl)); exact rfl; exact rfl; exact rfl) | apply ds_nil | apply dw_seq2 | (apply ds_region; exact rfl) | apply dw_block | apply dw_skip | apply thenD_n)
    refine dw_cond rfl (fun hb => ?_) (fun hb => ?_)
    · repeat' (first | (apply ds_evC; exact rfl; (with_reducible exact trivial); (with_reducible exact rfl); exact rfl; exact rfl; exact rfl) | apply ds_nil | apply dw_seq2 | (apply ds_region; exact rfl) | apply dw_ret | apply thenD_n | apply thenD_r | apply inB_r)
      exact ret_i rfl (idxF_hit (p := fun x => eqS x y) h2 hi (id hb)).symm
    · repeat' (first | (apply ds_evC; exact rfl; (first | (with_reducible exact trivial) | omega); (with_reducible exact rfl); exact rfl; exact rfl; exact rfl) | apply ds_nil | (apply ds_region; exact rfl) | apply dw_skip | apply thenD_n | apply inB_n)
      exact ⟨i + 1, ⟨hi, none_step (p := fun x => eqS x y) h2 hi (id hb)⟩, ent_ren id ⟨rfl, rfl,rfl, rfl, trivial⟩ trivial rfl rfl rfl rfl rfl rfl, by omega⟩
  · repeat' (first | (apply ds_evC; exact rfl; (with_reducible exact trivial); (with_reducible exact rfl); exact rfl; exact rfl; exact rfl) | apply ds_nil | apply dw_seq2 | (apply ds_region; exact rfl) | apply dw_exit | apply dw_ret | apply thenD_n | apply thenD_e | (apply inB_e; exact rfl))
    exact ret_i rfl (idxF_none fun j hj => h2 j hj (by omega)).symm
set_option maxHeartbeats 8000000 in
theorem indexB_fn (y : Bool) (l : List (Bool)) : Fn 238 [.d (.slice 1 (l.map encBl)), elB y] (fun r => r = .d (.int .i64 (idxF (fun x => eqB x y) l))) := by
  refine fnp_enter' _ Tryz.func238 rfl rfl (by kernel_rfl) ?_
  intro O w0 E0 β0
  refine dw_len_map (t := 0) rfl fun hb => ?_
  repeat' (first | (apply ds_evC; exact rfl; (with_reducible exact trivial); (with_reducible exact rfl); exact rfl; exact rfl; exact rfl) | apply ds_nil | apply dw_seq2 | (apply ds_region; exact rfl) | apply dw_block | apply thenD_n)
  refine ds_loop (ι := Nat) (fun i => ⟨0, [(0, .d (.slice 1 (l.map encBl))), (1, .d (.bool y)),(7, .d (.int .i64 l.length)), (8, .d (.int .i64 i))], []⟩)
    (fun i => i ≤ l.length ∧ ∀ j (hj : j < l.length), j < i → eqB l[j] y = false) (fun i => l.length - i) 0 ⟨Nat.zero_le _, fun j _ h => absurd h (Nat.not_lt_zero j)⟩
    (ent_ren id ⟨rfl, rfl,by simp; rfl, rfl, trivial⟩ trivial rfl rfl rfl rfl rfl rfl) ?_
  rintro i ⟨h1, h2⟩
  repeat' (first | (apply ds_evC; exact rfl; (with_reducible exact trivial); (with_reducible exact rfl); exact rfl; exact rfl; exact rfl) | apply ds_nil | apply dw_seq2 | (apply ds_region; exact rfl) | apply thenD_n)
  refine dw_condP rfl (fun h => ?_) (fun h => ?_)
  · have hi : i < l.length := by omega
    repeat' (first | (apply ds_evC; exact rfl; (first | (with_reducible exact trivial) | (simp only [List.length_map]; omega)); (first | ((with_reducible apply hv_row); (exact rfl); (rw [List.length_map]; omega)) | (with_reducible exact rfl)); exact rfl; exact rfl; exact rfl) | apply ds_nil | apply dw_seq2 | (apply ds_region; exact rfl) | apply dw_block | apply dw_skip | apply thenD_n)
    refine dw_cond rfl (fun hb => ?_) (fun hb => ?_)
    · repeat' (first | (apply ds_evC; exact rfl; (with_reducible exact trivial); (with_reducible exact rfl); exact rfl; exact rfl; exact rfl) | apply ds_nil | apply dw_seq2 | (apply ds_region; exact rfl) | apply dw_ret | apply thenD_n | apply thenD_r | apply inB_r)
      exact ret_i rfl (idxF_hit (p := fun x => eqB x y) h2 hi (id hb)).symm
    · repeat' (first | (apply ds_evC; exact rfl; (first | (with_reducible exact trivial) | omega); (with_reducible exact rfl); exact rfl; exact rfl; exact rfl) | apply ds_nil | (apply ds_region; exact rfl) | apply dw_skip | apply thenD_n | apply inB_n)
      exact ⟨i + 1, ⟨hi, none_step (p := fun x => eqB x y) h2 hi (id hb)⟩, ent_ren id ⟨rfl, rfl,rfl, rfl, trivial⟩ trivial rfl rfl rfl rfl rfl rfl, by omega⟩
  · repeat' (first | (apply ds_evC; exact rfl; (with_reducible exact trivial); (with_reducible exact rfl); exact rfl; exact rfl; exact rfl) | apply ds_nil | apply dw_seq2 | (apply ds_region; exact rfl) | apply dw_exit | apply dw_ret | apply thenD_n | apply thenD_e | (apply inB_e; exact rfl))
    exact ret_i rfl (idxF_none fun j hj => h2 j hj (by omega)).symm
set_option maxHeartbeats 8000000 in
theorem containsS_fn (y : ByteArray) (l : List ByteArray) : Fn 205 [.d (.slice 1 (l.map encT)), .d (.str y)] (fun r => r = .d (.bool (l.any fun x => eqS x y))) := by
  refine fnp_enter' _ Tryz.func205 rfl rfl (by kernel_rfl) ?_
  intro O w0 E0 β0
  have hx := indexS_fn y l
  repeat' (first | (apply ds_evC; exact rfl; (with_reducible exact trivial); (with_reducible exact rfl); exact rfl; exact rfl; exact rfl) | apply ds_nil | apply dw_seq2 | (apply ds_region; exact rfl) | apply dw_ret | apply thenD_n | (apply ds_call; exact rfl; exact rfl; apply hx; exact rfl; (exact rfl); exact rfl; rintro _ rfl))
  exact ret_b rfl (idxF_any _ l)
set_option maxHeartbeats 8000000 in
theorem containsB_fn (y : Bool) (l : List Bool) : Fn 208 [.d (.slice 1 (l.map encBl)), .d (.bool y)] (fun r => r = .d (.bool (l.any fun x => eqB x y))) := by
  refine fnp_enter' _ Tryz.func208 rfl rfl (by kernel_rfl) ?_
  intro O w0 E0 β0
  have hx := indexB_fn y l
  repeat' (first | (apply ds_evC; exact rfl; (with_reducible exact trivial); (with_reducible exact rfl); exact rfl; exact rfl; exact rfl) | apply ds_nil | apply dw_seq2 | (apply ds_region; exact rfl) | apply dw_ret | apply thenD_n | (apply ds_call; exact rfl; exact rfl; apply hx; exact rfl; (exact rfl); exact rfl; rintro _ rfl))
  exact ret_b rfl (idxF_any _ l)
def wordsL : List ByteArray := [⟨#[110, 111, 116]⟩, ⟨#[99, 111, 117, 110, 116]⟩, ⟨#[115, 117, 109]⟩, ⟨#[108, 101, 97, 115, 116]⟩, ⟨#[109, 111, 115, 116]⟩]
def wordB (s : ByteArray) : Bool := wordsL.any fun x => eqS x s
def nameS (s : ByteArray) : Bool := oneS 1 s && !wordB s
set_option maxHeartbeats 8000000 in
theorem words_fn : Fn 235 [] (fun r => r = .d (.slice 1 (wordsL.map encT))) := by
  refine fnp_enter' _ Tryz.func235 rfl rfl (by kernel_rfl) ?_
  intro O w0 E0 β0
  repeat' (first | (apply ds_evC; exact rfl; (with_reducible exact trivial); (with_reducible exact rfl); exact rfl; exact rfl; exact rfl) | apply ds_nil | apply dw_seq2 | (apply ds_region; exact rfl) | apply dw_ret | apply thenD_n | (apply ds_bsC; exact rfl; exact rfl; exact rfl; exact rfl))
  exact ⟨.inl rfl, _, rfl, rfl, rfl⟩
set_option maxHeartbeats 8000000 in
theorem tokenName_fn (s : ByteArray) : Fn 234 [.d (.str s)] (fun r => r = .d (.bool (oneS 1 s))) := by
  refine fnp_enter' _ Tryz.func234 rfl rfl (by kernel_rfl) ?_
  intro O w0 E0 β0
  repeat' (first | (apply ds_evC; exact rfl; (with_reducible exact trivial); (with_reducible exact rfl); exact rfl; exact rfl; exact rfl) | apply ds_nil | apply dw_seq2 | (apply ds_region; exact rfl) | apply dw_ret | apply thenD_n | (apply ds_call; exact rfl; exact rfl; apply one_fn; exact rfl; (exact rfl); exact rfl; rintro _ rfl))
  exact ret_b rfl rfl
set_option maxHeartbeats 8000000 in
theorem treeName_fn (s : ByteArray) : Fn 204 [.d (.str s)] (fun r => r = .d (.bool (nameS s))) := by
  refine fnp_enter' _ Tryz.func204 rfl rfl (by kernel_rfl) ?_
  intro O w0 E0 β0
  have h1 := containsS_fn s wordsL
  have h2 := tokenName_fn s
  unfold nameS wordB
  repeat' (first | (apply ds_evC; exact rfl; (with_reducible exact trivial); (with_reducible exact rfl); exact rfl; exact rfl; exact rfl) | (apply ds_skip; exact rfl; exact rfl) | apply ds_nil | apply dw_seq2 | (apply ds_region; exact rfl) | apply dw_ret | apply thenD_n | (apply ds_call; exact rfl; exact rfl; apply h1; exact rfl; (exact rfl); exact rfl; rintro _ rfl) | (apply ds_call; exact rfl; exact rfl; apply h2; exact rfl; (exact rfl); exact rfl; rintro _ rfl) | (apply ds_call; exact rfl; exact rfl; apply words_fn; exact rfl; (exact rfl); exact rfl; rintro _ rfl) | ((fail_if_success (apply ds_known; exact rfl)); apply ds_guardB; exact rfl; exact rfl; exact rfl; all_goals intro hg))
  all_goals exact ret_b rfl (by simp_all)
set_option maxHeartbeats 8000000 in
theorem preds_fn (p : Prg) (hl : p.names.length = p.arity.length) : Fn 170 [elPrg p] (fun r => r = .d (.int .i64 (firstI (nameE nameS p) 0 p.names.length))) := by
  refine fnp_enter' _ Tryz.func170 rfl rfl (by kernel_rfl) ?_
  intro O w0 E0 β0
  have la : (p.arity.map encI).length = p.arity.length := List.length_map _
  have lb : (p.names.map encT).length = p.names.length := List.length_map _
  refine dw_lenA 0 1 rfl rfl (fun hk => ?_)
  repeat' (first | (apply ds_evC; exact rfl; (with_reducible exact trivial); (with_reducible exact rfl); exact rfl; exact rfl; exact rfl) | apply ds_nil | apply dw_seq2 | (apply ds_region; exact rfl) | apply dw_block | apply thenD_n | (apply ds_newC; exact rfl; (with_reducible exact trivial); exact rfl; exact rfl; exact rfl))
  refine ds_loop (ι := Nat) (fun i => ⟨1, [(1, .loc 0 0), (2, .d (.int .i64 0)), (6, .d (.slice 1 (p.names.map encT))), (7, .d (.int .i64 (p.names.map encT).length)), (8, .d (.int .i64 i))], [(0, .blk 26 [.d (.slice 1 (p.arity.map encI)), .d (.slice 1 (p.names.map encT)), .d (.slice 5 (p.rules.map encRul))])]⟩)
    (fun i => i ≤ p.names.length ∧ firstI (nameE nameS p) 0 p.names.length = firstI (nameE nameS p) i (p.names.length - i)) (fun i => p.names.length - i) 0 ⟨Nat.zero_le _, rfl⟩ (ent_ren id ⟨rfl, rfl, rfl, rfl, rfl, trivial⟩ ⟨rfl, trivial⟩ rfl rfl rfl rfl rfl rfl) ?_
  rintro i ⟨g1, g2⟩
  by_cases hi : i < p.names.length
  · have ha : p.arity.getD i 0 = p.arity[i]'(by omega) := by rw [List.getD, List.getElem?_eq_getElem (by omega)]; rfl
    have hn : p.names.getD i ⟨#[]⟩ = p.names[i] := by rw [List.getD, List.getElem?_eq_getElem hi]; rfl
    rw [firstI_step hi, show nameE nameS p i = if inR (p.arity.getD i 0) 0 3 = false then 3 else if nameS (p.names.getD i ⟨#[]⟩) = false then 1 else if (p.names.take i).any (fun s => decide (s = p.names.getD i ⟨#[]⟩)) then 6 else 0 from rfl, ha, hn] at g2
    have hc := containsS_fn p.names[i] (p.names.take i)
    have hq : (p.names.take i).any (fun s => decide (s = p.names[i])) = (p.names.take i).any (fun x => eqS x p.names[i]) := by
      congr 1
      funext x
      unfold eqS
      exact decide_eq_decide.2 eq_comm
    rw [hq] at g2
    generalize (p.names.take i).any (fun x => eqS x p.names[i]) = bc at g2 hc
    repeat' (first | (apply ds_slD; exact rfl; exact rfl; exact rfl; exact rfl; exact rfl; exact rfl; (refine ⟨?_, ?_, ?_⟩ <;> (omega)); ((with_reducible apply hv_take); (exact rfl)); exact rfl; exact rfl) | (apply ds_evC; exact rfl; (first | (with_reducible exact trivial) | omega); (first | ((with_reducible apply hv_row); (exact rfl); (omega)) | (with_reducible exact rfl)); exact rfl; exact rfl; exact rfl) | apply ds_nil | apply dw_seq2 | (apply ds_region; exact rfl) | apply dw_block | apply dw_skip | apply dw_exit | apply dw_ret | apply thenD_n | apply thenD_e | apply thenD_r | apply inB_n | apply inB_r | (apply inB_e; exact rfl) | (apply ds_call; exact rfl; exact rfl; apply swithin_fn; exact rfl; (exact rfl); exact rfl; rintro _ rfl) | (apply ds_call; exact rfl; exact rfl; apply treeName_fn; exact rfl; (exact rfl); exact rfl; rintro _ rfl) | (apply ds_call; exact rfl; exact rfl; apply hc; exact rfl; (exact rfl); exact rfl; rintro _ rfl) | (apply dw_condP; exact rfl; all_goals intro hg) | (apply dw_cond; exact rfl; all_goals intro hg))
    all_goals first
      | exact absurd hg (by omega)
      | exact ret_i rfl (by rw [g2]; simp_all)
      | exact ⟨i + 1, ⟨by omega, by rw [g2]; simp_all⟩, ent_ren id ⟨rfl, rfl, rfl, rfl, rfl, trivial⟩ ⟨rfl, trivial⟩ rfl rfl rfl rfl rfl rfl, by show p.names.length - (i + 1) < p.names.length - i; omega⟩
  · rw [firstI_end (by omega)] at g2
    repeat' (first | (apply ds_slD; exact rfl; exact rfl; exact rfl; exact rfl; exact rfl; exact rfl; (refine ⟨?_, ?_, ?_⟩ <;> (omega)); ((with_reducible apply hv_take); (exact rfl)); exact rfl; exact rfl) | (apply ds_evC; exact rfl; (first | (with_reducible exact trivial) | omega); (first | ((with_reducible apply hv_row); (exact rfl); (omega)) | (with_reducible exact rfl)); exact rfl; exact rfl; exact rfl) | apply ds_nil | apply dw_seq2 | (apply ds_region; exact rfl) | apply dw_block | apply dw_skip | apply dw_exit | apply dw_ret | apply thenD_n | apply thenD_e | apply thenD_r | apply inB_r | (apply inB_e; exact rfl) | (apply ds_call; exact rfl; exact rfl; apply swithin_fn; exact rfl; (exact rfl); exact rfl; rintro _ rfl) | (apply ds_call; exact rfl; exact rfl; apply treeName_fn; exact rfl; (exact rfl); exact rfl; rintro _ rfl) | (apply dw_condP; exact rfl; all_goals intro hg) | (apply dw_cond; exact rfl; all_goals intro hg))
    all_goals first
      | exact absurd hg (by omega)
      | exact ret_i rfl g2.symm
end Go.Proofs.YtapciiffpnociabGreat
