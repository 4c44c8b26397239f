/- The reference's small calls on bytes, and TokenAt, answer what the plain words say. Condition: none. -/
import Derived.Test.YtapciiffpnociaaTokE
namespace Go.Proofs.Ytapciiffpnociaa
open Go Go.RowKit
attribute [local irreducible] DW DS DL DQ Ev FnOk FnP thenD inBlockD DT

set_option maxHeartbeats 8000000 in
theorem between_fn (n a b : Int) : Fn 84 [.d (.int .i64 n), .d (.int .i64 a), .d (.int .i64 b)] (fun r => r = .d (.bool (decide (a ≤ n) && decide (n ≤ b)))) := by
  refine fnp_enter' _ Try.func84 rfl rfl (by kernel_rfl) ?_
  intro O w0 E0 β0
  repeat' (first | (apply ds_evC; exact rfl; (with_reducible exact trivial); (with_reducible exact rfl); exact rfl; exact rfl; exact rfl) | (apply ds_skip; exact rfl; exact rfl) | apply ds_nil | apply dw_seq2 | apply ds_region | apply dw_ret | apply thenD_n | ((fail_if_success (apply ds_known; exact rfl)); apply ds_guardP; exact rfl; exact rfl; exact rfl; all_goals intro hg))
  all_goals exact ret_b rfl (by first | (simp_all; done) | (simp_all; omega))

set_option maxHeartbeats 8000000 in
theorem isSmall_fn (c : UInt8) : Fn 148 [.d (.int .u8 (c.toNat : Int))] (fun r => r = .d (.bool (smallB c))) := by
  refine fnp_enter' _ Try.func148 rfl rfl (by kernel_rfl) ?_
  intro O w0 E0 β0
  repeat' (first | (apply ds_evC; exact rfl; (first | (with_reducible exact trivial) | (with_reducible exact u8_range _)); (with_reducible exact rfl); exact rfl; exact rfl; exact rfl) | apply ds_nil | apply dw_seq2 | apply ds_region | apply dw_ret | apply thenD_n | (apply ds_call; exact rfl; exact rfl; apply between_fn; exact rfl; (exact rfl); exact rfl; rintro _ rfl))
  all_goals exact ret_b rfl (by unfold smallB; rfl)

set_option maxHeartbeats 8000000 in
theorem isLetter_fn (c : UInt8) : Fn 146 [.d (.int .u8 (c.toNat : Int))] (fun r => r = .d (.bool (letterB c))) := by
  refine fnp_enter' _ Try.func146 rfl rfl (by kernel_rfl) ?_
  intro O w0 E0 β0
  repeat' (first | (apply ds_evC; exact rfl; (first | (with_reducible exact trivial) | (with_reducible exact u8_range _)); (with_reducible exact rfl); exact rfl; exact rfl; exact rfl) | (apply ds_skip; exact rfl; exact rfl) | apply ds_nil | apply dw_seq2 | apply ds_region | apply dw_ret | apply thenD_n | (apply ds_call; exact rfl; exact rfl; apply between_fn; exact rfl; (exact rfl); exact rfl; rintro _ rfl) | (apply ds_call; exact rfl; exact rfl; apply isSmall_fn; exact rfl; (exact rfl); exact rfl; rintro _ rfl) | ((fail_if_success (apply ds_known; exact rfl)); apply ds_guardB; exact rfl; exact rfl; exact rfl; all_goals intro hg))
  all_goals exact ret_b rfl (by unfold letterB greatB; rw [hg]; rfl)

set_option maxHeartbeats 8000000 in
theorem isDigit_fn (c : UInt8) : Fn 147 [.d (.int .u8 (c.toNat : Int))] (fun r => r = .d (.bool (digitB c))) := by
  refine fnp_enter' _ Try.func147 rfl rfl (by kernel_rfl) ?_
  intro O w0 E0 β0
  repeat' (first | (apply ds_evC; exact rfl; (first | (with_reducible exact trivial) | (with_reducible exact u8_range _)); (with_reducible exact rfl); exact rfl; exact rfl; exact rfl) | apply ds_nil | apply dw_seq2 | apply ds_region | apply dw_ret | apply thenD_n | (apply ds_call; exact rfl; exact rfl; apply between_fn; exact rfl; (exact rfl); exact rfl; rintro _ rfl))
  all_goals exact ret_b rfl (by unfold digitB; rfl)

theorem ext2 (s : ByteArray) (i : Nat) (h : i + 1 < s.size) : s.extract i (i + 2) = ⟨#[s[i], s[i + 1]]⟩ := by
  apply ByteArray.ext
  simp only [ByteArray.data_extract]
  apply Array.toList_inj.1
  rw [Array.toList_extract]
  have hl : s.data.toList.length = s.size := by simp
  rw [List.extract_eq_take_drop, show i + 2 - i = 2 by omega, List.drop_eq_getElem_cons (by omega), List.drop_eq_getElem_cons (by omega), byteAt _ _ (by omega), byteAt _ _ (by omega)]
  rfl

theorem pair_ext (s : ByteArray) (i : Nat) (h : i + 1 < s.size) : pairB (s[i] :: s.data.toList.drop (i + 1)) = (decide (s.extract i (i + 2) = ⟨#[58, 45]⟩) || decide (s.extract i (i + 2) = ⟨#[60, 61]⟩) || decide (s.extract i (i + 2) = ⟨#[33, 61]⟩)) := by
  have hl : s.data.toList.length = s.size := by simp
  have key : ∀ a b c d : UInt8, decide ((⟨#[a, b]⟩ : ByteArray) = ⟨#[c, d]⟩) = (a == c && b == d) := fun a b c d => by
    rw [Bool.eq_iff_iff]; simp
  rw [ext2 s i h, key, key, key, List.drop_eq_getElem_cons (by omega), byteAt _ _ (by omega), pairB]

theorem signs_step (c : UInt8) (i : Nat) (h : i < (⟨#[40, 41, 44, 46, 60, 61, 43, 45, 42]⟩ : ByteArray).size) : (signs.drop i).contains c = (decide ((((⟨#[40, 41, 44, 46, 60, 61, 43, 45, 42]⟩ : ByteArray)[i]'h).toNat : Int) = (c.toNat : Int)) || (signs.drop (i + 1)).contains c) := by
  have h' : i < signs.length := h
  have e : signs[i] = (⟨#[40, 41, 44, 46, 60, 61, 43, 45, 42]⟩ : ByteArray)[i]'h := byteAt _ i h
  rw [List.drop_eq_getElem_cons h', List.contains_cons, e]
  congr 1
  rw [Bool.eq_iff_iff]
  simp only [beq_iff_eq, decide_eq_true_eq]
  exact ⟨fun h => by rw [h], fun h => (UInt8.toNat_inj.1 (by omega)).symm⟩

set_option maxHeartbeats 8000000 in
theorem tokenAt_fn (s : ByteArray) (at_ : Nat) (hat : at_ < s.size) (hs : s.size ≤ 5000) :
    Fn 67 [.d (.str s), .d (.int .i64 at_)] (fun r => r = .tup [.d (.int .i64 (tokAt (s.data.toList.drop at_)).1), .d (.int .i64 ((tokAt (s.data.toList.drop at_)).2 : Nat))]) := by
  refine fnp_enter' _ Try.func67 rfl rfl (by kernel_rfl) ?_
  intro O w0 E0 β0
  repeat' (first | (apply ds_evC; exact rfl; (first | (with_reducible exact trivial) | omega); (first | ((with_reducible apply hv_sat); (exact rfl); omega) | (with_reducible exact rfl)); exact rfl; exact rfl; exact rfl) | apply ds_nil | apply dw_seq2 | apply ds_region | apply dw_block | apply thenD_n | (apply ds_call; exact rfl; exact rfl; apply isLetter_fn; exact rfl; (exact rfl); exact rfl; rintro _ rfl))
  have hl0 : s.data.toList.length = s.size := by simp
  have htok : tokAt (s.data.toList.drop at_) = tokAt (s[at_] :: s.data.toList.drop (at_ + 1)) := by
    rw [List.drop_eq_getElem_cons (by omega), byteAt]
  refine dw_cond rfl (fun hl => ?_) (fun hl => ?_)
  · have hres : tokAt (s.data.toList.drop at_) = (if smallB s[at_] then 1 else 2, 1 + takeW alnumB (s.data.toList.drop (at_ + 1))) := by
      rw [htok, tokAt_cons, if_pos hl]
    repeat' (first | apply dw_seq2 | apply dw_block)
    refine ds_loop (ι := Nat) (fun n => ⟨0, [(0, .d (.str s)), (1, .d (.int .i64 at_)), (6, .d (.int .u8 s[at_].toNat)), (7, .d (.int .i64 n))], []⟩)
      (fun n => 1 ≤ n ∧ at_ + n ≤ s.size ∧ n + takeW alnumB (s.data.toList.drop (at_ + n)) = 1 + takeW alnumB (s.data.toList.drop (at_ + 1))) (fun n => s.size - n) 1 ⟨by omega, by omega, rfl⟩
      (ent_ren id ⟨rfl, rfl, rfl, rfl, trivial⟩ trivial rfl rfl rfl rfl rfl rfl) ?_
    rintro n ⟨h1, h2, h3⟩
    have hstep : (h : (at_ : Int) + n < s.size) → alnumB (s[at_ + n]'(by omega)) = true → n + 1 + takeW alnumB (s.data.toList.drop (at_ + (n + 1))) = 1 + takeW alnumB (s.data.toList.drop (at_ + 1)) := fun h hp => by
      have h4 := takeW_step alnumB s.data.toList (at_ + n) (by omega) (by rw [byteAt _ _ (by omega)]; exact hp)
      rw [← Nat.add_assoc at_ n 1]; omega
    have hstop : (h : (at_ : Int) + n < s.size) → alnumB (s[at_ + n]'(by omega)) = false → 1 + takeW alnumB (s.data.toList.drop (at_ + 1)) = n := fun h hp => by
      have h4 := takeW_stop alnumB s.data.toList (at_ + n) (by omega) (by rw [byteAt _ _ (by omega)]; exact hp)
      omega
    have hend : ¬ (at_ : Int) + n < s.size → 1 + takeW alnumB (s.data.toList.drop (at_ + 1)) = n := fun h => by
      have h4 := takeW_end alnumB s.data.toList (at_ + n) (by omega)
      omega
    clear htok
    repeat' (first | (apply ds_evC; exact rfl; (first | (with_reducible exact trivial) | omega); (first | ((with_reducible apply hv_sat); (exact rfl); omega) | (with_reducible exact rfl)); exact rfl; exact rfl; exact rfl) | (apply ds_skip; exact rfl; exact rfl) | apply ds_nil | apply dw_seq2 | apply ds_region | apply dw_block | apply dw_skip | apply dw_exit | apply dw_ret | (apply dw_condT; exact rfl) | (apply dw_condF; exact rfl) | apply thenD_n | apply thenD_e | apply thenD_r | apply inB_n | apply inB_r | (apply inB_e; exact rfl) | (apply ds_call; exact rfl; exact rfl; apply isLetter_fn; exact rfl; (exact rfl); exact rfl; rintro _ rfl) | (apply ds_call; exact rfl; exact rfl; apply isDigit_fn; exact rfl; (exact rfl); exact rfl; rintro _ rfl) | (apply ds_call; exact rfl; exact rfl; apply isSmall_fn; exact rfl; (exact rfl); exact rfl; rintro _ rfl) | (apply dw_cond; exact rfl; all_goals intro hg) | ((fail_if_success (apply ds_known; exact rfl)); apply ds_guardP; exact rfl; exact rfl; exact rfl; all_goals intro hg) | ((fail_if_success (apply ds_known; exact rfl)); apply ds_guardB; exact rfl; exact rfl; exact rfl; all_goals intro hg))
    all_goals first
      | (refine ⟨n + 1, ⟨?_, ?_, ?_⟩, ent_ren id ⟨rfl, rfl, rfl, rfl, trivial⟩ trivial rfl rfl rfl rfl rfl rfl, ?_⟩
         · omega
         · omega
         · apply hstep <;> first | assumption | (unfold alnumB; simp [*])
         · omega)
      | (refine ret_2 rfl ⟨?_, ?_⟩
         · rw [hres, hg]; rfl
         · rw [hres]
           refine congrArg (fun q : Nat => D.int .i64 (q : Int)) (Eq.symm ?_)
           first
             | (apply hend; assumption)
             | (apply hstop <;> first | assumption | (unfold alnumB; simp [*])))
  · repeat' (first | (apply ds_evC; exact rfl; (with_reducible exact trivial); (with_reducible exact rfl); exact rfl; exact rfl; exact rfl) | apply ds_nil | apply dw_seq2 | apply ds_region | apply thenD_n | (apply ds_call; exact rfl; exact rfl; apply isDigit_fn; exact rfl; (exact rfl); exact rfl; rintro _ rfl))
    refine dw_cond rfl (fun hd => ?_) (fun hd => ?_)
    · have hres : tokAt (s.data.toList.drop at_) = (3, 1 + takeW digitB (s.data.toList.drop (at_ + 1))) := by
        rw [htok, tokAt_cons, if_neg (by rw [hl]; exact Bool.false_ne_true), if_pos hd]
      repeat' (first | apply dw_seq2 | apply dw_block)
      refine ds_loop (ι := Nat) (fun n => ⟨0, [(0, .d (.str s)), (1, .d (.int .i64 at_)), (6, .d (.int .u8 s[at_].toNat)), (7, .d (.int .i64 n))], []⟩)
        (fun n => 1 ≤ n ∧ at_ + n ≤ s.size ∧ n + takeW digitB (s.data.toList.drop (at_ + n)) = 1 + takeW digitB (s.data.toList.drop (at_ + 1))) (fun n => s.size - n) 1 ⟨by omega, by omega, rfl⟩
        (ent_ren id ⟨rfl, rfl, rfl, rfl, trivial⟩ trivial rfl rfl rfl rfl rfl rfl) ?_
      rintro n ⟨h1, h2, h3⟩
      have hstep : (h : (at_ : Int) + n < s.size) → digitB (s[at_ + n]'(by omega)) = true → n + 1 + takeW digitB (s.data.toList.drop (at_ + (n + 1))) = 1 + takeW digitB (s.data.toList.drop (at_ + 1)) := fun h hp => by
        have h4 := takeW_step digitB s.data.toList (at_ + n) (by omega) (by rw [byteAt _ _ (by omega)]; exact hp)
        rw [← Nat.add_assoc at_ n 1]; omega
      have hstop : (h : (at_ : Int) + n < s.size) → digitB (s[at_ + n]'(by omega)) = false → 1 + takeW digitB (s.data.toList.drop (at_ + 1)) = n := fun h hp => by
        have h4 := takeW_stop digitB s.data.toList (at_ + n) (by omega) (by rw [byteAt _ _ (by omega)]; exact hp)
        omega
      have hend : ¬ (at_ : Int) + n < s.size → 1 + takeW digitB (s.data.toList.drop (at_ + 1)) = n := fun h => by
        have h4 := takeW_end digitB s.data.toList (at_ + n) (by omega)
        omega
      clear htok
      repeat' (first | (apply ds_evC; exact rfl; (first | (with_reducible exact trivial) | omega); (first | ((with_reducible apply hv_sat); (exact rfl); omega) | (with_reducible exact rfl)); exact rfl; exact rfl; exact rfl) | (apply ds_skip; exact rfl; exact rfl) | apply ds_nil | apply dw_seq2 | apply ds_region | apply dw_block | apply dw_skip | apply dw_exit | apply dw_ret | (apply dw_condF; exact rfl) | apply thenD_n | apply thenD_e | apply thenD_r | apply inB_n | apply inB_r | (apply inB_e; exact rfl) | (apply ds_call; exact rfl; exact rfl; apply isDigit_fn; exact rfl; (exact rfl); exact rfl; rintro _ rfl) | (apply dw_cond; exact rfl; all_goals intro hg) | ((fail_if_success (apply ds_known; exact rfl)); apply ds_guardP; exact rfl; exact rfl; exact rfl; all_goals intro hg))
      all_goals first
        | (refine ⟨n + 1, ⟨?_, ?_, ?_⟩, ent_ren id ⟨rfl, rfl, rfl, rfl, trivial⟩ trivial rfl rfl rfl rfl rfl rfl, ?_⟩
           · omega
           · omega
           · apply hstep <;> assumption
           · omega)
        | (refine ret_2 rfl ⟨?_, ?_⟩
           · rw [hres]
           · rw [hres]
             refine congrArg (fun q : Nat => D.int .i64 (q : Int)) (Eq.symm ?_)
             first
               | (apply hend; assumption)
               | (apply hstop <;> assumption))
    · have hres : tokAt (s.data.toList.drop at_) = if pairB (s[at_] :: s.data.toList.drop (at_ + 1)) then (4, 2) else if signs.contains s[at_] then (4, 1) else (0, 0) := by
        rw [htok, tokAt_cons, if_neg (by rw [hl]; exact Bool.false_ne_true), if_neg (by rw [hd]; exact Bool.false_ne_true)]
      repeat' (first | (apply ds_evC; exact rfl; (first | (with_reducible exact trivial) | omega); (with_reducible exact rfl); exact rfl; exact rfl; exact rfl) | apply ds_nil | apply dw_seq2 | apply ds_region | apply dw_skip | apply thenD_n | apply inB_n)
      refine dw_condP rfl (fun h2 => ?_) (fun h2 => ?_)
      · have hp := pair_ext s at_ (by omega)
        repeat' (first | (apply ds_evC; exact rfl; (first | (with_reducible exact trivial) | omega); (first | ((with_reducible apply hv_ext); (exact rfl); (exact nat_add_2 _)) | (with_reducible exact rfl)); exact rfl; exact rfl; exact rfl) | (apply ds_skip; exact rfl; exact rfl) | apply ds_nil | apply dw_seq2 | apply ds_region | apply dw_block | apply dw_skip | apply dw_ret | (apply dw_condT; exact rfl) | apply thenD_n | apply thenD_r | (apply dw_condP; exact rfl; all_goals intro hg) | ((fail_if_success (apply ds_known; exact rfl)); apply ds_guardP; exact rfl; exact rfl; exact rfl; all_goals intro hg))
        all_goals first
          | (refine ret_2 rfl ⟨?_, ?_⟩ <;> (rw [hres, hp]; simp [*]; done))
          | skip
        have hpf : pairB (s[at_] :: s.data.toList.drop (at_ + 1)) = false := by rw [hp]; simp [*]
        rw [hpf] at hres
        refine ds_loop (ι := Nat) (fun i => ⟨0, [(6, .d (.int .u8 s[at_].toNat)), (9, .d (.str ⟨#[40, 41, 44, 46, 60, 61, 43, 45, 42]⟩)), (10, .d (.int .i64 i))], []⟩)
          (fun i => i ≤ 9 ∧ signs.contains s[at_] = (signs.drop i).contains s[at_]) (fun i => 9 - i) 0 ⟨by omega, rfl⟩ (ent_ren id ⟨rfl, rfl, rfl, trivial⟩ trivial rfl rfl rfl rfl rfl rfl) ?_
        rintro i ⟨hi, hc⟩
        have hst := fun h => signs_step s[at_] i h
        have h9 : ((⟨#[40, 41, 44, 46, 60, 61, 43, 45, 42]⟩ : ByteArray).size : Int) = 9 := rfl
        repeat' (first | (apply ds_evC; exact rfl; (first | (with_reducible exact trivial) | omega); (first | ((with_reducible apply hv_sat); (exact rfl); omega) | (with_reducible exact rfl)); exact rfl; exact rfl; exact rfl) | apply ds_nil | apply dw_seq2 | apply ds_region | apply dw_block | apply dw_skip | apply dw_exit | apply dw_ret | apply thenD_n | apply thenD_e | apply thenD_r | apply inB_n | apply inB_r | (apply inB_e; exact rfl) | (apply dw_condP; exact rfl; all_goals intro hg))
        all_goals first
          | (refine ret_2 rfl ⟨?_, ?_⟩
             · rw [hres, hc, hst (by rw [← Int.ofNat_lt]; assumption), decide_eq_true ‹_›]; rfl
             · rw [hres, hc, hst (by rw [← Int.ofNat_lt]; assumption), decide_eq_true ‹_›]; rfl)
          | (refine ⟨i + 1, ⟨?_, ?_⟩, ent_ren id ⟨rfl, rfl, rfl, trivial⟩ trivial rfl rfl rfl rfl rfl rfl, ?_⟩
             · omega
             · rw [hc, hst (by rw [← Int.ofNat_lt]; assumption), decide_eq_false ‹_›]; rfl
             · omega)
          | (have hi9 : i = 9 := by omega
             subst hi9
             refine ret_2 rfl ⟨?_, ?_⟩
             · rw [hres, hc]; rfl
             · rw [hres, hc]; rfl)
      · repeat' (first | (apply ds_evC; exact rfl; (with_reducible exact trivial); (with_reducible exact rfl); exact rfl; exact rfl; exact rfl) | apply ds_nil | apply dw_seq2 | apply ds_region | apply dw_block | apply dw_skip | apply thenD_n)
        have hpf : pairB (s[at_] :: s.data.toList.drop (at_ + 1)) = false := by
          rw [List.drop_of_length_le (by omega)]; unfold pairB; rfl
        rw [hpf] at hres
        refine ds_loop (ι := Nat) (fun i => ⟨0, [(6, .d (.int .u8 s[at_].toNat)), (9, .d (.str ⟨#[40, 41, 44, 46, 60, 61, 43, 45, 42]⟩)), (10, .d (.int .i64 i))], []⟩)
          (fun i => i ≤ 9 ∧ signs.contains s[at_] = (signs.drop i).contains s[at_]) (fun i => 9 - i) 0 ⟨by omega, rfl⟩ (ent_ren id ⟨rfl, rfl, rfl, trivial⟩ trivial rfl rfl rfl rfl rfl rfl) ?_
        rintro i ⟨hi, hc⟩
        have hst := fun h => signs_step s[at_] i h
        have h9 : ((⟨#[40, 41, 44, 46, 60, 61, 43, 45, 42]⟩ : ByteArray).size : Int) = 9 := rfl
        repeat' (first | (apply ds_evC; exact rfl; (first | (with_reducible exact trivial) | omega); (first | ((with_reducible apply hv_sat); (exact rfl); omega) | (with_reducible exact rfl)); exact rfl; exact rfl; exact rfl) | apply ds_nil | apply dw_seq2 | apply ds_region | apply dw_block | apply dw_skip | apply dw_exit | apply dw_ret | apply thenD_n | apply thenD_e | apply thenD_r | apply inB_n | apply inB_r | (apply inB_e; exact rfl) | (apply dw_condP; exact rfl; all_goals intro hg))
        all_goals first
          | (refine ret_2 rfl ⟨?_, ?_⟩
             · rw [hres, hc, hst (by rw [← Int.ofNat_lt]; assumption), decide_eq_true ‹_›]; rfl
             · rw [hres, hc, hst (by rw [← Int.ofNat_lt]; assumption), decide_eq_true ‹_›]; rfl)
          | (refine ⟨i + 1, ⟨?_, ?_⟩, ent_ren id ⟨rfl, rfl, rfl, trivial⟩ trivial rfl rfl rfl rfl rfl rfl, ?_⟩
             · omega
             · rw [hc, hst (by rw [← Int.ofNat_lt]; assumption), decide_eq_false ‹_›]; rfl
             · omega)
          | (have hi9 : i = 9 := by omega
             subst hi9
             refine ret_2 rfl ⟨?_, ?_⟩
             · rw [hres, hc]; rfl
             · rw [hres, hc]; rfl)
end Go.Proofs.Ytapciiffpnociaa
