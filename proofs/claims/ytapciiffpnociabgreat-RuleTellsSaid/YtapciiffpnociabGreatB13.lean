/- Several texts in one: ScoF WirA WirB WirC RelP RelA. Condition: none. -/
import Derived.Test.YtapciiffpnociabGreatB12
import Derived.Test.YtapciiffpnociabGreatB10
import Derived.Test.YtapciiffpnociabGreatB09
import Derived.Test.YtapciiffpnociabGreatB08

/- The document's small words on programs; its IsSafe. Condition: none. -/
namespace Go.Proofs.YtapciiffpnociabGreat
open Go Go.RowKit
attribute [local irreducible] DW DS DL DQ Ev FnOk FnP thenD inBlockD DT
theorem sbetween_fn (n a b : Int) : Fn 80 [.d (.int .i64 n), .d (.int .i64 a), .d (.int .i64 b)] (fun r => r = .d (.bool (inR n a b))) := between_fn n a b
set_option maxHeartbeats 8000000 in
theorem sisNumber_fn (n : Int) : Fn 81 [.d (.int .i64 n)] (fun r => r = .d (.bool (numB n))) := by
  refine fnp_enter' _ Tryz.func81 rfl rfl (by kernel_rfl) ?_
  intro O w0 E0 β0
  unfold numB
  repeat' (first | (apply ds_evC; exact rfl; (with_reducible exact trivial); (with_reducible exact rfl); exact rfl; exact rfl; exact rfl) | apply ds_nil | apply dw_seq2 | (apply ds_region; exact rfl) | apply dw_ret | apply thenD_n | (apply ds_call; exact rfl; exact rfl; apply sbetween_fn; exact rfl; (exact rfl); exact rfl; rintro _ rfl))
  exact ret_b rfl rfl
set_option maxHeartbeats 8000000 in
theorem rterms_fn (l : List Trm) (vars : Int) (h0 : 0 ≤ vars) (h8 : vars ≤ 8) : Fn 165 [.d (.slice 2 (l.map encTrm)), .d (.int .i64 vars)] (fun r => r = .d (.int .i64 (termsE vars l))) := by
  refine fnp_enter' _ Tryz.func165 rfl rfl (by kernel_rfl) ?_
  intro O w0 E0 β0
  have la : (l.map encTrm).length = l.length := List.length_map _
  unfold termsE
  refine dw_len (t := 0) rfl (fun hk => ?_)
  repeat' (first | (apply ds_evC; exact rfl; (with_reducible exact trivial); (with_reducible exact rfl); exact rfl; exact rfl; exact rfl) | apply ds_nil | apply dw_seq2 | (apply ds_region; exact rfl) | apply dw_block | apply thenD_n)
  refine ds_loop (ι := Nat) (fun i => ⟨0, [(0, .d (.slice 2 (l.map encTrm))), (1, .d (.int .i64 vars)), (4, .d (.int .i64 0)), (5, .d (.int .i64 i))], []⟩)
    (fun i => i ≤ l.length ∧ firstL (termE vars) l = firstL (termE vars) (l.drop i)) (fun i => l.length - i) 0 ⟨Nat.zero_le _, rfl⟩ (ent_ren id ⟨rfl, rfl, rfl, rfl, trivial⟩ trivial rfl rfl rfl rfl rfl rfl) ?_
  rintro i ⟨g1, g2⟩
  by_cases hi : i < l.length
  · rw [firstL_step hi, show termE vars l[i] = if inR l[i].var (-1) (vars - 1) = false then 5 else if numB l[i].n = false ∨ (0 ≤ l[i].var ∧ l[i].n ≠ 0) then 3 else 0 from rfl] at g2
    repeat' (first | (apply ds_evC; exact rfl; (first | (with_reducible exact trivial) | omega); (first | ((with_reducible apply hv_row); (exact rfl); (omega)) | (with_reducible exact rfl)); exact rfl; exact rfl; exact rfl) | (apply ds_skip; exact rfl; exact rfl) | apply ds_nil | apply dw_seq2 | (apply ds_region; exact rfl) | apply dw_block | apply dw_skip | apply dw_exit | apply dw_ret | (apply dw_condT; exact rfl) | (apply dw_condF; exact rfl) | apply thenD_n | apply thenD_e | apply thenD_r | apply inB_n | apply inB_r | (apply inB_e; exact rfl) | (apply ds_call; exact rfl; exact rfl; apply sbetween_fn; exact rfl; (exact rfl); exact rfl; rintro _ rfl) | (apply ds_call; exact rfl; exact rfl; apply sisNumber_fn; exact rfl; (exact rfl); exact rfl; rintro _ rfl) | (apply dw_condP; exact rfl; all_goals intro hg) | (apply dw_cond; exact rfl; all_goals intro hg) | ((fail_if_success (apply ds_known; exact rfl)); apply ds_guardP; exact rfl; exact rfl; exact rfl; all_goals intro hg) | ((fail_if_success (apply ds_known; exact rfl)); apply ds_guardB; exact rfl; exact rfl; exact rfl; all_goals intro hg))
    all_goals first
      | exact absurd hg (by omega)
      | exact ret_i rfl (by rw [g2]; simp_all <;> omega)
      | exact ⟨i + 1, ⟨by omega, by rw [g2]; simp_all <;> omega⟩, ent_ren id ⟨rfl, rfl, rfl, rfl, trivial⟩ trivial rfl rfl rfl rfl rfl rfl, by show l.length - (i + 1) < l.length - i; omega⟩
  · rw [firstL_end (by omega)] at g2
    repeat' (first | (apply ds_evC; exact rfl; (first | (with_reducible exact trivial) | omega); (first | ((with_reducible apply hv_row); (exact rfl); (omega)) | (with_reducible exact rfl)); exact rfl; exact rfl; exact rfl) | (apply ds_skip; exact rfl; exact rfl) | apply ds_nil | apply dw_seq2 | (apply ds_region; exact rfl) | apply dw_block | apply dw_skip | apply dw_exit | apply dw_ret | (apply dw_condT; exact rfl) | (apply dw_condF; exact rfl) | apply thenD_n | apply thenD_e | apply thenD_r | apply inB_n | apply inB_r | (apply inB_e; exact rfl) | (apply ds_call; exact rfl; exact rfl; apply sbetween_fn; exact rfl; (exact rfl); exact rfl; rintro _ rfl) | (apply ds_call; exact rfl; exact rfl; apply sisNumber_fn; exact rfl; (exact rfl); exact rfl; rintro _ rfl) | (apply dw_condP; exact rfl; all_goals intro hg) | (apply dw_cond; exact rfl; all_goals intro hg) | ((fail_if_success (apply ds_known; exact rfl)); apply ds_guardP; exact rfl; exact rfl; exact rfl; all_goals intro hg) | ((fail_if_success (apply ds_known; exact rfl)); apply ds_guardB; exact rfl; exact rfl; exact rfl; all_goals intro hg))
    all_goals first
      | exact absurd hg (by omega)
      | exact ret_i rfl g2.symm
set_option maxHeartbeats 8000000 in
theorem isWord_fn (s : ByteArray) : Fn 164 [.d (.str s)] (fun r => r = .d (.bool (wordB s))) := by
  refine fnp_enter' _ Tryz.func164 rfl rfl (by kernel_rfl) ?_
  intro O w0 E0 β0
  unfold wordB wordsL
  repeat' (first | (apply ds_evC; exact rfl; (with_reducible exact trivial); (with_reducible exact rfl); exact rfl; exact rfl; exact rfl) | (apply ds_skip; exact rfl; exact rfl) | apply ds_nil | apply dw_seq2 | (apply ds_region; exact rfl) | apply dw_ret | apply thenD_n | ((fail_if_success (apply ds_known; exact rfl)); apply ds_guardP; exact rfl; exact rfl; exact rfl; all_goals intro hg))
  all_goals exact ret_b rfl (by simp_all [eqS])
def nameR (s : ByteArray) : Bool := isTok 1 s && !wordB s
set_option maxHeartbeats 8000000 in
theorem isName_fn (s : ByteArray) : Fn 116 [.d (.str s)] (fun r => r = .d (.bool (nameR s))) := by
  refine fnp_enter' _ Tryz.func116 rfl rfl (by kernel_rfl) ?_
  intro O w0 E0 β0
  unfold nameR
  repeat' (first | (apply ds_evC; exact rfl; (with_reducible exact trivial); (with_reducible exact rfl); exact rfl; exact rfl; exact rfl) | (apply ds_skip; exact rfl; exact rfl) | apply ds_nil | apply dw_seq2 | (apply ds_region; exact rfl) | apply dw_ret | apply thenD_n | (apply ds_call; exact rfl; exact rfl; apply isToken_fn; exact rfl; (exact rfl); exact rfl; rintro _ rfl) | (apply ds_call; exact rfl; exact rfl; apply isWord_fn; exact rfl; (exact rfl); exact rfl; rintro _ rfl) | ((fail_if_success (apply ds_known; exact rfl)); apply ds_guardB; exact rfl; exact rfl; exact rfl; all_goals intro hg))
  all_goals exact ret_b rfl (by simp_all)
def firstOf (bs : List Bool) (l : Ltl) : Nat := if l.kind = 4 then (if firesB bs l then 2 else 3) else 0
theorem bLit_first {bs : List Bool} {l : Ltl} (h3 : l.kind = 4 → l.terms.length = 3) : bLit bs l = if l.kind = 1 ∨ l.kind = 4 then (l.terms.drop (firstOf bs l)).foldl setT bs else bs := by
  unfold bLit firstOf litTs
  by_cases k1 : l.kind = 1
  · have hf : firesB bs l = true := by unfold firesB; rw [decide_eq_true k1]; rfl
    simp [hf, k1]
  · by_cases k4 : l.kind = 4
    · cases hf : firesB bs l with
      | true => simp [k4]
      | false =>
        have hd : l.terms.drop 3 = [] := List.drop_of_length_le (by have := h3 k4; omega)
        simp [k4, hd]
    · have hf : firesB bs l = false := by unfold firesB; rw [decide_eq_false k1, decide_eq_false k4]; rfl
      simp [hf, k1, k4]
abbrev litB (l : Ltl) : HB := .blk 156 [.d (.int .i64 l.kind), .d (.int .i64 l.op), .d (.int .i64 l.pred), .d (.slice 2 (l.terms.map encTrm))]
set_option maxHeartbeats 8000000 in
theorem safe_fn (r : Rul) (hb4 : r.body.length ≤ 4) (h0 : 0 ≤ r.vars) (h8 : r.vars ≤ 8) (hok : ∀ l ∈ r.body, ∀ t ∈ l.terms, okT r.vars.toNat t) (h3 : ∀ l ∈ r.body, l.kind = 4 → l.terms.length = 3) :
    Fn 166 [elRul r] (fun x => x = .d (.bool (safeB r))) := by
  refine fnp_enter' _ Tryz.func166 rfl rfl (by kernel_rfl) ?_
  intro O w0 E0 β0
  have lb : (r.body.map encLtl).length = r.body.length := List.length_map _
  refine dw_lenA 0 3 rfl rfl (fun hk => ?_)
  repeat' (first | (apply ds_evC; exact rfl; (with_reducible exact trivial); (with_reducible exact rfl); exact rfl; exact rfl; exact rfl) | apply ds_nil | apply dw_seq2 | (apply ds_region; exact rfl) | apply thenD_n | (apply ds_newC; exact rfl; (with_reducible exact trivial); exact rfl; exact rfl; exact rfl))
  refine ds_mk ((List.replicate r.vars.toNat false).map encBl) rfl rfl (Int.toNat_of_nonneg h0).symm rfl rfl rfl rfl rfl rfl (by show 1 * _ ≤ _; omega) (by unfold maxLen; omega) (by rw [List.map_replicate]; rfl) rfl rfl ?_
  repeat' (first | (apply ds_evC; exact rfl; (with_reducible exact trivial); (with_reducible exact rfl); exact rfl; exact rfl; exact rfl) | apply ds_nil | apply dw_seq2 | (apply ds_region; exact rfl) | apply dw_block | apply thenD_n)
  refine ds_loop (ι := Nat × List Bool) (fun x => ⟨2, [(1, .loc 0 0), (2, .d (.bool false)), (3, .row 1), (4, .d (.int .i64 x.1))], [(0, ruleB r), (1, .row 4 1 (x.2.map encBl))]⟩)
    (fun x => x.1 ≤ r.body.length + 1 ∧ x.2 = bIter r.body x.1 (List.replicate r.vars.toNat false)) (fun x => r.body.length + 1 - x.1)
    (0, List.replicate r.vars.toNat false) ⟨Nat.zero_le _, rfl⟩ (ent_ren id ⟨rfl, rfl, rfl, rfl, trivial⟩ ⟨rfl, rfl, trivial⟩ rfl rfl rfl rfl rfl rfl) ?_
  rintro ⟨n, b0⟩ ⟨g1, g2⟩
  dsimp only at g1 g2 ⊢
  have hlen : b0.length = r.vars.toNat := by rw [g2, bIter_len, List.length_replicate]
  by_cases hn : n < r.body.length + 1
  · repeat' (first | (apply ds_evC; exact rfl; (with_reducible exact trivial); (with_reducible exact rfl); exact rfl; exact rfl; exact rfl) | apply ds_nil | apply dw_seq2 | (apply ds_region; exact rfl) | apply dw_block | apply dw_skip | apply dw_exit | apply thenD_n | apply thenD_e | (apply inB_e; exact rfl) | (apply dw_condP; exact rfl; all_goals intro hg))
    all_goals try (exfalso; omega)
    refine ds_loop (ι := Nat × List Bool) (fun x => ⟨2, [(1, .loc 0 0), (2, .d (.bool false)), (3, .row 1), (4, .d (.int .i64 n)), (5, .d (.int .i64 x.1))], [(0, ruleB r), (1, .row 4 1 (x.2.map encBl))]⟩)
      (fun x => x.1 ≤ r.body.length ∧ x.2 = (r.body.take x.1).foldl bLit b0) (fun x => r.body.length - x.1)
      (0, b0) ⟨Nat.zero_le _, rfl⟩ (ent_ren id ⟨rfl, rfl, rfl, rfl, rfl, trivial⟩ ⟨rfl, rfl, trivial⟩ rfl rfl rfl rfl rfl rfl) ?_
    rintro ⟨i, bs⟩ ⟨f1, f2⟩
    dsimp only at f1 f2 ⊢
    have hbl : bs.length = r.vars.toNat := by rw [f2, bLits_len, hlen]
    by_cases hi : i < r.body.length
    · have hlok := hok r.body[i] (List.getElem_mem hi)
      have h3' := h3 r.body[i] (List.getElem_mem hi)
      have hf : bLit bs r.body[i] = (r.body.take (i + 1)).foldl bLit b0 := by rw [foldl_take bLit b0 hi, ← f2]
      rw [bLit_first h3'] at hf
      repeat' ((fail_if_success (apply dw_stopR 10)); (first | (apply ds_evC; exact rfl; (first | (with_reducible exact trivial) | omega); (first | ((with_reducible apply hv_row); (exact rfl); (omega)) | (with_reducible exact rfl)); exact rfl; exact rfl; exact rfl) | apply ds_nil | apply dw_seq2 | (apply ds_region; exact rfl) | apply dw_block | apply dw_skip | apply dw_exit | apply thenD_n | apply thenD_e | apply inB_n | (apply inB_e; exact rfl) | (apply ds_newC; exact rfl; (with_reducible exact trivial); exact rfl; exact rfl; exact rfl) | (apply ds_setC; exact rfl; exact rfl; exact rfl; exact rfl) | (apply dw_condP; exact rfl; all_goals intro hg)))
      all_goals try (exfalso; omega)
      generalize r.body[i] = l at hlok h3' hf ⊢
      have ll : (l.terms.map encTrm).length = l.terms.length := List.length_map _
      have lbs : (bs.map encBl).length = bs.length := List.length_map _
      refine dw_cut (ι := Unit) (fun _ => ⟨3, [(1, .loc 0 0), (2, .d (.bool false)), (3, .row 1), (4, .d (.int .i64 n)), (5, .d (.int .i64 i)), (6, .loc 2 0), (7, .d (.int .i64 (firstOf bs l)))], [(0, ruleB r), (1, .row 4 1 (bs.map encBl)), (2, litB l)]⟩) (fun _ => True) ?_ ?_
      · by_cases k4 : l.kind = 4
        · have h3l := h3' k4
          have hf4 := fires4 (bs := bs) (by omega) k4 h3l
          have hlok' : ∀ t ∈ l.terms, okT bs.length t := by rw [hbl]; exact hlok
          repeat' (first | (apply ds_evC; exact rfl; (with_reducible exact trivial); (with_reducible exact rfl); exact rfl; exact rfl; exact rfl) | apply ds_nil | apply dw_seq2 | (apply ds_region; exact rfl) | apply dw_block | apply dw_skip | apply thenD_n | (apply dw_condP; exact rfl; all_goals intro hg))
          all_goals try (exfalso; omega)
          refine ds_loop (ι := Nat × Int) (fun x => ⟨3, [(1, .loc 0 0), (2, .d (.bool false)), (3, .row 1), (4, .d (.int .i64 n)), (5, .d (.int .i64 i)), (6, .loc 2 0), (7, .d (.int .i64 x.2)), (8, .d (.int .i64 x.1))], [(0, ruleB r), (1, .row 4 1 (bs.map encBl)), (2, litB l)]⟩)
            (fun x => x.1 ≤ 2 ∧ x.2 = if (l.terms.take x.1).all (isT bs) then 2 else 3) (fun x => 2 - x.1)
            (0, 2) ⟨Nat.zero_le _, rfl⟩ (ent_ren id ⟨rfl, rfl, rfl, rfl, rfl, rfl, rfl, rfl, trivial⟩ ⟨rfl, rfl, rfl, trivial⟩ rfl rfl rfl rfl rfl rfl) ?_
          rintro ⟨j, f⟩ ⟨e1, e2⟩
          dsimp only at e1 e2 ⊢
          by_cases hj : j < 2
          · have hq := hlok' (l.terms[j]'(by omega)) (List.getElem_mem _)
            have e3 : (l.terms.take (j + 1)).all (isT bs) = ((l.terms.take j).all (isT bs) && isT bs (l.terms[j]'(by omega))) := by
              rw [List.take_succ_eq_append_getElem (by omega), List.all_append]
              simp
            by_cases hneg : (l.terms[j]'(by omega)).var < 0
            · rw [isT_pos hneg, Bool.and_true] at e3
              repeat' (first | (apply ds_evC; exact rfl; (first | (with_reducible exact trivial) | omega); (first | ((with_reducible apply hv_prow); (exact (Int.toNat_of_nonneg (by omega)).symm)) | ((with_reducible apply hv_ldrow); (apply hv_get; (omega)); exact rfl) | ((with_reducible apply hv_row); (exact rfl); (omega)) | (with_reducible exact rfl)); exact rfl; exact rfl; exact rfl) | (apply ds_skip; exact rfl; exact rfl) | apply ds_nil | apply dw_seq2 | (apply ds_region; exact rfl) | apply dw_block | apply dw_skip | apply dw_exit | (apply dw_condF; exact rfl) | apply thenD_n | apply thenD_e | apply inB_n | (apply inB_e; exact rfl) | (apply dw_condP; exact rfl; all_goals intro hg) | (apply dw_cond; exact rfl; all_goals intro hg) | ((fail_if_success (apply ds_known; exact rfl)); apply ds_guardP; exact rfl; exact rfl; exact rfl; all_goals intro hg))
              all_goals try (exfalso; omega)
              all_goals exact ⟨(j + 1, f), ⟨by omega, by dsimp only; rw [e3, e2]⟩, ent_ren id ⟨rfl, rfl, rfl, rfl, rfl, rfl, rfl, rfl, trivial⟩ ⟨rfl, rfl, rfl, trivial⟩ rfl rfl rfl rfl rfl rfl, by show 2 - (j + 1) < 2 - j; omega⟩
            · rw [isT_neg hneg hq] at e3
              unfold okT at hq
              repeat' (first | (apply ds_evC; exact rfl; (first | (with_reducible exact trivial) | omega); (first | ((with_reducible apply hv_prow); (exact (Int.toNat_of_nonneg (by omega)).symm)) | ((with_reducible apply hv_ldrow); (apply hv_get; (omega)); exact rfl) | ((with_reducible apply hv_row); (exact rfl); (omega)) | (with_reducible exact rfl)); exact rfl; exact rfl; exact rfl) | (apply ds_skip; exact rfl; exact rfl) | apply ds_nil | apply dw_seq2 | (apply ds_region; exact rfl) | apply dw_block | apply dw_skip | apply dw_exit | (apply dw_condF; exact rfl) | apply thenD_n | apply thenD_e | apply inB_n | (apply inB_e; exact rfl) | (apply dw_condP; exact rfl; all_goals intro hg) | (apply dw_cond; exact rfl; all_goals intro hg) | ((fail_if_success (apply ds_known; exact rfl)); apply ds_guardP; exact rfl; exact rfl; exact rfl; all_goals intro hg))
              all_goals try (exfalso; omega)
              · have hb : bs[(l.terms[j]'(by omega)).var.toNat]'(by omega) = false := by simpa using hg
                exact ⟨(j + 1, 3), ⟨by omega, by dsimp only; rw [e3, hb, Bool.and_false]; rfl⟩, ent_ren id ⟨rfl, rfl, rfl, rfl, rfl, rfl, rfl, rfl, trivial⟩ ⟨rfl, rfl, rfl, trivial⟩ rfl rfl rfl rfl rfl rfl, by show 2 - (j + 1) < 2 - j; omega⟩
              · have hb : bs[(l.terms[j]'(by omega)).var.toNat]'(by omega) = true := by simpa using hg
                exact ⟨(j + 1, f), ⟨by omega, by dsimp only; rw [e3, hb, Bool.and_true, e2]⟩, ent_ren id ⟨rfl, rfl, rfl, rfl, rfl, rfl, rfl, rfl, trivial⟩ ⟨rfl, rfl, rfl, trivial⟩ rfl rfl rfl rfl rfl rfl, by show 2 - (j + 1) < 2 - j; omega⟩
          · repeat' (first | (apply ds_evC; exact rfl; (first | (with_reducible exact trivial) | omega); (first | ((with_reducible apply hv_prow); (exact (Int.toNat_of_nonneg (by omega)).symm)) | ((with_reducible apply hv_ldrow); (apply hv_get; (omega)); exact rfl) | ((with_reducible apply hv_row); (exact rfl); (omega)) | (with_reducible exact rfl)); exact rfl; exact rfl; exact rfl) | (apply ds_skip; exact rfl; exact rfl) | apply ds_nil | apply dw_seq2 | (apply ds_region; exact rfl) | apply dw_block | apply dw_skip | apply dw_exit | (apply dw_condF; exact rfl) | apply thenD_n | apply thenD_e | apply inB_n | (apply inB_e; exact rfl) | (apply dw_condP; exact rfl; all_goals intro hg) | (apply dw_cond; exact rfl; all_goals intro hg) | ((fail_if_success (apply ds_known; exact rfl)); apply ds_guardP; exact rfl; exact rfl; exact rfl; all_goals intro hg))
            all_goals try (exfalso; omega)
            refine ⟨(), trivial, ?_⟩
            have hff : f = (firstOf bs l : Int) := by
              unfold firstOf
              rw [if_pos k4, e2, show j = 2 by omega]
              have : firesB bs l = (l.terms.take 2).all (isT bs) := by unfold firesB; rw [decide_eq_false (by omega), decide_eq_true k4]; simp
              rw [this]
              split <;> rfl
            rw [hff]
            exact ent_ren id ⟨rfl, rfl, rfl, rfl, rfl, rfl, rfl, trivial⟩ ⟨rfl, rfl, rfl, trivial⟩ rfl rfl rfl rfl rfl rfl
        · repeat' (first | (apply ds_evC; exact rfl; (with_reducible exact trivial); (with_reducible exact rfl); exact rfl; exact rfl; exact rfl) | apply ds_nil | apply dw_seq2 | (apply ds_region; exact rfl) | apply dw_block | apply dw_skip | apply thenD_n | (apply dw_condP; exact rfl; all_goals intro hg))
          all_goals try (exfalso; omega)
          refine ⟨(), trivial, ?_⟩
          unfold firstOf
          rw [if_neg k4]
          exact ent_ren id ⟨rfl, rfl, rfl, rfl, rfl, rfl, rfl, trivial⟩ ⟨rfl, rfl, rfl, trivial⟩ rfl rfl rfl rfl rfl rfl
      · intro _ _
        have hfl : firstOf bs l ≤ 3 := by unfold firstOf; split <;> (try split) <;> omega
        refine dw_lenC 2 3 rfl rfl (fun hkl => ?_)
        repeat' (first | (apply ds_evC; exact rfl; (with_reducible exact trivial); (with_reducible exact rfl); exact rfl; exact rfl; exact rfl) | apply ds_nil | apply dw_seq2 | (apply ds_region; exact rfl) | apply dw_block | apply thenD_n)
        by_cases hk14 : l.kind = 1 ∨ l.kind = 4
        · rw [if_pos hk14] at hf
          have hlok' : ∀ t ∈ l.terms, okT bs.length t := by rw [hbl]; exact hlok
          refine ds_loop (ι := Nat × List Bool) (fun x => ⟨3, [(1, .loc 0 0), (2, .d (.bool false)), (3, .row 1), (4, .d (.int .i64 n)), (5, .d (.int .i64 i)), (6, .loc 2 0), (9, .d (.int .i64 x.1))], [(0, ruleB r), (1, .row 4 1 (x.2.map encBl)), (2, litB l)]⟩)
            (fun x => x.2.length = bs.length ∧ (l.terms.drop x.1).foldl setT x.2 = (l.terms.drop (firstOf bs l)).foldl setT bs ∧ x.1 ≤ l.terms.length + 3) (fun x => l.terms.length + 3 - x.1)
            (firstOf bs l, bs) ⟨rfl, rfl, by dsimp only; omega⟩ (ent_ren id ⟨rfl, rfl, rfl, rfl, rfl, rfl, rfl, trivial⟩ ⟨rfl, rfl, rfl, trivial⟩ rfl rfl rfl rfl rfl rfl) ?_
          rintro ⟨j, bj⟩ ⟨e1, e2, e3⟩
          dsimp only at e1 e2 e3 ⊢
          have lbj : (bj.map encBl).length = bj.length := List.length_map _
          by_cases hj : j < l.terms.length
          · have hq := hlok' l.terms[j] (List.getElem_mem hj)
            rw [← e1] at hq
            rw [List.drop_eq_getElem_cons hj, List.foldl_cons] at e2
            by_cases hneg : l.terms[j].var < 0
            · have hst : setT bj l.terms[j] = bj := by unfold setT; rw [if_pos hneg]
              rw [hst] at e2
              repeat' (first | (apply ds_evC; exact rfl; (first | (with_reducible exact trivial) | omega); (first | ((with_reducible apply hv_prow); (exact (Int.toNat_of_nonneg (by omega)).symm)) | ((with_reducible apply hv_row); (exact rfl); (omega)) | (with_reducible exact rfl)); exact rfl; exact rfl; exact rfl) | (apply ds_skip; exact rfl; exact rfl) | apply ds_nil | (apply ds_stP; exact rfl; exact rfl; (apply hv_get; (omega)); exact rfl; exact rfl; (exact hv_set rfl); exact rfl; exact rfl; exact rfl; exact rfl; exact rfl; exact rfl) | apply dw_seq2 | (apply ds_region; exact rfl) | apply dw_block | apply dw_skip | apply dw_exit | (apply dw_condT; exact rfl) | (apply dw_condF; exact rfl) | apply thenD_n | apply thenD_e | apply inB_n | (apply inB_e; exact rfl) | (apply dw_condP; exact rfl; all_goals intro hg) | ((fail_if_success (apply ds_known; exact rfl)); apply ds_guardP; exact rfl; exact rfl; exact rfl; all_goals intro hg))
              all_goals try (exfalso; omega)
              all_goals exact ⟨(j + 1, bj), ⟨e1, e2, by dsimp only; omega⟩, ent_ren id ⟨rfl, rfl, rfl, rfl, rfl, rfl, rfl, trivial⟩ ⟨rfl, rfl, rfl, trivial⟩ rfl rfl rfl rfl rfl rfl, by show l.terms.length + 3 - (j + 1) < l.terms.length + 3 - j; omega⟩
            · have hst : setT bj l.terms[j] = bj.set l.terms[j].var.toNat true := by unfold setT; rw [if_neg hneg]
              rw [hst] at e2
              unfold okT at hq
              repeat' (first | (apply ds_evC; exact rfl; (first | (with_reducible exact trivial) | omega); (first | ((with_reducible apply hv_prow); (exact (Int.toNat_of_nonneg (by omega)).symm)) | ((with_reducible apply hv_row); (exact rfl); (omega)) | (with_reducible exact rfl)); exact rfl; exact rfl; exact rfl) | (apply ds_skip; exact rfl; exact rfl) | apply ds_nil | (apply ds_stP; exact rfl; exact rfl; (apply hv_get; (omega)); exact rfl; exact rfl; (exact hv_set rfl); exact rfl; exact rfl; exact rfl; exact rfl; exact rfl; exact rfl) | apply dw_seq2 | (apply ds_region; exact rfl) | apply dw_block | apply dw_skip | apply dw_exit | (apply dw_condT; exact rfl) | (apply dw_condF; exact rfl) | apply thenD_n | apply thenD_e | apply inB_n | (apply inB_e; exact rfl) | (apply dw_condP; exact rfl; all_goals intro hg) | ((fail_if_success (apply ds_known; exact rfl)); apply ds_guardP; exact rfl; exact rfl; exact rfl; all_goals intro hg))
              all_goals try (exfalso; omega)
              all_goals exact ⟨(j + 1, bj.set l.terms[j].var.toNat true), ⟨by dsimp only; rw [List.length_set]; exact e1, e2, by dsimp only; omega⟩, ent_ren id ⟨rfl, rfl, rfl, rfl, rfl, rfl, rfl, trivial⟩ ⟨rfl, rfl, rfl, trivial⟩ rfl rfl rfl rfl rfl rfl, by show l.terms.length + 3 - (j + 1) < l.terms.length + 3 - j; omega⟩
          · rw [List.drop_of_length_le (by omega)] at e2
            have e2 : bj = (l.terms.drop (firstOf bs l)).foldl setT bs := e2
            repeat' (first | (apply ds_evC; exact rfl; (first | (with_reducible exact trivial) | omega); (first | ((with_reducible apply hv_prow); (exact (Int.toNat_of_nonneg (by omega)).symm)) | ((with_reducible apply hv_row); (exact rfl); (omega)) | (with_reducible exact rfl)); exact rfl; exact rfl; exact rfl) | (apply ds_skip; exact rfl; exact rfl) | apply ds_nil | (apply ds_stP; exact rfl; exact rfl; (apply hv_get; (omega)); exact rfl; exact rfl; (exact hv_set rfl); exact rfl; exact rfl; exact rfl; exact rfl; exact rfl; exact rfl) | apply dw_seq2 | (apply ds_region; exact rfl) | apply dw_block | apply dw_skip | apply dw_exit | (apply dw_condT; exact rfl) | (apply dw_condF; exact rfl) | apply thenD_n | apply thenD_e | apply inB_n | (apply inB_e; exact rfl) | (apply dw_condP; exact rfl; all_goals intro hg) | ((fail_if_success (apply ds_known; exact rfl)); apply ds_guardP; exact rfl; exact rfl; exact rfl; all_goals intro hg))
            all_goals try (exfalso; omega)
            all_goals exact ⟨(i + 1, bj), ⟨by omega, by dsimp only; rw [e2, hf]⟩, ent_ren id ⟨rfl, rfl, rfl, rfl, rfl, trivial⟩ ⟨rfl, rfl, trivial⟩ rfl rfl rfl rfl rfl rfl, by show r.body.length - (i + 1) < r.body.length - i; omega⟩
        · rw [if_neg hk14] at hf
          refine ds_loop (ι := Unit) (fun _ => ⟨3, [(1, .loc 0 0), (2, .d (.bool false)), (3, .row 1), (4, .d (.int .i64 n)), (5, .d (.int .i64 i)), (6, .loc 2 0), (9, .d (.int .i64 (firstOf bs l)))], [(0, ruleB r), (1, .row 4 1 (bs.map encBl)), (2, litB l)]⟩)
            (fun _ => True) (fun _ => 0) () trivial (ent_ren id ⟨rfl, rfl, rfl, rfl, rfl, rfl, rfl, trivial⟩ ⟨rfl, rfl, rfl, trivial⟩ rfl rfl rfl rfl rfl rfl) ?_
          intro _ _
          repeat' (first | (apply ds_evC; exact rfl; (first | (with_reducible exact trivial) | omega); (first | ((with_reducible apply hv_prow); (exact (Int.toNat_of_nonneg (by omega)).symm)) | ((with_reducible apply hv_row); (exact rfl); (omega)) | (with_reducible exact rfl)); exact rfl; exact rfl; exact rfl) | (apply ds_skip; exact rfl; exact rfl) | apply ds_nil | (apply ds_stP; exact rfl; exact rfl; (apply hv_get; (omega)); exact rfl; exact rfl; (exact hv_set rfl); exact rfl; exact rfl; exact rfl; exact rfl; exact rfl; exact rfl) | apply dw_seq2 | (apply ds_region; exact rfl) | apply dw_block | apply dw_skip | apply dw_exit | (apply dw_condT; exact rfl) | (apply dw_condF; exact rfl) | apply thenD_n | apply thenD_e | apply inB_n | (apply inB_e; exact rfl) | (apply dw_condP; exact rfl; all_goals intro hg) | ((fail_if_success (apply ds_known; exact rfl)); apply ds_guardP; exact rfl; exact rfl; exact rfl; all_goals intro hg))
          all_goals try (exfalso; omega)
          all_goals exact ⟨(i + 1, bs), ⟨by omega, by rw [hf]⟩, ent_ren id ⟨rfl, rfl, rfl, rfl, rfl, trivial⟩ ⟨rfl, rfl, trivial⟩ rfl rfl rfl rfl rfl rfl, by show r.body.length - (i + 1) < r.body.length - i; omega⟩
    · repeat' (first | (apply ds_evC; exact rfl; (first | (with_reducible exact trivial) | omega); (first | ((with_reducible apply hv_row); (exact rfl); (omega)) | (with_reducible exact rfl)); exact rfl; exact rfl; exact rfl) | apply ds_nil | apply dw_seq2 | (apply ds_region; exact rfl) | apply dw_block | apply dw_skip | apply dw_exit | apply thenD_n | apply thenD_e | apply inB_n | (apply inB_e; exact rfl) | (apply ds_newC; exact rfl; (with_reducible exact trivial); exact rfl; exact rfl; exact rfl) | (apply ds_setC; exact rfl; exact rfl; exact rfl; exact rfl) | (apply dw_condP; exact rfl; all_goals intro hg))
      all_goals try (exfalso; omega)
      refine ⟨(n + 1, bs), ⟨by omega, ?_⟩, ent_ren id ⟨rfl, rfl, rfl, rfl, trivial⟩ ⟨rfl, rfl, trivial⟩ rfl rfl rfl rfl rfl rfl, by show r.body.length + 1 - (n + 1) < r.body.length + 1 - n; omega⟩
      dsimp only
      rw [bIter_succ, ← g2, f2, List.take_of_length_le (by omega)]; rfl
  · repeat' (first | (apply ds_evC; exact rfl; (with_reducible exact trivial); (with_reducible exact rfl); exact rfl; exact rfl; exact rfl) | apply ds_nil | apply dw_seq2 | (apply ds_region; exact rfl) | apply dw_block | apply dw_skip | apply dw_exit | apply thenD_n | apply thenD_e | (apply inB_e; exact rfl) | (apply dw_condP; exact rfl; all_goals intro hg))
    all_goals try (exfalso; omega)
    have hb : b0 = boundL r := by rw [g2, show n = r.body.length + 1 by omega]; rfl
    unfold safeB
    rw [← hb]
    have lb0 : (b0.map encBl).length = b0.length := List.length_map _
    refine ds_loop (ι := Nat) (fun x => ⟨2, [(1, .loc 0 0), (2, .d (.bool false)), (3, .row 1), (10, .d (.int .i64 x))], [(0, ruleB r), (1, .row 4 1 (b0.map encBl))]⟩)
      (fun x => x ≤ b0.length ∧ b0.all id = (b0.drop x).all id) (fun x => b0.length - x)
      0 ⟨Nat.zero_le _, rfl⟩ (ent_ren id ⟨rfl, rfl, rfl, rfl, trivial⟩ ⟨rfl, rfl, trivial⟩ rfl rfl rfl rfl rfl rfl) ?_
    rintro j ⟨e1, e2⟩
    dsimp only at e1 e2 ⊢
    by_cases hj : j < b0.length
    · rw [List.drop_eq_getElem_cons hj, List.all_cons] at e2
      repeat' (first | (apply ds_evC; exact rfl; (first | (with_reducible exact trivial) | omega); (first | ((with_reducible apply hv_prow); (exact rfl)) | ((with_reducible apply hv_ldrow); (apply hv_get; (omega)); exact rfl) | (with_reducible exact rfl)); exact rfl; exact rfl; exact rfl) | apply ds_nil | apply dw_seq2 | (apply ds_region; exact rfl) | apply dw_block | apply dw_skip | apply dw_exit | apply dw_ret | apply thenD_n | apply thenD_e | apply thenD_r | apply inB_n | apply inB_r | (apply inB_e; exact rfl) | (apply dw_condP; exact rfl; all_goals intro hg) | (apply dw_cond; exact rfl; all_goals intro hg))
      all_goals try (exfalso; omega)
      · refine ret_b rfl ?_
        have hbj : b0[j] = false := by simpa using hg
        rw [e2, hbj]; rfl
      · have hbj : b0[j] = true := by simpa using hg
        exact ⟨j + 1, ⟨by omega, by rw [e2, hbj]; rfl⟩, ent_ren id ⟨rfl, rfl, rfl, rfl, trivial⟩ ⟨rfl, rfl, trivial⟩ rfl rfl rfl rfl rfl rfl, by show b0.length - (j + 1) < b0.length - j; omega⟩
    · rw [List.drop_of_length_le (by omega)] at e2
      repeat' (first | (apply ds_evC; exact rfl; (first | (with_reducible exact trivial) | omega); (first | ((with_reducible apply hv_prow); (exact rfl)) | ((with_reducible apply hv_ldrow); (apply hv_get; (omega)); exact rfl) | (with_reducible exact rfl)); exact rfl; exact rfl; exact rfl) | apply ds_nil | apply dw_seq2 | (apply ds_region; exact rfl) | apply dw_block | apply dw_skip | apply dw_exit | apply dw_ret | apply thenD_n | apply thenD_e | apply thenD_r | apply inB_n | apply inB_r | (apply inB_e; exact rfl) | (apply dw_condP; exact rfl; all_goals intro hg) | (apply dw_cond; exact rfl; all_goals intro hg))
      all_goals try (exfalso; omega)
      all_goals exact ret_b rfl (by rw [e2]; rfl)
end Go.Proofs.YtapciiffpnociabGreat

/- The program's orders of ids and facts; whether lists rise. Condition: none. -/
namespace Go.Proofs.YtapciiffpnociabGreat
open Go Go.RowKit
attribute [local irreducible] DW DS DL DQ Ev FnOk FnP thenD inBlockD DT
set_option maxHeartbeats 8000000 in
theorem isNaN_fnD (dr : Bool) (a : Int) : FnD dr 201 [.d (.int .i64 a)] (fun r => r = .d (.bool false)) := by
  refine fnp_enter' _ Tryz.func201 rfl rfl (by kernel_rfl) ?_
  intro O w0 E0 β0
  repeat' (first | (apply ds_evC; exact rfl; (with_reducible exact trivial); (with_reducible exact rfl); exact rfl; exact rfl; exact rfl) | apply ds_nil | apply dw_seq2 | (apply ds_region; exact rfl) | apply dw_ret | apply thenD_n)
  exact ret_b rfl (by simp)
set_option maxHeartbeats 8000000 in
theorem compare_fnD (dr : Bool) (a b : Int) : FnD dr 157 [.d (.int .i64 a), .d (.int .i64 b)] (fun r => r = .d (.int .i64 (cmpI a b))) := by
  refine fnp_enter' _ Tryz.func157 rfl rfl (by kernel_rfl) ?_
  intro O w0 E0 β0
  repeat' (first | (apply ds_evC; exact rfl; (with_reducible exact trivial); (with_reducible exact rfl); exact rfl; exact rfl; exact rfl) | apply ds_nil | apply dw_seq2 | (apply ds_region; exact rfl) | apply dw_skip | apply dw_ret | (apply dw_condF; exact rfl) | apply thenD_n | apply thenD_r | (apply ds_call; exact rfl; exact rfl; apply isNaN_fnD; exact rfl; (exact rfl); exact rfl; rintro _ rfl) | (apply dw_condP; exact rfl; all_goals intro hg))
  all_goals exact ret_i rfl (by unfold cmpI; simp [*])
def orL : List Int → Int
  | [] => 0
  | a :: l => if a = 0 then orL l else a
set_option maxHeartbeats 8000000 in
theorem or_fnD (dr : Bool) (l : List Int) : FnD dr 156 [.d (.slice 1 (l.map encI))] (fun r => r = .d (.int .i64 (orL l))) := by
  refine fnp_enter' _ Tryz.func156 rfl rfl (by kernel_rfl) ?_
  intro O w0 E0 β0
  refine dw_len_map (t := 0) rfl fun hb => ?_
  repeat' (first | (apply ds_evC; exact rfl; (with_reducible exact trivial); (with_reducible exact rfl); exact rfl; exact rfl; exact rfl) | apply ds_nil | apply dw_seq2 | (apply ds_region; exact rfl) | apply dw_block | apply thenD_n)
  refine ds_loop (ι := Nat) (fun i => ⟨0, [(3, .d (.int .i64 0)), (6, .d (.slice 1 (l.map encI))), (7, .d (.int .i64 l.length)), (8, .d (.int .i64 i))], []⟩)
    (fun i => i ≤ l.length ∧ orL l = orL (l.drop i)) (fun i => l.length - i) 0 ⟨Nat.zero_le _, rfl⟩
    (ent_ren id ⟨rfl, rfl, by simp; rfl, rfl, trivial⟩ trivial rfl rfl rfl rfl rfl rfl) ?_
  rintro i ⟨h1, h2⟩
  repeat' (first | (apply ds_evC; exact rfl; (with_reducible exact trivial); (with_reducible exact rfl); exact rfl; exact rfl; exact rfl) | apply ds_nil | apply dw_seq2 | (apply ds_region; exact rfl) | apply thenD_n)
  refine dw_condP rfl (fun h => ?_) (fun h => ?_)
  · have hi : i < l.length := by omega
    have hd := List.drop_eq_getElem_cons hi
    repeat' (first | (apply ds_evC; exact rfl; (first | (with_reducible exact trivial) | (simp only [List.length_map]; omega)); (first | ((with_reducible apply hv_row); (exact rfl); (rw [List.length_map]; omega)) | (with_reducible exact rfl)); exact rfl; exact rfl; exact rfl) | apply ds_nil | apply dw_seq2 | (apply ds_region; exact rfl) | apply dw_block | apply dw_skip | apply thenD_n)
    refine dw_condP rfl (fun hb => ?_) (fun hb => ?_)
    · repeat' (first | (apply ds_evC; exact rfl; (with_reducible exact trivial); (with_reducible exact rfl); exact rfl; exact rfl; exact rfl) | apply ds_nil | apply dw_seq2 | (apply ds_region; exact rfl) | apply dw_ret | apply thenD_n | apply thenD_r | apply inB_r)
      exact ret_i rfl (by rw [h2, hd, orL, if_neg hb])
    · repeat' (first | (apply ds_evC; exact rfl; (first | (with_reducible exact trivial) | omega); (with_reducible exact rfl); exact rfl; exact rfl; exact rfl) | apply ds_nil | (apply ds_region; exact rfl) | apply dw_skip | apply thenD_n | apply inB_n)
      exact ⟨i + 1, ⟨hi, by rw [h2, hd, orL, if_pos (Decidable.not_not.1 hb)]⟩, ent_ren id ⟨rfl, rfl, rfl, rfl, trivial⟩ trivial rfl rfl rfl rfl rfl rfl, by omega⟩
  · repeat' (first | (apply ds_evC; exact rfl; (with_reducible exact trivial); (with_reducible exact rfl); exact rfl; exact rfl; exact rfl) | apply ds_nil | apply dw_seq2 | (apply ds_region; exact rfl) | apply dw_exit | apply dw_ret | apply thenD_n | apply thenD_e | (apply inB_e; exact rfl))
    exact ret_i rfl (by rw [h2, List.drop_of_length_le (by omega)]; rfl)
theorem ordL_step {l m : List Int} {i : Nat} (h1 : i < l.length) (h2 : i < m.length) : ordL (l.drop i) (m.drop i) = if cmpI l[i] m[i] = 0 then ordL (l.drop (i + 1)) (m.drop (i + 1)) else cmpI l[i] m[i] := by
  rw [List.drop_eq_getElem_cons h1, List.drop_eq_getElem_cons h2, ordL]
theorem ordL_more {l m : List Int} {i : Nat} (h1 : i < l.length) (h2 : m.length ≤ i) : ordL (l.drop i) (m.drop i) = 1 := by
  rw [List.drop_eq_getElem_cons h1, List.drop_of_length_le h2]; unfold ordL; rfl
theorem ordL_less {l m : List Int} {i : Nat} (h1 : l.length ≤ i) (h2 : i < m.length) : ordL (l.drop i) (m.drop i) = -1 := by
  rw [List.drop_eq_getElem_cons h2, List.drop_of_length_le h1]; unfold ordL; rfl
theorem ordL_end {l m : List Int} {i : Nat} (h1 : l.length ≤ i) (h2 : m.length ≤ i) : ordL (l.drop i) (m.drop i) = 0 := by
  rw [List.drop_of_length_le h1, List.drop_of_length_le h2]; unfold ordL; rfl
set_option maxHeartbeats 8000000 in
theorem compareInts_fnD (dr : Bool) (l m : List Int) : FnD dr 142 [.d (.slice 1 (l.map encI)), .d (.slice 1 (m.map encI))] (fun r => r = .d (.int .i64 (ordL l m))) := by
  refine fnp_enter' _ Tryz.func142 rfl rfl (by kernel_rfl) ?_
  intro O w0 E0 β0
  refine dw_len_map (t := 0) rfl fun hb => ?_
  refine dw_len_map (t := 1) rfl fun hb2 => ?_
  repeat' (first | (apply ds_evC; exact rfl; (with_reducible exact trivial); (with_reducible exact rfl); exact rfl; exact rfl; exact rfl) | apply ds_nil | apply dw_seq2 | (apply ds_region; exact rfl) | apply dw_block | apply thenD_n)
  refine ds_loop (ι := Nat) (fun i => ⟨0, [(0, .d (.slice 1 (l.map encI))), (1, .d (.slice 1 (m.map encI))), (9, .d (.slice 1 (l.map encI))), (10, .d (.int .i64 l.length)), (11, .d (.int .i64 i))], []⟩)
    (fun i => i ≤ l.length ∧ i ≤ m.length ∧ ordL l m = ordL (l.drop i) (m.drop i)) (fun i => l.length - i) 0 ⟨Nat.zero_le _, Nat.zero_le _, rfl⟩
    (ent_ren id ⟨rfl, rfl, rfl, by simp; rfl, rfl, trivial⟩ trivial rfl rfl rfl rfl rfl rfl) ?_
  rintro i ⟨h1, h2, h3⟩
  repeat' (first | (apply ds_evC; exact rfl; (with_reducible exact trivial); (with_reducible exact rfl); exact rfl; exact rfl; exact rfl) | apply ds_nil | apply dw_seq2 | (apply ds_region; exact rfl) | apply thenD_n)
  refine dw_condP rfl (fun h => ?_) (fun h => ?_)
  · have hi : i < l.length := by omega
    repeat' (first | (apply ds_evC; exact rfl; (first | (with_reducible exact trivial) | (simp only [List.length_map]; omega)); (first | ((with_reducible apply hv_row); (exact rfl); (rw [List.length_map]; omega)) | (with_reducible exact rfl)); exact rfl; exact rfl; exact rfl) | apply ds_nil | apply dw_seq2 | (apply ds_region; exact rfl) | apply dw_block | apply dw_skip | apply thenD_n)
    refine dw_condP rfl (fun hb => ?_) (fun hb => ?_)
    · repeat' (first | (apply ds_evC; exact rfl; (with_reducible exact trivial); (with_reducible exact rfl); exact rfl; exact rfl; exact rfl) | apply ds_nil | apply dw_seq2 | (apply ds_region; exact rfl) | apply dw_ret | apply thenD_n | apply thenD_r | apply inB_r)
      exact ret_i rfl (by rw [h3, ordL_more hi (by rw [List.length_map] at hb; omega)])
    · have hm : i < m.length := by rw [List.length_map] at hb; omega
      have hs := ordL_step hi hm
      repeat' (first | (apply ds_evC; exact rfl; (first | (with_reducible exact trivial) | omega); (first | ((with_reducible apply hv_row); (exact rfl); (omega)) | (with_reducible exact rfl)); exact rfl; exact rfl; exact rfl) | apply ds_nil | apply dw_seq2 | (apply ds_region; exact rfl) | apply dw_skip | apply thenD_n | (apply ds_call; exact rfl; exact rfl; apply compare_fnD; exact rfl; (exact rfl); exact rfl; rintro _ rfl))
      refine dw_condP rfl (fun hc => ?_) (fun hc => ?_)
      · repeat' (first | (apply ds_evC; exact rfl; (with_reducible exact trivial); (with_reducible exact rfl); exact rfl; exact rfl; exact rfl) | apply ds_nil | apply dw_seq2 | (apply ds_region; exact rfl) | apply dw_ret | apply thenD_n | apply thenD_r | apply inB_r)
        exact ret_i rfl (by rw [h3, hs, if_neg hc])
      · repeat' (first | (apply ds_evC; exact rfl; (first | (with_reducible exact trivial) | omega); (with_reducible exact rfl); exact rfl; exact rfl; exact rfl) | apply ds_nil | (apply ds_region; exact rfl) | apply dw_skip | apply thenD_n | apply inB_n)
        exact ⟨i + 1, ⟨hi, hm, by rw [h3, hs, if_pos (Decidable.not_not.1 hc)]⟩, ent_ren id ⟨rfl, rfl, rfl, rfl, rfl, trivial⟩ trivial rfl rfl rfl rfl rfl rfl, by omega⟩
  · repeat' (first | (apply ds_evC; exact rfl; (with_reducible exact trivial); (with_reducible exact rfl); exact rfl; exact rfl; exact rfl) | apply ds_nil | apply dw_seq2 | (apply ds_region; exact rfl) | apply dw_exit | apply thenD_n | apply thenD_e | (apply inB_e; exact rfl))
    refine dw_condP rfl (fun hb => ?_) (fun hb => ?_)
    · repeat' (first | (apply ds_evC; exact rfl; (with_reducible exact trivial); (with_reducible exact rfl); exact rfl; exact rfl; exact rfl) | apply ds_nil | apply dw_seq2 | (apply ds_region; exact rfl) | apply dw_ret | apply thenD_n | apply thenD_r)
      exact ret_i rfl (by rw [h3, ordL_less (by omega) (by rw [List.length_map, List.length_map] at hb; omega)])
    · repeat' (first | (apply ds_evC; exact rfl; (with_reducible exact trivial); (with_reducible exact rfl); exact rfl; exact rfl; exact rfl) | apply ds_nil | apply dw_seq2 | (apply ds_region; exact rfl) | apply dw_skip | apply dw_ret | apply thenD_n)
      exact ret_i rfl (by rw [h3, ordL_end (by omega) (by rw [List.length_map, List.length_map] at hb; omega)])
theorem ordF_or (a b : Fct) : ordF a b = orL [cmpI a.pred b.pred, ordL a.args b.args] := by
  unfold ordF
  simp only [orL]
  split
  · split
    · assumption
    · rfl
  · rfl
set_option maxHeartbeats 8000000 in
theorem orderF_fnD (dr : Bool) (a b : Fct) : FnD dr 115 [elFct a, elFct b] (fun r => r = .d (.int .i64 (ordF a b))) := by
  refine fnp_enter' _ Tryz.func115 rfl rfl (by kernel_rfl) ?_
  intro O w0 E0 β0
  have ho := or_fnD dr [cmpI a.pred b.pred, ordL a.args b.args]
  repeat' (first | (apply ds_evC; exact rfl; (with_reducible exact trivial); (with_reducible exact rfl); exact rfl; exact rfl; exact rfl) | apply ds_nil | (apply dt_ev; exact rfl; exact rfl; (with_reducible exact trivial); (with_reducible exact rfl); exact rfl; exact rfl; exact rfl; exact rfl) | (apply dt_nil0; exact rfl; exact rfl; exact rfl; exact rfl) | apply dw_seq2 | (apply ds_region; exact rfl) | (apply dw_any; kernel_rfl; kernel_rfl; exact rfl; exact rfl) | apply dw_ret | apply thenD_n | (apply dt_call; exact rfl; exact rfl; apply compare_fnD; exact rfl; (exact rfl); exact rfl; exact rfl; exact ⟨_, rfl⟩; rintro _ rfl) | (apply dt_call; exact rfl; exact rfl; apply compareInts_fnD; exact rfl; (exact rfl); exact rfl; exact rfl; exact ⟨_, rfl⟩; rintro _ rfl) | (apply dt_call; exact rfl; exact rfl; apply ho; exact rfl; (exact rfl); exact rfl; exact rfl; exact ⟨_, rfl⟩; rintro _ rfl) | (apply ds_newC; exact rfl; (with_reducible exact trivial); exact rfl; exact rfl; exact rfl))
  exact ret_i rfl (ordF_or a b).symm
theorem orderF_fn (a b : Fct) : Fn 115 [elFct a, elFct b] (fun r => r = .d (.int .i64 (ordF a b))) := orderF_fnD false a b
end Go.Proofs.YtapciiffpnociabGreat

/- The program's Check of updates. Condition: none. -/
namespace Go.Proofs.YtapciiffpnociabGreat
open Go Go.RowKit
attribute [local irreducible] DW DS DL DQ Ev FnOk FnP thenD inBlockD DT
end Go.Proofs.YtapciiffpnociabGreat

/- The document's CheckUpdate; what is the same. Condition: none. -/
namespace Go.Proofs.YtapciiffpnociabGreat
open Go Go.RowKit
attribute [local irreducible] DW DS DL DQ Ev FnOk FnP thenD inBlockD DT
theorem rbetween_fn (n a b : Int) : Fn 80 [.d (.int .i64 n), .d (.int .i64 a), .d (.int .i64 b)] (fun r => r = .d (.bool (inR n a b))) := between_fn n a b
theorem fct_not {x y : Fct} {b : Bool} (h : decide (ordF x y ≠ 0) = !b) : Fct.same x y = b := by
  unfold Fct.same
  cases b <;> simpa using h
theorem ordL_lt {l m : List Int} {i : Nat} (h1 : i < l.length) (h2 : i < m.length) (h : l[i] < m[i]) : ordL (l.drop i) (m.drop i) = -1 := by
  have e : cmpI l[i] m[i] = -1 := by unfold cmpI; rw [if_pos h]
  rw [ordL_step h1 h2, e]; rfl
theorem ordL_gt {l m : List Int} {i : Nat} (h1 : i < l.length) (h2 : i < m.length) (h : m[i] < l[i]) : ordL (l.drop i) (m.drop i) = 1 := by
  have e : cmpI l[i] m[i] = 1 := by unfold cmpI; rw [if_neg (by omega), if_pos h]
  rw [ordL_step h1 h2, e]; rfl
theorem ordL_eq {l m : List Int} {i : Nat} (h1 : i < l.length) (h2 : i < m.length) (h : l[i] = m[i]) : ordL (l.drop i) (m.drop i) = ordL (l.drop (i + 1)) (m.drop (i + 1)) := by
  rw [ordL_step h1 h2, h, if_pos (cmpI_self _)]
theorem cmpI_eq (a b : Int) : (cmpI a b = 0) = (a = b) := by unfold cmpI; rw [eq_iff_iff]; split <;> (try split) <;> simp <;> omega
set_option maxHeartbeats 8000000 in
theorem orderOf_fn (a b : Fct) : Fn 82 [elFct a, elFct b] (fun r => r = .d (.int .i64 (ordF a b))) := by
  refine fnp_enter' _ Tryz.func82 rfl rfl (by kernel_rfl) ?_
  intro O w0 E0 β0
  repeat' (first | (apply ds_evC; exact rfl; (with_reducible exact trivial); (with_reducible exact rfl); exact rfl; exact rfl; exact rfl) | apply ds_nil | apply dw_seq2 | (apply ds_region; exact rfl) | apply thenD_n | (apply ds_newC; exact rfl; (with_reducible exact trivial); exact rfl; exact rfl; exact rfl))
  refine dw_condP rfl (fun hp => ?_) (fun hp => ?_)
  · repeat' (first | (apply ds_evC; exact rfl; (with_reducible exact trivial); (with_reducible exact rfl); exact rfl; exact rfl; exact rfl) | apply ds_nil | apply dw_seq2 | (apply ds_region; exact rfl) | apply dw_skip | apply dw_ret | apply thenD_n | apply thenD_r | (apply dw_condP; exact rfl; all_goals intro hg))
    all_goals exact ret_i rfl (by unfold ordF; rw [if_neg (by rw [cmpI_eq]; exact hp)]; unfold cmpI; repeat' split; all_goals first | rfl | omega)
  · have hF : ordF a b = ordL a.args b.args := by unfold ordF; rw [if_pos (by rw [cmpI_eq]; exact Decidable.not_not.1 hp)]
    repeat' (first | (apply ds_evC; exact rfl; (with_reducible exact trivial); (with_reducible exact rfl); exact rfl; exact rfl; exact rfl) | apply ds_nil | apply dw_seq2 | (apply ds_region; exact rfl) | apply dw_block | apply dw_skip | apply thenD_n)
    refine ds_loop (ι := Nat) (fun i => ⟨2, [(2, .loc 0 0), (3, .loc 1 0), (5, .d (.int .i64 i))], [(0, .blk 95 [.d (.int .i64 a.pred), .d (.slice 1 (a.args.map encI))]), (1, .blk 95 [.d (.int .i64 b.pred), .d (.slice 1 (b.args.map encI))])]⟩)
      (fun i => i ≤ a.args.length ∧ i ≤ b.args.length ∧ ordF a b = ordL (a.args.drop i) (b.args.drop i)) (fun i => a.args.length - i) 0 ⟨Nat.zero_le _, Nat.zero_le _, hF⟩
      (ent_ren id ⟨rfl, rfl, rfl, trivial⟩ ⟨rfl, rfl, trivial⟩ rfl rfl rfl rfl rfl rfl) ?_
    rintro i ⟨h1, h2, h3⟩
    refine dw_lenC 0 1 rfl rfl fun hb => ?_
    have la : (a.args.map encI).length = a.args.length := List.length_map _
    have lb : (b.args.map encI).length = b.args.length := List.length_map _
    repeat' (first | (apply ds_evC; exact rfl; (first | (with_reducible exact trivial) | omega); (with_reducible exact rfl); exact rfl; exact rfl; exact rfl) | (apply ds_skip; exact rfl; exact rfl) | apply ds_nil | (apply dt_ev; exact rfl; exact rfl; (first | (with_reducible exact trivial) | omega); (first | ((with_reducible apply hv_row); (exact rfl); (omega)) | (with_reducible exact rfl)); exact rfl; exact rfl; exact rfl; exact rfl) | (apply dt_nil0; exact rfl; exact rfl; exact rfl; exact rfl) | apply dw_seq2 | (apply ds_region; exact rfl) | (apply dw_any; kernel_rfl; kernel_rfl; exact rfl; exact rfl) | apply dw_block | apply dw_skip | apply dw_exit | apply dw_ret | (apply dw_condF; exact rfl) | apply thenD_n | apply thenD_e | apply thenD_r | apply inB_n | apply inB_r | (apply inB_e; exact rfl) | (apply dw_condP; exact rfl; all_goals intro hg) | ((fail_if_success (apply ds_known; exact rfl)); apply ds_guardP; exact rfl; exact rfl; exact rfl; all_goals intro hg))
    all_goals first
      | (refine ret_i rfl (Eq.trans ?_ h3.symm); refine (ordL_lt ?_ ?_ ?_).symm <;> first | assumption | omega)
      | (refine ret_i rfl (Eq.trans ?_ h3.symm); refine (ordL_gt ?_ ?_ ?_).symm <;> first | assumption | omega)
      | (refine ret_i rfl (Eq.trans ?_ h3.symm); refine (ordL_less ?_ ?_).symm <;> omega)
      | (refine ret_i rfl (Eq.trans ?_ h3.symm); refine (ordL_more ?_ ?_).symm <;> omega)
      | (refine ret_i rfl (Eq.trans ?_ h3.symm); refine (ordL_end ?_ ?_).symm <;> omega)
      | (refine ⟨i + 1, ⟨?_, ?_, h3.trans (ordL_eq ?_ ?_ ?_)⟩, ent_ren id ⟨rfl, rfl, rfl, trivial⟩ ⟨rfl, rfl, trivial⟩ rfl rfl rfl rfl rfl rfl, ?_⟩ <;> omega)
set_option maxHeartbeats 8000000 in
theorem sameFacts_fn (l m : List (Fct)) : Fn 43 [.d (.slice 2 (l.map encFct)), .d (.slice 2 (m.map encFct))] (fun r => r = .d (.bool (sameL Fct.same l m))) := by
  refine fnp_enter' _ Tryz.func43 rfl rfl (by kernel_rfl) ?_
  intro O w0 E0 β0
  refine dw_len_map (t := 0) rfl fun hb => ?_
  repeat' (first | (apply ds_evC; exact rfl; (with_reducible exact trivial); (with_reducible exact rfl); exact rfl; exact rfl; exact rfl) | apply ds_nil | apply dw_seq2 | (apply ds_region; exact rfl) | apply thenD_n)
  refine dw_condP rfl (fun h => ?_) (fun h => ?_)
  · have hne : l.length ≠ m.length := by rw [List.length_map, List.length_map] at h; omega
    repeat' (first | (apply ds_evC; exact rfl; (with_reducible exact trivial); (with_reducible exact rfl); exact rfl; exact rfl; exact rfl) | apply ds_nil | apply dw_seq2 | (apply ds_region; exact rfl) | apply dw_ret | apply thenD_n | apply thenD_r)
    exact ret_b rfl (sameL_len _ _ _ hne).symm
  · have hlen : l.length = m.length := by rw [List.length_map, List.length_map] at h; omega
    repeat' (first | (apply ds_evC; exact rfl; (with_reducible exact trivial); (with_reducible exact rfl); exact rfl; exact rfl; exact rfl) | apply ds_nil | apply dw_seq2 | (apply ds_region; exact rfl) | apply dw_block | apply dw_skip | apply thenD_n)
    refine ds_loop (ι := Nat) (fun i => ⟨0, [(0, .d (.slice 2 (l.map encFct))), (1, .d (.slice 2 (m.map encFct))), (5, .d (.int .i64 i))], []⟩)
      (fun i => i ≤ l.length ∧ sameL Fct.same l m = sameL Fct.same (l.drop i) (m.drop i)) (fun i => l.length - i) 0 ⟨Nat.zero_le _, rfl⟩
      (ent_ren id ⟨rfl, rfl, rfl, trivial⟩ trivial rfl rfl rfl rfl rfl rfl) ?_
    rintro i ⟨h1, h2⟩
    repeat' (first | (apply ds_evC; exact rfl; (with_reducible exact trivial); (with_reducible exact rfl); exact rfl; exact rfl; exact rfl) | apply ds_nil | apply dw_seq2 | (apply ds_region; exact rfl) | apply thenD_n)
    refine dw_condP rfl (fun h => ?_) (fun h => ?_)
    · have hi : i < l.length := by rw [List.length_map] at h; omega
      have hm : i < m.length := by omega
      have hd := sameL_drop Fct.same l m i hi hm
      repeat' (first | (apply dt_ev; exact rfl; exact rfl; (first | (with_reducible exact trivial) | omega); (first | ((with_reducible apply hv_row); (exact rfl); (omega)) | (with_reducible exact rfl)); exact rfl; exact rfl; exact rfl; exact rfl) | (apply dt_nil0; exact rfl; exact rfl; exact rfl; exact rfl) | apply dw_seq2 | (apply dw_any; kernel_rfl; kernel_rfl; exact rfl; exact rfl) | apply dw_block | apply dw_skip | apply thenD_n | (apply dt_call; exact rfl; exact rfl; apply orderOf_fn; exact rfl; (exact rfl); exact rfl; exact rfl; exact ⟨_, rfl⟩; rintro _ rfl))
      refine dw_cond rfl (fun hb => ?_) (fun hb => ?_)
      · have hp : Fct.same l[i] m[i] = false := by exact fct_not hb
        repeat' (first | (apply ds_evC; exact rfl; (with_reducible exact trivial); (with_reducible exact rfl); exact rfl; exact rfl; exact rfl) | apply ds_nil | apply dw_seq2 | (apply ds_region; exact rfl) | apply dw_ret | apply thenD_n | apply thenD_r | apply inB_r)
        exact ret_b rfl (by rw [h2, hd, hp]; rfl)
      · have hp : Fct.same l[i] m[i] = true := by exact fct_not hb
        repeat' (first | (apply ds_evC; exact rfl; (first | (with_reducible exact trivial) | omega); (with_reducible exact rfl); exact rfl; exact rfl; exact rfl) | apply ds_nil | (apply ds_region; exact rfl) | apply dw_skip | apply thenD_n | apply inB_n)
        exact ⟨i + 1, ⟨hi, by rw [h2, hd, hp]; rfl⟩, ent_ren id ⟨rfl, rfl, rfl, trivial⟩ trivial rfl rfl rfl rfl rfl rfl, by omega⟩
    · repeat' (first | (apply ds_evC; exact rfl; (with_reducible exact trivial); (with_reducible exact rfl); exact rfl; exact rfl; exact rfl) | apply ds_nil | apply dw_seq2 | (apply ds_region; exact rfl) | apply dw_exit | apply dw_ret | apply thenD_n | apply thenD_e | (apply inB_e; exact rfl))
      exact ret_b rfl (by rw [h2, sameL_end _ _ _ _ (by rw [List.length_map] at h; omega) (by rw [List.length_map] at h; omega)])
end Go.Proofs.YtapciiffpnociabGreat

/- Plain words on sets of facts: no program is in sight. Condition: none. -/
namespace Go.Proofs.YtapciiffpnociabGreat
def hasF (l : List Fct) (f : Fct) : Bool := l.any fun x => decide (ordF x f = 0)
def kFrom (l : List Fct) (f : Fct) : Nat → Nat
  | 0 => 0
  | n + 1 => match l[n]? with
    | some x => if 0 < ordF x f then kFrom l f n else n + 1
    | none => n + 1
def insF (l : List Fct) (f : Fct) : List Fct := if hasF l f then l else l.take (kFrom l f l.length) ++ f :: l.drop (kFrom l f l.length)
def setF' (l : List Fct) : List Fct := l.foldl insF []
theorem kFrom_succ {l : List Fct} {f : Fct} {n : Nat} (h : n < l.length) : kFrom l f (n + 1) = if 0 < ordF l[n] f then kFrom l f n else n + 1 := by
  rw [kFrom, List.getElem?_eq_getElem h]
theorem insF_len (l : List Fct) (f : Fct) : (insF l f).length ≤ l.length + 1 := by
  unfold insF
  split
  · omega
  · simp; omega
theorem setF_take {l : List Fct} {i : Nat} (h : i < l.length) : (l.take (i + 1)).foldl insF [] = insF ((l.take i).foldl insF []) l[i] := by
  rw [List.take_succ_eq_append_getElem h, List.foldl_append]; rfl
theorem setF_len : ∀ (l o : List Fct), (l.foldl insF o).length ≤ l.length + o.length
  | [], o => by simp
  | x :: l, o => by
    have := setF_len l (insF o x)
    have := insF_len o x
    rw [List.foldl_cons, List.length_cons]
    omega
theorem shift_step {α : Type} {l : List α} {y : α} {k : Nat} (h : k < l.length) : (l.take (k + 1) ++ y :: l.drop (k + 1)).set (k + 1) l[k] = l.take k ++ l[k] :: l.drop k := by
  have h1 : (l.take (k + 1)).length = k + 1 := by simp; omega
  rw [List.set_append_right _ _ (by omega), h1, Nat.sub_self, List.set_cons_zero, List.take_succ_eq_append_getElem h, List.append_assoc, List.drop_eq_getElem_cons h]
  rfl
theorem shift_get {α : Type} {l : List α} {y : α} {k : Nat} (h : k < l.length) : (l.take (k + 1) ++ y :: l.drop (k + 1))[k]? = some l[k] := by
  rw [List.getElem?_append_left (by simp; omega), List.getElem?_take, if_pos (by omega), List.getElem?_eq_getElem h]
theorem shift_end {α : Type} {l : List α} {y x : α} {k : Nat} (h : k ≤ l.length) : (l.take k ++ y :: l.drop k).set k x = l.take k ++ x :: l.drop k := by
  have h1 : (l.take k).length = k := by simp; omega
  rw [List.set_append_right _ _ (by omega), h1, Nat.sub_self, List.set_cons_zero]
end Go.Proofs.YtapciiffpnociabGreat

/- The document's HasFact and SetOf. Condition: none. -/
namespace Go.Proofs.YtapciiffpnociabGreat
open Go Go.RowKit
attribute [local irreducible] DW DS DL DQ Ev FnOk FnP thenD inBlockD DT
set_option maxHeartbeats 8000000 in
theorem hasFact_fn (l : List Fct) (f : Fct) : Fn 133 [.d (.slice 2 (l.map encFct)), elFct f] (fun r => r = .d (.bool (hasF l f))) := by
  refine fnp_enter' _ Tryz.func133 rfl rfl (by kernel_rfl) ?_
  intro O w0 E0 β0
  have la : (l.map encFct).length = l.length := List.length_map _
  refine dw_len (t := 0) rfl (fun hk => ?_)
  unfold hasF
  repeat' (first | (apply ds_evC; exact rfl; (with_reducible exact trivial); (with_reducible exact rfl); exact rfl; exact rfl; exact rfl) | apply ds_nil | apply dw_seq2 | (apply ds_region; exact rfl) | apply dw_block | apply thenD_n | (apply ds_newC; exact rfl; (with_reducible exact trivial); exact rfl; exact rfl; exact rfl))
  refine ds_loop (ι := Nat) (fun i => ⟨1, [(0, .d (.slice 2 (l.map encFct))), (3, .loc 0 0), (4, .d (.bool false)), (5, .d (.int .i64 i))], [(0, .blk 95 [.d (.int .i64 f.pred), .d (.slice 1 (f.args.map encI))])]⟩)
    (fun i => i ≤ l.length ∧ (l.any fun x => decide (ordF x f = 0)) = ((l.drop i).any fun x => decide (ordF x f = 0))) (fun i => l.length - i) 0 ⟨Nat.zero_le _, rfl⟩ (ent_ren id ⟨rfl, rfl, rfl, rfl, trivial⟩ ⟨rfl, trivial⟩ rfl rfl rfl rfl rfl rfl) ?_
  rintro i ⟨g1, g2⟩
  by_cases hi : i < l.length
  · have w := orderOf_fn l[i] f
    rw [List.drop_eq_getElem_cons hi, List.any_cons] at g2
    generalize ordF l[i] f = q at w g2
    repeat' (first | (apply ds_evC; exact rfl; (first | (with_reducible exact trivial) | omega); (with_reducible exact rfl); exact rfl; exact rfl; exact rfl) | apply ds_nil | (apply dt_ev; exact rfl; exact rfl; (first | (with_reducible exact trivial) | omega); (first | ((with_reducible apply hv_row); (exact rfl); (omega)) | (with_reducible exact rfl)); exact rfl; exact rfl; exact rfl; exact rfl) | (apply dt_nil0; exact rfl; exact rfl; exact rfl; exact rfl) | apply dw_seq2 | (apply ds_region; exact rfl) | (apply dw_any; kernel_rfl; kernel_rfl; exact rfl; exact rfl) | apply dw_block | apply dw_skip | apply dw_exit | apply dw_ret | apply thenD_n | apply thenD_e | apply thenD_r | apply inB_n | apply inB_r | (apply inB_e; exact rfl) | (apply dt_call; exact rfl; exact rfl; apply w; exact rfl; (exact rfl); exact rfl; exact rfl; exact ⟨_, rfl⟩; rintro _ rfl) | (apply dw_condP; exact rfl; all_goals intro hg))
    all_goals first
      | (exfalso; omega)
      | (refine ret_b rfl ?_; rw [g2]; simp_all; done)
      | exact ⟨i + 1, ⟨by omega, by rw [g2]; simp_all⟩, ent_ren id ⟨rfl, rfl, rfl, rfl, trivial⟩ ⟨rfl, trivial⟩ rfl rfl rfl rfl rfl rfl, by show l.length - (i + 1) < l.length - i; omega⟩
  · rw [List.drop_of_length_le (by omega)] at g2
    repeat' (first | (apply ds_evC; exact rfl; (with_reducible exact trivial); (with_reducible exact rfl); exact rfl; exact rfl; exact rfl) | apply ds_nil | (apply dt_ev; exact rfl; exact rfl; (first | (with_reducible exact trivial) | omega); (first | ((with_reducible apply hv_row); (exact rfl); (omega)) | (with_reducible exact rfl)); exact rfl; exact rfl; exact rfl; exact rfl) | apply dw_seq2 | (apply ds_region; exact rfl) | (apply dw_any; kernel_rfl; kernel_rfl; exact rfl; exact rfl) | apply dw_block | apply dw_skip | apply dw_exit | apply dw_ret | apply thenD_n | apply thenD_e | (apply inB_e; exact rfl) | (apply dw_condP; exact rfl; all_goals intro hg))
    all_goals first
      | (exfalso; omega)
      | exact ret_b rfl g2.symm
set_option maxHeartbeats 8000000 in
theorem setOf_fn (l : List Fct) (hl : l.length ≤ 4398046511104) : Fn 84 [.d (.slice 2 (l.map encFct))] (fun r => r = .d (.slice 2 ((setF' l).map encFct))) := by
  refine fnp_enter' _ Tryz.func84 rfl rfl (by kernel_rfl) ?_
  intro O w0 E0 β0
  have la : (l.map encFct).length = l.length := List.length_map _
  repeat' (first | (apply ds_evC; exact rfl; (with_reducible exact trivial); (with_reducible exact rfl); exact rfl; exact rfl; exact rfl) | apply ds_nil | apply dw_seq2 | (apply ds_region; exact rfl) | apply dw_block | apply thenD_n)
  refine dw_ent (ent_nilrow (t := 3) 95 2 rfl) ?_
  refine ds_loop (ι := Nat × List Fct) (fun x => ⟨1, [(0, .d (.slice 2 (l.map encFct))), (3, .row 0), (4, .d (.int .i64 x.1))], [(0, .row 95 2 (x.2.map encFct))]⟩)
    (fun x => x.1 ≤ l.length ∧ x.2 = (l.take x.1).foldl insF []) (fun x => l.length - x.1) (0, []) ⟨Nat.zero_le _, rfl⟩ (ent_ren id ⟨rfl, rfl, rfl, trivial⟩ ⟨rfl, trivial⟩ rfl rfl rfl rfl rfl rfl) ?_
  rintro ⟨i, o⟩ ⟨g1, g2⟩
  dsimp only at g1 g2 ⊢
  have lo : (o.map encFct).length = o.length := List.length_map _
  have hol : o.length ≤ i := by
    have := setF_len (l.take i) []
    rw [← g2] at this
    simp at this
    omega
  by_cases hi : i < l.length
  · have hstep := setF_take (l := l) hi
    rw [← g2] at hstep
    repeat' (first | (apply ds_evC; exact rfl; (first | (with_reducible exact trivial) | omega); (first | ((with_reducible apply hv_row); (exact rfl); (omega)) | (with_reducible exact rfl)); exact rfl; exact rfl; exact rfl) | apply ds_nil | apply dw_seq2 | (apply ds_region; exact rfl) | apply dw_block | apply dw_skip | apply dw_exit | apply dw_ret | apply thenD_n | apply thenD_e | (apply inB_e; exact rfl) | (apply dw_condP; exact rfl; all_goals intro hg))
    all_goals try (exfalso; omega)
    refine ds_callS 0 (hasFact_fn o l[i]) rfl rfl (by rintro _ rfl; rfl) rfl rfl rfl rfl ?_
    rintro _ rfl
    cases hh : hasF o l[i] with
    | true =>
      have hins : insF o l[i] = o := by unfold insF; rw [if_pos hh]
      repeat' (first | (apply ds_evC; exact rfl; (first | (with_reducible exact trivial) | omega); (with_reducible exact rfl); exact rfl; exact rfl; exact rfl) | apply ds_nil | (apply ds_region; exact rfl) | apply dw_exit | (apply dw_condT; exact rfl) | apply thenD_n | apply thenD_e | (apply inB_e; exact rfl))
      exact ⟨(i + 1, o), ⟨by dsimp only; omega, by dsimp only; rw [hstep, hins]⟩, ent_ren id ⟨rfl, rfl, rfl, trivial⟩ ⟨rfl, trivial⟩ rfl rfl rfl rfl rfl rfl, by show l.length - (i + 1) < l.length - i; omega⟩
    | false =>
      have hins : insF o l[i] = o.take (kFrom o l[i] o.length) ++ l[i] :: o.drop (kFrom o l[i] o.length) := by unfold insF; rw [hh]; rfl
      rw [hins] at hstep
      repeat' (first | (apply ds_evC; exact rfl; (first | (with_reducible exact trivial) | omega); (first | ((with_reducible apply hv_row); (exact rfl); (omega)) | (with_reducible exact rfl)); exact rfl; exact rfl; exact rfl) | apply ds_nil | apply dw_seq2 | (apply ds_region; exact rfl) | apply dw_block | apply dw_skip | (apply dw_condF; exact rfl) | apply thenD_n | (apply ds_bsC; exact rfl; exact rfl; exact rfl; exact rfl) | (apply ds_tradeC; exact rfl; (unfold maxLen; simp <;> omega); exact rfl; exact rfl; exact rfl; exact rfl))
      have hin : o.map encFct ++ [[D.int .i64 l[i].pred, D.slice 1 (l[i].args.map encI)]] = (o.take o.length ++ l[i] :: o.drop o.length).map encFct := by
        rw [List.take_of_length_le (Nat.le_refl _), List.drop_of_length_le (Nat.le_refl _), List.map_append]; rfl
      rw [hin]
      refine ds_loop (ι := Nat × List Fct) (fun x => ⟨2, [(0, .d (.slice 2 (l.map encFct))), (3, .row 1), (4, .d (.int .i64 i)), (5, .d (.int .i64 x.1))], [(1, .row 95 2 (x.2.map encFct))]⟩)
        (fun x => x.1 ≤ o.length ∧ kFrom o l[i] o.length = kFrom o l[i] x.1 ∧ ∃ y, x.2 = o.take x.1 ++ y :: o.drop x.1) (fun x => x.1) (o.length, o.take o.length ++ l[i] :: o.drop o.length) ⟨Nat.le_refl _, rfl, _, rfl⟩
        (by rw [lo]; exact ent_ren id ⟨rfl, rfl, rfl, rfl, trivial⟩ ⟨rfl, trivial⟩ rfl rfl rfl rfl rfl rfl) ?_
      rintro ⟨k, o'⟩ ⟨e1, e2, y, e3⟩
      dsimp only at e1 e2 e3 ⊢
      have lo' : (o'.map encFct).length = o'.length := List.length_map _
      have ho' : o'.length = o.length + 1 := by rw [e3]; simp; omega
      cases k with
      | zero =>
        repeat' (first | (apply ds_evC; exact rfl; (first | (with_reducible exact trivial) | omega); (first | ((with_reducible apply hv_prow); (exact nat_lit_0)) | ((with_reducible apply hv_row); (exact rfl); (omega)) | (with_reducible exact rfl)); exact rfl; exact rfl; exact rfl) | apply ds_nil | (apply ds_stP; exact rfl; exact rfl; (apply hv_get; (omega)); exact rfl; exact rfl; (exact hv_set rfl); exact rfl; exact rfl; exact rfl; exact rfl; exact rfl; exact rfl) | (apply dt_ev; exact rfl; exact rfl; (with_reducible exact trivial); (with_reducible exact rfl); exact rfl; exact rfl; exact rfl; exact rfl) | (apply dt_skipD; exact rfl; exact rfl; exact rfl) | (apply dt_nil0; exact rfl; exact rfl; exact rfl; exact rfl) | apply dw_seq2 | (apply ds_region; exact rfl) | (apply dw_any; kernel_rfl; kernel_rfl; exact rfl; exact rfl) | apply dw_exit | (apply dw_condF; exact rfl) | apply thenD_n | apply thenD_e | apply inB_n | (apply inB_e; exact rfl))
        all_goals try (exfalso; omega)
        refine ⟨(i + 1, o'.set 0 l[i]), ⟨by dsimp only; omega, ?_⟩, ent_ren (fun _ => 1) ⟨rfl, rfl, rfl, trivial⟩ ⟨rfl, trivial⟩ rfl rfl rfl rfl rfl rfl, by show l.length - (i + 1) < l.length - i; omega⟩
        dsimp only
        rw [hstep, e2, e3, shift_end e1]
        rfl
      | succ k =>
        have hk : o'[k]'(by omega) = o[k]'(by omega) := by
          have := shift_get (l := o) (y := y) (k := k) (by omega)
          rw [← e3, List.getElem?_eq_getElem (by omega)] at this
          injection this
        have w := orderOf_fn (o'[k]'(by omega)) l[i]
        rw [kFrom_succ (by omega), ← hk] at e2
        repeat' (first | (apply ds_evC; exact rfl; (first | (with_reducible exact trivial) | omega); (first | ((with_reducible apply hv_prow); (first | exact nat_sub_1 _ | exact nat_add_1 _)) | ((with_reducible apply hv_ldrow); (apply hv_get; (omega)); exact rfl) | ((with_reducible apply hv_row); (exact rfl); (omega)) | (with_reducible exact rfl)); exact rfl; exact rfl; exact rfl) | apply ds_nil | (apply ds_stP; exact rfl; exact rfl; (apply hv_get; (omega)); exact rfl; exact rfl; (exact hv_set rfl); exact rfl; exact rfl; exact rfl; exact rfl; exact rfl; exact rfl) | (apply dt_ev; exact rfl; exact rfl; (first | (with_reducible exact trivial) | omega); (first | ((with_reducible apply hv_prow); (exact nat_sub_1 _)) | ((with_reducible apply hv_ldrow); (apply hv_get; (omega)); exact rfl) | ((with_reducible apply hv_row); (exact rfl); (omega)) | (with_reducible exact rfl)); exact rfl; exact rfl; exact rfl; exact rfl) | (apply dt_skipD; exact rfl; exact rfl; exact rfl) | (apply dt_nil0; exact rfl; exact rfl; exact rfl; exact rfl) | apply dw_seq2 | (apply ds_region; exact rfl) | (apply dw_any; kernel_rfl; kernel_rfl; exact rfl; exact rfl) | apply dw_block | apply dw_skip | apply dw_exit | (apply dw_condF; exact rfl) | apply thenD_n | apply thenD_e | apply inB_n | (apply inB_e; exact rfl) | (apply dt_call; exact rfl; exact rfl; apply w; exact rfl; (exact rfl); exact rfl; exact rfl; exact ⟨_, rfl⟩; rintro _ rfl) | (apply dw_condP; exact rfl; all_goals intro hg) | ((fail_if_success (apply dt_known; exact rfl)); apply dt_guardP; exact rfl; exact rfl; exact rfl; all_goals intro hg))
        all_goals try (exfalso; omega)
        · rw [if_pos (by assumption)] at e2
          simp only [nat_sub_1]
          refine ⟨(k, o'.set (k + 1) (o'[k]'(by omega))), ⟨by dsimp only; omega, e2, o'[k]'(by omega), ?_⟩, ent_ren id ⟨rfl, rfl, rfl, rfl, trivial⟩ ⟨rfl, trivial⟩ rfl rfl rfl rfl rfl rfl, by show k < k + 1; omega⟩
          have h5 := shift_step (l := o) (y := y) (k := k) (by omega)
          rw [← e3] at h5
          dsimp only
          rw [hk]
          exact h5
        · rw [if_neg (by assumption)] at e2
          refine ⟨(i + 1, o'.set (k + 1) l[i]), ⟨by dsimp only; omega, ?_⟩, ent_ren (fun _ => 1) ⟨rfl, rfl, rfl, trivial⟩ ⟨rfl, trivial⟩ rfl rfl rfl rfl rfl rfl, by show l.length - (i + 1) < l.length - i; omega⟩
          dsimp only
          rw [hstep, e2, e3, shift_end e1]
  · repeat' (first | (apply ds_evC; exact rfl; (first | (with_reducible exact trivial) | omega); (first | ((with_reducible apply hv_row); (exact rfl); (omega)) | (with_reducible exact rfl)); exact rfl; exact rfl; exact rfl) | apply ds_nil | apply dw_seq2 | (apply ds_region; exact rfl) | apply dw_block | apply dw_skip | apply dw_exit | apply thenD_n | apply thenD_e | (apply inB_e; exact rfl) | (apply dw_condP; exact rfl; all_goals intro hg))
    all_goals try (exfalso; omega)
    refine dw_ent (ent_seal 2 rfl rfl rfl) ?_
    repeat' (apply dw_ret)
    have : o = setF' l := by rw [g2, List.take_of_length_le (by omega)]; rfl
    rw [← this]
    exact ⟨.inl rfl, _, rfl, rfl, rfl⟩
end Go.Proofs.YtapciiffpnociabGreat
