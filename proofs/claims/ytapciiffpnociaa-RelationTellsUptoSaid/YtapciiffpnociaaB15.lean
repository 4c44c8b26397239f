/- Several texts in one: RelC RelM RelY RelT RelIn GxUpt. Condition: none. -/
import Derived.Test.YtapciiffpnociaaB14
import Derived.Test.YtapciiffpnociaaB11
import Derived.Test.YtapciiffpnociaaRows

/- The document's MatchOf. Condition: none. -/
namespace Go.Proofs.Ytapciiffpnociaa
open Go Go.RowKit
attribute [local irreducible] DW DS DL DQ Ev FnOk FnP thenD inBlockD DT
def encBm (b : Bool) : List D := [.bool b]
def allFrom (P : Nat → Bool) : Nat → Nat → Bool
  | _, 0 => true
  | k, n + 1 => P k && allFrom P (k + 1) n
theorem allFrom_step {P : Nat → Bool} {n k : Nat} (h : k < n) : allFrom P k (n - k) = (P k && allFrom P (k + 1) (n - (k + 1))) := by
  rw [show n - k = (n - (k + 1)) + 1 by omega]; rfl
def matchK (args : List Int) (bound : List Bool) (x : Fct) (k : Nat) : Bool := decide (bound.length ≤ k) || (!bound.getD k false || decide (x.args.getD k 0 = args.getD k 0))
def matchB (pred : Int) (args : List Int) (bound : List Bool) (x : Fct) : Bool := (decide (x.pred = pred) && decide ((x.args.length : Int) = (args.length : Int))) && allFrom (matchK args bound x) 0 args.length
def matchL (l : List Fct) (pred : Int) (args : List Int) (bound : List Bool) : List Fct := l.filter (matchB pred args bound)

set_option maxHeartbeats 8000000 in
theorem matchOf_fn (l : List Fct) (pred : Int) (args : List Int) (bound : List Bool) (hl : l.length ≤ 4398046511104) :
    Fn 64 [.d (.slice 2 (l.map encFct)), .d (.int .i64 pred), .d (.slice 1 (args.map encI)), .d (.slice 1 (bound.map encBm))] (fun r => r = .d (.slice 2 ((setF' (matchL l pred args bound)).map encFct))) := by
  refine fnp_enter' _ Try.func64 rfl rfl (by kernel_rfl) ?_
  intro O w0 E0 β0
  have la : (l.map encFct).length = l.length := List.length_map _
  have lb : (args.map encI).length = args.length := List.length_map _
  have lc : (bound.map encBm).length = bound.length := List.length_map _
  have hfl := List.length_filter_le (matchB pred args bound) l
  have w := setOf_fn (matchL l pred args bound) (by unfold matchL; omega)
  refine dw_len (t := 2) rfl (fun hk2 => ?_)
  repeat' (first | (apply ds_evC; exact rfl; (with_reducible exact trivial); (with_reducible exact rfl); exact rfl; exact rfl; exact rfl) | apply ds_nil | apply dw_seq2 | (apply ds_region; exact rfl) | apply dw_block | apply thenD_n)
  refine dw_ent (ent_nilrow (t := 9) 89 2 rfl) ?_
  refine ds_loop (ι := Nat × List Fct) (fun x => ⟨1, [(0, .d (.slice 2 (l.map encFct))), (1, .d (.int .i64 pred)), (2, .d (.slice 1 (args.map encI))), (3, .d (.slice 1 (bound.map encBm))), (9, .row 0), (10, .d (.int .i64 x.1))], [(0, .row 89 2 (x.2.map encFct))]⟩)
    (fun x => x.1 ≤ l.length ∧ x.2 = (l.take x.1).filter (matchB pred args bound)) (fun x => l.length - x.1) (0, []) ⟨Nat.zero_le _, rfl⟩ (ent_ren id ⟨rfl, rfl, rfl, rfl, rfl, rfl, trivial⟩ ⟨rfl, trivial⟩ rfl rfl rfl rfl rfl rfl) ?_
  rintro ⟨i, o⟩ ⟨g1, g2⟩
  dsimp only at g1 g2 ⊢
  have lo : (o.map encFct).length = o.length := List.length_map _
  have hol : o.length ≤ i := by
    have := List.length_filter_le (matchB pred args bound) (l.take i)
    rw [← g2] at this
    simp at this
    omega
  by_cases hi : i < l.length
  · have hstep : (l.take (i + 1)).filter (matchB pred args bound) = o ++ [l[i]].filter (matchB pred args bound) := by rw [List.take_succ_eq_append_getElem hi, List.filter_append, ← g2]
    have lx : (l[i].args.map encI).length = l[i].args.length := List.length_map _
    have hb : ∃ b : Bool, (decide (l[i].pred = pred) && decide ((l[i].args.length : Int) = (args.length : Int))) = b := ⟨_, rfl⟩
    obtain ⟨base, hbase⟩ := hb
    have hm : matchB pred args bound l[i] = (base && allFrom (matchK args bound l[i]) 0 args.length) := by unfold matchB; rw [hbase]
    have hbt : base = true → l[i].args.length = args.length := by
      intro h
      rw [h, Bool.and_eq_true] at hbase
      have := of_decide_eq_true hbase.2
      omega
    repeat' ((fail_if_success (apply dw_stop 2)); (first | (apply ds_evC; exact rfl; (first | (with_reducible exact trivial) | omega); (first | ((with_reducible apply hv_row); (exact rfl); (omega)) | (with_reducible exact rfl)); exact rfl; exact rfl; exact rfl) | (apply ds_skip; exact rfl; exact rfl) | apply ds_nil | apply dw_seq2 | (apply ds_region; exact rfl) | apply dw_block | apply dw_skip | apply dw_exit | apply thenD_n | apply thenD_e | (apply inB_e; exact rfl) | (apply dw_condP; exact rfl; all_goals intro hg) | ((fail_if_success (apply ds_known; exact rfl)); apply ds_guardP; exact rfl; exact rfl; exact rfl; all_goals intro hg)))
    all_goals try (exfalso; omega)
    · have hpe : l[i].pred = pred := by assumption
      have hb1 : decide (((l[i].args.map encI).length : Int) = ((args.map encI).length : Int)) = base := by rw [← hbase, decide_eq_true hpe, Bool.true_and, lx, lb]
      rw [hb1]
      refine dw_ent (ent_ren (k' := 1) (L' := [(0, .d (.slice 2 (l.map encFct))), (1, .d (.int .i64 pred)), (2, .d (.slice 1 (args.map encI))), (3, .d (.slice 1 (bound.map encBm))), (9, .row 0), (10, .d (.int .i64 i)), (11, .d (.bool base)), (12, .d (.int .i64 0))]) (H' := [(0, .row 89 2 (o.map encFct))]) id ⟨rfl, rfl, rfl, rfl, rfl, rfl, rfl, rfl, trivial⟩ ⟨rfl, trivial⟩ rfl rfl rfl rfl rfl rfl) ?_
      clear hb1
      repeat' fail
      refine ds_loop (ι := Nat × Bool) (fun x => ⟨1, [(0, .d (.slice 2 (l.map encFct))), (1, .d (.int .i64 pred)), (2, .d (.slice 1 (args.map encI))), (3, .d (.slice 1 (bound.map encBm))), (9, .row 0), (10, .d (.int .i64 i)), (11, .d (.bool x.2)), (12, .d (.int .i64 x.1))], [(0, .row 89 2 (o.map encFct))]⟩)
        (fun x => x.1 ≤ args.length ∧ (x.2 = true → l[i].args.length = args.length) ∧ matchB pred args bound l[i] = (x.2 && allFrom (matchK args bound l[i]) x.1 (args.length - x.1))) (fun x => args.length - x.1) (0, base) ⟨Nat.zero_le _, hbt, hm⟩ (ent_ren id ⟨rfl, rfl, rfl, rfl, rfl, rfl, rfl, rfl, trivial⟩ ⟨rfl, trivial⟩ rfl rfl rfl rfl rfl rfl) ?_
      rintro ⟨k, ok⟩ ⟨e1, e2, e3⟩
      dsimp only at e1 e2 e3 ⊢
      by_cases hk : k < args.length ∧ ok = true
      · obtain ⟨hk, rfl⟩ := hk
        have hlen := e2 rfl
        rw [allFrom_step hk, Bool.true_and] at e3
        have ha : args.getD k 0 = args[k] := by rw [List.getD, List.getElem?_eq_getElem hk]; rfl
        have hx : l[i].args.getD k 0 = l[i].args[k]'(by omega) := by rw [List.getD, List.getElem?_eq_getElem (by omega)]; rfl
        have hmk : matchK args bound l[i] k = (decide (bound.length ≤ k) || (!bound.getD k false || decide (l[i].args[k]'(by omega) = args[k]))) := by unfold matchK; rw [ha, hx]
        by_cases hbk : bound.length ≤ k
        · rw [decide_eq_true hbk, Bool.true_or] at hmk
          rw [hmk, Bool.true_and] at e3
          repeat' (first | (apply ds_evC; exact rfl; (first | (with_reducible exact trivial) | omega); (first | ((with_reducible apply hv_row); (exact rfl); (omega)) | (with_reducible exact rfl)); exact rfl; exact rfl; exact rfl) | (apply ds_skip; exact rfl; exact rfl) | apply ds_nil | (apply dt_ev; exact rfl; exact rfl; (first | (with_reducible exact trivial) | omega); (first | ((with_reducible apply hv_row); (exact rfl); (omega)) | (with_reducible exact rfl)); exact rfl; exact rfl; exact rfl; exact rfl) | (apply dt_skipD; exact rfl; exact rfl; exact rfl) | (apply dt_nil0; exact rfl; exact rfl; exact rfl; exact rfl) | apply dw_seq2 | (apply ds_region; exact rfl) | (apply dw_any; kernel_rfl; kernel_rfl; exact rfl; exact rfl) | apply dw_block | apply dw_skip | apply dw_exit | (apply dw_condT; exact rfl) | (apply dw_condF; exact rfl) | apply thenD_n | apply thenD_e | apply inB_n | (apply inB_e; exact rfl) | (apply ds_bsC; exact rfl; exact rfl; exact rfl; exact rfl) | (apply ds_tradeC; exact rfl; (omega); exact rfl; exact rfl; exact rfl; exact rfl) | ((fail_if_success (apply ds_known; exact rfl)); apply ds_guardP; exact rfl; exact rfl; exact rfl; all_goals intro hg) | ((fail_if_success (apply dt_known; exact rfl)); apply dt_guardP; exact rfl; exact rfl; exact rfl; all_goals intro hg) | ((fail_if_success (apply dt_known; exact rfl)); apply dt_guard; exact rfl; exact rfl; exact rfl; all_goals intro hg))
          all_goals try (exfalso; omega)
          all_goals exact ⟨(k + 1, true), ⟨by dsimp only; omega, fun _ => hlen, by dsimp only; rw [e3, Bool.true_and]⟩, ent_ren id ⟨rfl, rfl, rfl, rfl, rfl, rfl, rfl, rfl, trivial⟩ ⟨rfl, trivial⟩ rfl rfl rfl rfl rfl rfl, by show args.length - (k + 1) < args.length - k; omega⟩
        · have hbg : bound.getD k false = bound[k]'(by omega) := by rw [List.getD, List.getElem?_eq_getElem (by omega)]; rfl
          rw [decide_eq_false hbk, Bool.false_or, hbg] at hmk
          cases hbb : bound[k]'(by omega) with
          | false =>
            rw [hbb, Bool.not_false, Bool.true_or] at hmk
            rw [hmk, Bool.true_and] at e3
            repeat' (first | (apply ds_evC; exact rfl; (first | (with_reducible exact trivial) | omega); (first | ((with_reducible apply hv_row); (exact rfl); (omega)) | (with_reducible exact rfl)); exact rfl; exact rfl; exact rfl) | (apply ds_skip; exact rfl; exact rfl) | apply ds_nil | (apply dt_ev; exact rfl; exact rfl; (first | (with_reducible exact trivial) | omega); (first | ((with_reducible apply hv_row); (exact rfl); (omega)) | (with_reducible exact rfl)); exact rfl; exact rfl; exact rfl; exact rfl) | (apply dt_skipD; exact rfl; exact rfl; exact rfl) | (apply dt_nil0; exact rfl; exact rfl; exact rfl; exact rfl) | apply dw_seq2 | (apply ds_region; exact rfl) | (apply dw_any; kernel_rfl; kernel_rfl; exact rfl; exact rfl) | apply dw_block | apply dw_skip | apply dw_exit | (apply dw_condT; exact rfl) | (apply dw_condF; exact rfl) | apply thenD_n | apply thenD_e | apply inB_n | (apply inB_e; exact rfl) | (apply ds_bsC; exact rfl; exact rfl; exact rfl; exact rfl) | (apply ds_tradeC; exact rfl; (omega); exact rfl; exact rfl; exact rfl; exact rfl) | ((fail_if_success (apply ds_known; exact rfl)); apply ds_guardP; exact rfl; exact rfl; exact rfl; all_goals intro hg) | ((fail_if_success (apply dt_known; exact rfl)); apply dt_guardP; exact rfl; exact rfl; exact rfl; all_goals intro hg) | ((fail_if_success (apply dt_known; exact rfl)); apply dt_guard; exact rfl; exact rfl; exact rfl; all_goals intro hg))
            all_goals try (exfalso; omega)
            all_goals first
              | (exfalso; simp_all; done)
              | exact ⟨(k + 1, true), ⟨by dsimp only; omega, fun _ => hlen, by dsimp only; rw [e3, Bool.true_and]⟩, ent_ren id ⟨rfl, rfl, rfl, rfl, rfl, rfl, rfl, rfl, trivial⟩ ⟨rfl, trivial⟩ rfl rfl rfl rfl rfl rfl, by show args.length - (k + 1) < args.length - k; omega⟩
          | true =>
            rw [hbb, Bool.not_true, Bool.false_or] at hmk
            rw [hmk] at e3
            repeat' (first | (apply ds_evC; exact rfl; (first | (with_reducible exact trivial) | omega); (first | ((with_reducible apply hv_row); (exact rfl); (omega)) | (with_reducible exact rfl)); exact rfl; exact rfl; exact rfl) | (apply ds_skip; exact rfl; exact rfl) | apply ds_nil | (apply dt_ev; exact rfl; exact rfl; (first | (with_reducible exact trivial) | omega); (first | ((with_reducible apply hv_row); (exact rfl); (omega)) | (with_reducible exact rfl)); exact rfl; exact rfl; exact rfl; exact rfl) | (apply dt_skipD; exact rfl; exact rfl; exact rfl) | (apply dt_nil0; exact rfl; exact rfl; exact rfl; exact rfl) | apply dw_seq2 | (apply ds_region; exact rfl) | (apply dw_any; kernel_rfl; kernel_rfl; exact rfl; exact rfl) | apply dw_block | apply dw_skip | apply dw_exit | (apply dw_condT; exact rfl) | (apply dw_condF; exact rfl) | apply thenD_n | apply thenD_e | apply inB_n | (apply inB_e; exact rfl) | (apply ds_bsC; exact rfl; exact rfl; exact rfl; exact rfl) | (apply ds_tradeC; exact rfl; (omega); exact rfl; exact rfl; exact rfl; exact rfl) | ((fail_if_success (apply ds_known; exact rfl)); apply ds_guardP; exact rfl; exact rfl; exact rfl; all_goals intro hg) | ((fail_if_success (apply dt_known; exact rfl)); apply dt_guardP; exact rfl; exact rfl; exact rfl; all_goals intro hg) | ((fail_if_success (apply dt_known; exact rfl)); apply dt_guard; exact rfl; exact rfl; exact rfl; all_goals intro hg))
            all_goals try (exfalso; omega)
            all_goals first
              | (exfalso; simp_all; done)
              | exact ⟨(k + 1, decide (l[i].args[k]'(by omega) = args[k])), ⟨by dsimp only; omega, fun _ => hlen, by dsimp only; rw [e3]⟩, ent_ren id ⟨rfl, rfl, rfl, rfl, rfl, rfl, rfl, rfl, trivial⟩ ⟨rfl, trivial⟩ rfl rfl rfl rfl rfl rfl, by show args.length - (k + 1) < args.length - k; omega⟩
      · have hex : matchB pred args bound l[i] = ok := by
          rw [e3]
          cases ok with
          | false => rfl
          | true =>
            have : ¬ k < args.length := fun h => hk ⟨h, rfl⟩
            rw [show args.length - k = 0 by omega]; rfl
        cases ok with
        | false =>
          have h1 : [l[i]].filter (matchB pred args bound) = [] := by simp [hex]
          rw [h1, List.append_nil] at hstep
          repeat' (first | (apply ds_evC; exact rfl; (first | (with_reducible exact trivial) | omega); (with_reducible exact rfl); exact rfl; exact rfl; exact rfl) | (apply ds_skip; exact rfl; exact rfl) | apply ds_nil | apply dw_seq2 | (apply ds_region; exact rfl) | apply dw_skip | apply dw_exit | (apply dw_condF; exact rfl) | apply thenD_n | apply thenD_e | apply inB_n | (apply inB_e; exact rfl) | ((fail_if_success (apply ds_known; exact rfl)); apply ds_guardP; exact rfl; exact rfl; exact rfl; all_goals intro hg))
          all_goals try (exfalso; omega)
          all_goals exact ⟨(i + 1, o), ⟨by dsimp only; omega, hstep.symm⟩, ent_ren id ⟨rfl, rfl, rfl, rfl, rfl, rfl, trivial⟩ ⟨rfl, trivial⟩ rfl rfl rfl rfl rfl rfl, by show l.length - (i + 1) < l.length - i; omega⟩
        | true =>
          have h1 : [l[i]].filter (matchB pred args bound) = [l[i]] := by simp [hex]
          rw [h1] at hstep
          have hk' : ¬ k < args.length := fun h => hk ⟨h, rfl⟩
          repeat' (first | (apply ds_evC; exact rfl; (first | (with_reducible exact trivial) | omega); (first | ((with_reducible apply hv_row); (exact rfl); (omega)) | (with_reducible exact rfl)); exact rfl; exact rfl; exact rfl) | (apply ds_skip; exact rfl; exact rfl) | apply ds_nil | (apply dt_ev; exact rfl; exact rfl; (first | (with_reducible exact trivial) | omega); (first | ((with_reducible apply hv_row); (exact rfl); (omega)) | (with_reducible exact rfl)); exact rfl; exact rfl; exact rfl; exact rfl) | (apply dt_skipD; exact rfl; exact rfl; exact rfl) | (apply dt_nil0; exact rfl; exact rfl; exact rfl; exact rfl) | apply dw_seq2 | (apply ds_region; exact rfl) | (apply dw_any; kernel_rfl; kernel_rfl; exact rfl; exact rfl) | apply dw_block | apply dw_skip | apply dw_exit | (apply dw_condT; exact rfl) | (apply dw_condF; exact rfl) | apply thenD_n | apply thenD_e | apply inB_n | (apply inB_e; exact rfl) | (apply ds_bsC; exact rfl; exact rfl; exact rfl; exact rfl) | (apply ds_tradeC; exact rfl; (unfold maxLen; simp <;> omega); exact rfl; exact rfl; exact rfl; exact rfl) | ((fail_if_success (apply ds_known; exact rfl)); apply ds_guardP; exact rfl; exact rfl; exact rfl; all_goals intro hg) | ((fail_if_success (apply dt_known; exact rfl)); apply dt_guardP; exact rfl; exact rfl; exact rfl; all_goals intro hg) | ((fail_if_success (apply dt_known; exact rfl)); apply dt_guard; exact rfl; exact rfl; exact rfl; all_goals intro hg))
          all_goals try (exfalso; omega)
          refine ⟨(i + 1, o ++ [l[i]]), ⟨by dsimp only; omega, hstep.symm⟩, ?_, by show l.length - (i + 1) < l.length - i; omega⟩
          dsimp only
          rw [List.map_append]
          exact ent_ren (fun _ => 1) ⟨rfl, rfl, rfl, rfl, rfl, rfl, trivial⟩ ⟨rfl, trivial⟩ rfl rfl rfl rfl rfl rfl
    · have hpe : ¬ l[i].pred = pred := by assumption
      have hb1 : false = base := by rw [← hbase, decide_eq_false hpe, Bool.false_and]
      refine dw_ent (ent_ren (k' := 1) (L' := [(0, .d (.slice 2 (l.map encFct))), (1, .d (.int .i64 pred)), (2, .d (.slice 1 (args.map encI))), (3, .d (.slice 1 (bound.map encBm))), (9, .row 0), (10, .d (.int .i64 i)), (11, .d (.bool base)), (12, .d (.int .i64 0))]) (H' := [(0, .row 89 2 (o.map encFct))]) id (by rw [← hb1]; exact ⟨rfl, rfl, rfl, rfl, rfl, rfl, rfl, rfl, trivial⟩) ⟨rfl, trivial⟩ rfl rfl rfl rfl rfl rfl) ?_
      clear hb1
      repeat' fail
      refine ds_loop (ι := Nat × Bool) (fun x => ⟨1, [(0, .d (.slice 2 (l.map encFct))), (1, .d (.int .i64 pred)), (2, .d (.slice 1 (args.map encI))), (3, .d (.slice 1 (bound.map encBm))), (9, .row 0), (10, .d (.int .i64 i)), (11, .d (.bool x.2)), (12, .d (.int .i64 x.1))], [(0, .row 89 2 (o.map encFct))]⟩)
        (fun x => x.1 ≤ args.length ∧ (x.2 = true → l[i].args.length = args.length) ∧ matchB pred args bound l[i] = (x.2 && allFrom (matchK args bound l[i]) x.1 (args.length - x.1))) (fun x => args.length - x.1) (0, base) ⟨Nat.zero_le _, hbt, hm⟩ (ent_ren id ⟨rfl, rfl, rfl, rfl, rfl, rfl, rfl, rfl, trivial⟩ ⟨rfl, trivial⟩ rfl rfl rfl rfl rfl rfl) ?_
      rintro ⟨k, ok⟩ ⟨e1, e2, e3⟩
      dsimp only at e1 e2 e3 ⊢
      by_cases hk : k < args.length ∧ ok = true
      · obtain ⟨hk, rfl⟩ := hk
        have hlen := e2 rfl
        rw [allFrom_step hk, Bool.true_and] at e3
        have ha : args.getD k 0 = args[k] := by rw [List.getD, List.getElem?_eq_getElem hk]; rfl
        have hx : l[i].args.getD k 0 = l[i].args[k]'(by omega) := by rw [List.getD, List.getElem?_eq_getElem (by omega)]; rfl
        have hmk : matchK args bound l[i] k = (decide (bound.length ≤ k) || (!bound.getD k false || decide (l[i].args[k]'(by omega) = args[k]))) := by unfold matchK; rw [ha, hx]
        by_cases hbk : bound.length ≤ k
        · rw [decide_eq_true hbk, Bool.true_or] at hmk
          rw [hmk, Bool.true_and] at e3
          repeat' (first | (apply ds_evC; exact rfl; (first | (with_reducible exact trivial) | omega); (first | ((with_reducible apply hv_row); (exact rfl); (omega)) | (with_reducible exact rfl)); exact rfl; exact rfl; exact rfl) | (apply ds_skip; exact rfl; exact rfl) | apply ds_nil | (apply dt_ev; exact rfl; exact rfl; (first | (with_reducible exact trivial) | omega); (first | ((with_reducible apply hv_row); (exact rfl); (omega)) | (with_reducible exact rfl)); exact rfl; exact rfl; exact rfl; exact rfl) | (apply dt_skipD; exact rfl; exact rfl; exact rfl) | (apply dt_nil0; exact rfl; exact rfl; exact rfl; exact rfl) | apply dw_seq2 | (apply ds_region; exact rfl) | (apply dw_any; kernel_rfl; kernel_rfl; exact rfl; exact rfl) | apply dw_block | apply dw_skip | apply dw_exit | (apply dw_condT; exact rfl) | (apply dw_condF; exact rfl) | apply thenD_n | apply thenD_e | apply inB_n | (apply inB_e; exact rfl) | (apply ds_bsC; exact rfl; exact rfl; exact rfl; exact rfl) | (apply ds_tradeC; exact rfl; (omega); exact rfl; exact rfl; exact rfl; exact rfl) | ((fail_if_success (apply ds_known; exact rfl)); apply ds_guardP; exact rfl; exact rfl; exact rfl; all_goals intro hg) | ((fail_if_success (apply dt_known; exact rfl)); apply dt_guardP; exact rfl; exact rfl; exact rfl; all_goals intro hg) | ((fail_if_success (apply dt_known; exact rfl)); apply dt_guard; exact rfl; exact rfl; exact rfl; all_goals intro hg))
          all_goals try (exfalso; omega)
          all_goals exact ⟨(k + 1, true), ⟨by dsimp only; omega, fun _ => hlen, by dsimp only; rw [e3, Bool.true_and]⟩, ent_ren id ⟨rfl, rfl, rfl, rfl, rfl, rfl, rfl, rfl, trivial⟩ ⟨rfl, trivial⟩ rfl rfl rfl rfl rfl rfl, by show args.length - (k + 1) < args.length - k; omega⟩
        · have hbg : bound.getD k false = bound[k]'(by omega) := by rw [List.getD, List.getElem?_eq_getElem (by omega)]; rfl
          rw [decide_eq_false hbk, Bool.false_or, hbg] at hmk
          cases hbb : bound[k]'(by omega) with
          | false =>
            rw [hbb, Bool.not_false, Bool.true_or] at hmk
            rw [hmk, Bool.true_and] at e3
            repeat' (first | (apply ds_evC; exact rfl; (first | (with_reducible exact trivial) | omega); (first | ((with_reducible apply hv_row); (exact rfl); (omega)) | (with_reducible exact rfl)); exact rfl; exact rfl; exact rfl) | (apply ds_skip; exact rfl; exact rfl) | apply ds_nil | (apply dt_ev; exact rfl; exact rfl; (first | (with_reducible exact trivial) | omega); (first | ((with_reducible apply hv_row); (exact rfl); (omega)) | (with_reducible exact rfl)); exact rfl; exact rfl; exact rfl; exact rfl) | (apply dt_skipD; exact rfl; exact rfl; exact rfl) | (apply dt_nil0; exact rfl; exact rfl; exact rfl; exact rfl) | apply dw_seq2 | (apply ds_region; exact rfl) | (apply dw_any; kernel_rfl; kernel_rfl; exact rfl; exact rfl) | apply dw_block | apply dw_skip | apply dw_exit | (apply dw_condT; exact rfl) | (apply dw_condF; exact rfl) | apply thenD_n | apply thenD_e | apply inB_n | (apply inB_e; exact rfl) | (apply ds_bsC; exact rfl; exact rfl; exact rfl; exact rfl) | (apply ds_tradeC; exact rfl; (omega); exact rfl; exact rfl; exact rfl; exact rfl) | ((fail_if_success (apply ds_known; exact rfl)); apply ds_guardP; exact rfl; exact rfl; exact rfl; all_goals intro hg) | ((fail_if_success (apply dt_known; exact rfl)); apply dt_guardP; exact rfl; exact rfl; exact rfl; all_goals intro hg) | ((fail_if_success (apply dt_known; exact rfl)); apply dt_guard; exact rfl; exact rfl; exact rfl; all_goals intro hg))
            all_goals try (exfalso; omega)
            all_goals first
              | (exfalso; simp_all; done)
              | exact ⟨(k + 1, true), ⟨by dsimp only; omega, fun _ => hlen, by dsimp only; rw [e3, Bool.true_and]⟩, ent_ren id ⟨rfl, rfl, rfl, rfl, rfl, rfl, rfl, rfl, trivial⟩ ⟨rfl, trivial⟩ rfl rfl rfl rfl rfl rfl, by show args.length - (k + 1) < args.length - k; omega⟩
          | true =>
            rw [hbb, Bool.not_true, Bool.false_or] at hmk
            rw [hmk] at e3
            repeat' (first | (apply ds_evC; exact rfl; (first | (with_reducible exact trivial) | omega); (first | ((with_reducible apply hv_row); (exact rfl); (omega)) | (with_reducible exact rfl)); exact rfl; exact rfl; exact rfl) | (apply ds_skip; exact rfl; exact rfl) | apply ds_nil | (apply dt_ev; exact rfl; exact rfl; (first | (with_reducible exact trivial) | omega); (first | ((with_reducible apply hv_row); (exact rfl); (omega)) | (with_reducible exact rfl)); exact rfl; exact rfl; exact rfl; exact rfl) | (apply dt_skipD; exact rfl; exact rfl; exact rfl) | (apply dt_nil0; exact rfl; exact rfl; exact rfl; exact rfl) | apply dw_seq2 | (apply ds_region; exact rfl) | (apply dw_any; kernel_rfl; kernel_rfl; exact rfl; exact rfl) | apply dw_block | apply dw_skip | apply dw_exit | (apply dw_condT; exact rfl) | (apply dw_condF; exact rfl) | apply thenD_n | apply thenD_e | apply inB_n | (apply inB_e; exact rfl) | (apply ds_bsC; exact rfl; exact rfl; exact rfl; exact rfl) | (apply ds_tradeC; exact rfl; (omega); exact rfl; exact rfl; exact rfl; exact rfl) | ((fail_if_success (apply ds_known; exact rfl)); apply ds_guardP; exact rfl; exact rfl; exact rfl; all_goals intro hg) | ((fail_if_success (apply dt_known; exact rfl)); apply dt_guardP; exact rfl; exact rfl; exact rfl; all_goals intro hg) | ((fail_if_success (apply dt_known; exact rfl)); apply dt_guard; exact rfl; exact rfl; exact rfl; all_goals intro hg))
            all_goals try (exfalso; omega)
            all_goals first
              | (exfalso; simp_all; done)
              | exact ⟨(k + 1, decide (l[i].args[k]'(by omega) = args[k])), ⟨by dsimp only; omega, fun _ => hlen, by dsimp only; rw [e3]⟩, ent_ren id ⟨rfl, rfl, rfl, rfl, rfl, rfl, rfl, rfl, trivial⟩ ⟨rfl, trivial⟩ rfl rfl rfl rfl rfl rfl, by show args.length - (k + 1) < args.length - k; omega⟩
      · have hex : matchB pred args bound l[i] = ok := by
          rw [e3]
          cases ok with
          | false => rfl
          | true =>
            have : ¬ k < args.length := fun h => hk ⟨h, rfl⟩
            rw [show args.length - k = 0 by omega]; rfl
        cases ok with
        | false =>
          have h1 : [l[i]].filter (matchB pred args bound) = [] := by simp [hex]
          rw [h1, List.append_nil] at hstep
          repeat' (first | (apply ds_evC; exact rfl; (first | (with_reducible exact trivial) | omega); (with_reducible exact rfl); exact rfl; exact rfl; exact rfl) | (apply ds_skip; exact rfl; exact rfl) | apply ds_nil | apply dw_seq2 | (apply ds_region; exact rfl) | apply dw_skip | apply dw_exit | (apply dw_condF; exact rfl) | apply thenD_n | apply thenD_e | apply inB_n | (apply inB_e; exact rfl) | ((fail_if_success (apply ds_known; exact rfl)); apply ds_guardP; exact rfl; exact rfl; exact rfl; all_goals intro hg))
          all_goals try (exfalso; omega)
          all_goals exact ⟨(i + 1, o), ⟨by dsimp only; omega, hstep.symm⟩, ent_ren id ⟨rfl, rfl, rfl, rfl, rfl, rfl, trivial⟩ ⟨rfl, trivial⟩ rfl rfl rfl rfl rfl rfl, by show l.length - (i + 1) < l.length - i; omega⟩
        | true =>
          have h1 : [l[i]].filter (matchB pred args bound) = [l[i]] := by simp [hex]
          rw [h1] at hstep
          have hk' : ¬ k < args.length := fun h => hk ⟨h, rfl⟩
          repeat' (first | (apply ds_evC; exact rfl; (first | (with_reducible exact trivial) | omega); (first | ((with_reducible apply hv_row); (exact rfl); (omega)) | (with_reducible exact rfl)); exact rfl; exact rfl; exact rfl) | (apply ds_skip; exact rfl; exact rfl) | apply ds_nil | (apply dt_ev; exact rfl; exact rfl; (first | (with_reducible exact trivial) | omega); (first | ((with_reducible apply hv_row); (exact rfl); (omega)) | (with_reducible exact rfl)); exact rfl; exact rfl; exact rfl; exact rfl) | (apply dt_skipD; exact rfl; exact rfl; exact rfl) | (apply dt_nil0; exact rfl; exact rfl; exact rfl; exact rfl) | apply dw_seq2 | (apply ds_region; exact rfl) | (apply dw_any; kernel_rfl; kernel_rfl; exact rfl; exact rfl) | apply dw_block | apply dw_skip | apply dw_exit | (apply dw_condT; exact rfl) | (apply dw_condF; exact rfl) | apply thenD_n | apply thenD_e | apply inB_n | (apply inB_e; exact rfl) | (apply ds_bsC; exact rfl; exact rfl; exact rfl; exact rfl) | (apply ds_tradeC; exact rfl; (unfold maxLen; simp <;> omega); exact rfl; exact rfl; exact rfl; exact rfl) | ((fail_if_success (apply ds_known; exact rfl)); apply ds_guardP; exact rfl; exact rfl; exact rfl; all_goals intro hg) | ((fail_if_success (apply dt_known; exact rfl)); apply dt_guardP; exact rfl; exact rfl; exact rfl; all_goals intro hg) | ((fail_if_success (apply dt_known; exact rfl)); apply dt_guard; exact rfl; exact rfl; exact rfl; all_goals intro hg))
          all_goals try (exfalso; omega)
          refine ⟨(i + 1, o ++ [l[i]]), ⟨by dsimp only; omega, hstep.symm⟩, ?_, by show l.length - (i + 1) < l.length - i; omega⟩
          dsimp only
          rw [List.map_append]
          exact ent_ren (fun _ => 1) ⟨rfl, rfl, rfl, rfl, rfl, rfl, trivial⟩ ⟨rfl, trivial⟩ rfl rfl rfl rfl rfl rfl
  · have ho : o = matchL l pred args bound := by unfold matchL; rw [g2, List.take_of_length_le (by omega)]
    repeat' (first | (apply ds_evC; exact rfl; (first | (with_reducible exact trivial) | omega); (first | ((with_reducible apply hv_row); (exact rfl); (omega)) | (with_reducible exact rfl)); exact rfl; exact rfl; exact rfl) | (apply ds_skip; exact rfl; exact rfl) | apply ds_nil | apply dw_seq2 | (apply ds_region; exact rfl) | apply dw_block | apply dw_skip | apply dw_exit | apply thenD_n | apply thenD_e | (apply inB_e; exact rfl) | (apply dw_condP; exact rfl; all_goals intro hg) | ((fail_if_success (apply ds_known; exact rfl)); apply ds_guardP; exact rfl; exact rfl; exact rfl; all_goals intro hg))
    all_goals try (exfalso; omega)
    refine ds_ent (ent_seal 80 rfl rfl rfl) ?_
    rw [ho]
    repeat' (first | (apply ds_evC; exact rfl; (with_reducible exact trivial); (with_reducible exact rfl); exact rfl; exact rfl; exact rfl) | apply ds_nil | apply dw_ret | apply thenD_n | (apply ds_call; exact rfl; exact rfl; apply w; exact rfl; (exact rfl); exact rfl; rintro _ rfl))
    exact ⟨.inl rfl, _, rfl, rfl, rfl⟩
end Go.Proofs.Ytapciiffpnociaa

/- relation.Match's own test of a fact. Condition: none. -/
namespace Go.Proofs.Ytapciiffpnociaa
open Go Go.RowKit
attribute [local irreducible] DW DS DL DQ Ev FnOk FnP thenD inBlockD DT

set_option maxHeartbeats 8000000 in
theorem match1_fn (x : Fct) (pred : Int) (args : List Int) (bound : List Bool) : Fn 134 [elFct x, .pd [.int .i64 pred], .pd [.slice 1 (args.map encI)], .pd [.slice 1 (bound.map encBm)]] (fun r => r = .d (.bool (matchB pred args bound x))) := by
  refine fnp_enter' _ Try.func134 rfl rfl (by kernel_rfl) ?_
  intro O w0 E0 β0
  have lb : (args.map encI).length = args.length := List.length_map _
  have lc : (bound.map encBm).length = bound.length := List.length_map _
  have lx : (x.args.map encI).length = x.args.length := List.length_map _
  by_cases hp : x.pred = pred
  · by_cases hl : x.args.length = args.length
    · have hm : matchB pred args bound x = allFrom (matchK args bound x) 0 (args.length - 0) := by unfold matchB; rw [decide_eq_true hp, decide_eq_true (by omega)]; rfl
      rw [hm]
      repeat' (first | (apply ds_evC; exact rfl; (with_reducible exact trivial); (with_reducible exact rfl); exact rfl; exact rfl; exact rfl) | (apply ds_skip; exact rfl; exact rfl) | apply ds_nil | apply dw_seq2 | (apply ds_region; exact rfl) | apply dw_block | apply dw_skip | apply dw_ret | (apply dw_condT; exact rfl) | apply thenD_n | apply thenD_r | (apply ds_newC; exact rfl; (with_reducible exact trivial); exact rfl; exact rfl; exact rfl) | (apply dw_condP; exact rfl; all_goals intro hg) | ((fail_if_success (apply ds_known; exact rfl)); apply ds_guardP; exact rfl; exact rfl; exact rfl; all_goals intro hg))
      all_goals try (exfalso; omega)
      all_goals try (exfalso; simp_all; done)
      refine dw_len (t := 20) rfl (fun hk2 => ?_)
      refine ds_loop (ι := Nat) (fun i => ⟨1, [(1, .pd [.int .i64 pred]), (2, .pd [.slice 1 (args.map encI)]), (3, .pd [.slice 1 (bound.map encBm)]), (4, .loc 0 0), (20, .d (.slice 1 (args.map encI))), (21, .d (.int .i64 args.length)), (22, .d (.int .i64 i))], [(0, .blk 89 [.d (.int .i64 x.pred), .d (.slice 1 (x.args.map encI))])]⟩)
        (fun i => i ≤ args.length ∧ allFrom (matchK args bound x) 0 (args.length - 0) = allFrom (matchK args bound x) i (args.length - i)) (fun i => args.length - i) 0 ⟨Nat.zero_le _, rfl⟩ (ent_ren id ⟨rfl, rfl, rfl, rfl, rfl, by rw [← lb]; rfl, rfl, trivial⟩ ⟨rfl, trivial⟩ rfl rfl rfl rfl rfl rfl) ?_
      rintro i ⟨e1, e3⟩
      dsimp only at e1 e3 ⊢
      by_cases hk : i < args.length
      · rw [allFrom_step hk] at e3
        have ha : args.getD i 0 = args[i] := by rw [List.getD, List.getElem?_eq_getElem hk]; rfl
        have hx : x.args.getD i 0 = x.args[i]'(by omega) := by rw [List.getD, List.getElem?_eq_getElem (by omega)]; rfl
        have hmk : matchK args bound x i = (decide (bound.length ≤ i) || (!bound.getD i false || decide (x.args[i]'(by omega) = args[i]))) := by unfold matchK; rw [ha, hx]
        by_cases hbk : bound.length ≤ i
        · rw [decide_eq_true hbk, Bool.true_or] at hmk
          rw [hmk, Bool.true_and] at e3
          repeat' (first | (apply ds_evC; exact rfl; (first | (with_reducible exact trivial) | omega); (first | ((with_reducible apply hv_row); (exact rfl); (omega)) | (with_reducible exact rfl)); exact rfl; exact rfl; exact rfl) | (apply ds_skip; exact rfl; exact rfl) | apply ds_nil | apply dw_seq2 | (apply ds_region; exact rfl) | apply dw_block | apply dw_skip | apply dw_exit | apply dw_ret | (apply dw_condF; exact rfl) | apply thenD_n | apply thenD_e | apply thenD_r | apply inB_n | apply inB_r | (apply inB_e; exact rfl) | (apply dw_condP; exact rfl; all_goals intro hg) | ((fail_if_success (apply ds_known; exact rfl)); apply ds_guardP; exact rfl; exact rfl; exact rfl; all_goals intro hg) | ((fail_if_success (apply ds_known; exact rfl)); apply ds_guardB; exact rfl; exact rfl; exact rfl; all_goals intro hg))
          all_goals try (exfalso; omega)
          all_goals exact ⟨i + 1, ⟨by omega, e3⟩, ent_ren id ⟨rfl, rfl, rfl, rfl, rfl, rfl, rfl, trivial⟩ ⟨rfl, trivial⟩ rfl rfl rfl rfl rfl rfl, by omega⟩
        · have hbg : bound.getD i false = bound[i]'(by omega) := by rw [List.getD, List.getElem?_eq_getElem (by omega)]; rfl
          rw [decide_eq_false hbk, Bool.false_or, hbg] at hmk
          cases hbb : bound[i]'(by omega) with
          | false =>
            rw [hbb, Bool.not_false, Bool.true_or] at hmk
            rw [hmk, Bool.true_and] at e3
            repeat' (first | (apply ds_evC; exact rfl; (first | (with_reducible exact trivial) | omega); (first | ((with_reducible apply hv_row); (exact rfl); (omega)) | (with_reducible exact rfl)); exact rfl; exact rfl; exact rfl) | (apply ds_skip; exact rfl; exact rfl) | apply ds_nil | apply dw_seq2 | (apply ds_region; exact rfl) | apply dw_block | apply dw_skip | apply dw_exit | apply dw_ret | (apply dw_condF; exact rfl) | apply thenD_n | apply thenD_e | apply thenD_r | apply inB_n | apply inB_r | (apply inB_e; exact rfl) | (apply dw_condP; exact rfl; all_goals intro hg) | ((fail_if_success (apply ds_known; exact rfl)); apply ds_guardP; exact rfl; exact rfl; exact rfl; all_goals intro hg) | ((fail_if_success (apply ds_known; exact rfl)); apply ds_guardB; exact rfl; exact rfl; exact rfl; all_goals intro hg))
            all_goals try (exfalso; omega)
            all_goals try (exfalso; simp_all; done)
            all_goals exact ⟨i + 1, ⟨by omega, e3⟩, ent_ren id ⟨rfl, rfl, rfl, rfl, rfl, rfl, rfl, trivial⟩ ⟨rfl, trivial⟩ rfl rfl rfl rfl rfl rfl, by omega⟩
          | true =>
            rw [hbb, Bool.not_true, Bool.false_or] at hmk
            rw [hmk] at e3
            repeat' (first | (apply ds_evC; exact rfl; (first | (with_reducible exact trivial) | omega); (first | ((with_reducible apply hv_row); (exact rfl); (omega)) | (with_reducible exact rfl)); exact rfl; exact rfl; exact rfl) | (apply ds_skip; exact rfl; exact rfl) | apply ds_nil | apply dw_seq2 | (apply ds_region; exact rfl) | apply dw_block | apply dw_skip | apply dw_exit | apply dw_ret | (apply dw_condF; exact rfl) | apply thenD_n | apply thenD_e | apply thenD_r | apply inB_n | apply inB_r | (apply inB_e; exact rfl) | (apply dw_condP; exact rfl; all_goals intro hg) | ((fail_if_success (apply ds_known; exact rfl)); apply ds_guardP; exact rfl; exact rfl; exact rfl; all_goals intro hg) | ((fail_if_success (apply ds_known; exact rfl)); apply ds_guardB; exact rfl; exact rfl; exact rfl; all_goals intro hg))
            all_goals try (exfalso; omega)
            all_goals try (exfalso; simp_all; done)
            all_goals first
              | exact ⟨.inl rfl, _, rfl, rfl, congrArg (fun z => SV.d (.bool z)) (by rw [e3]; simp_all)⟩
              | exact ⟨i + 1, ⟨by omega, by rw [e3, decide_eq_true (by simp_all)]; rfl⟩, ent_ren id ⟨rfl, rfl, rfl, rfl, rfl, rfl, rfl, trivial⟩ ⟨rfl, trivial⟩ rfl rfl rfl rfl rfl rfl, by omega⟩
      · rw [e3, show args.length - i = 0 by omega]
        repeat' (first | (apply ds_evC; exact rfl; (first | (with_reducible exact trivial) | omega); (first | ((with_reducible apply hv_row); (exact rfl); (omega)) | (with_reducible exact rfl)); exact rfl; exact rfl; exact rfl) | (apply ds_skip; exact rfl; exact rfl) | apply ds_nil | apply dw_seq2 | (apply ds_region; exact rfl) | apply dw_block | apply dw_skip | apply dw_exit | apply dw_ret | (apply dw_condF; exact rfl) | apply thenD_n | apply thenD_e | apply thenD_r | apply inB_n | apply inB_r | (apply inB_e; exact rfl) | (apply dw_condP; exact rfl; all_goals intro hg) | ((fail_if_success (apply ds_known; exact rfl)); apply ds_guardP; exact rfl; exact rfl; exact rfl; all_goals intro hg) | ((fail_if_success (apply ds_known; exact rfl)); apply ds_guardB; exact rfl; exact rfl; exact rfl; all_goals intro hg))
        all_goals try (exfalso; omega)
        exact ⟨.inl rfl, _, rfl, rfl, rfl⟩
    · have hm : matchB pred args bound x = false := by unfold matchB; rw [decide_eq_false (p := (x.args.length : Int) = _) (by omega)]; simp
      rw [hm]
      repeat' (first | (apply ds_evC; exact rfl; (with_reducible exact trivial); (with_reducible exact rfl); exact rfl; exact rfl; exact rfl) | (apply ds_skip; exact rfl; exact rfl) | apply ds_nil | apply dw_seq2 | (apply ds_region; exact rfl) | apply dw_block | apply dw_skip | apply dw_ret | (apply dw_condT; exact rfl) | apply thenD_n | apply thenD_r | (apply ds_newC; exact rfl; (with_reducible exact trivial); exact rfl; exact rfl; exact rfl) | (apply dw_condP; exact rfl; all_goals intro hg) | ((fail_if_success (apply ds_known; exact rfl)); apply ds_guardP; exact rfl; exact rfl; exact rfl; all_goals intro hg))
      all_goals try (exfalso; omega)
      all_goals try (exfalso; simp_all; done)
      exact ⟨.inl rfl, _, rfl, rfl, rfl⟩
  · have hm : matchB pred args bound x = false := by unfold matchB; rw [decide_eq_false hp]; rfl
    rw [hm]
    repeat' (first | (apply ds_evC; exact rfl; (with_reducible exact trivial); (with_reducible exact rfl); exact rfl; exact rfl; exact rfl) | (apply ds_skip; exact rfl; exact rfl) | apply ds_nil | apply dw_seq2 | (apply ds_region; exact rfl) | apply dw_block | apply dw_skip | apply dw_ret | (apply dw_condT; exact rfl) | apply thenD_n | apply thenD_r | (apply ds_newC; exact rfl; (with_reducible exact trivial); exact rfl; exact rfl; exact rfl) | (apply dw_condP; exact rfl; all_goals intro hg) | ((fail_if_success (apply ds_known; exact rfl)); apply ds_guardP; exact rfl; exact rfl; exact rfl; all_goals intro hg))
    all_goals try (exfalso; omega)
    all_goals try (exfalso; simp_all; done)
    exact ⟨.inl rfl, _, rfl, rfl, rfl⟩
end Go.Proofs.Ytapciiffpnociaa

/- relation.Union, relation.Match. Condition: none. -/
namespace Go.Proofs.Ytapciiffpnociaa
open Go Go.RowKit
/-- A block of data that nothing turns from here on: what points to it points into data. -/
theorem ent_freezeL {Γ : Ctx} {k : Nat} {L : Sl} {H : Hp} (t i : Nat) {ty : TypeId} {ds : List D} (hL : L.get t = .loc i 0) (hH : Hp.get H i = some (.blk ty (ds.map .d))) : Ent Γ k L H k ((t, .pd ds) :: L) (Hp.del H i) := by
  intro e a w m
  obtain ⟨m2, hX⟩ := m.del i
  have hmem := Hp.mem_of hH
  refine ⟨e, m2.toHeap, m2.defers, m2.len, fun t' => ?_⟩
  rw [Sl.get_cons]
  split
  · rename_i ht
    subst ht
    have hs := m.slot t
    rw [hL] at hs
    obtain ⟨_, hv⟩ := hs
    obtain ⟨us, g1, g2, _⟩ := (m.heap _ hmem).2
    have hown : HB.owned e (i, .blk ty (ds.map .d)) = some (e.β i) := rfl
    refine ⟨e.β i, 0, hv, lt_of_heap g1, fun hx => ?_, fun j hj => ?_⟩
    · rcases hx with hx | hx
      · exact (m.mine _ (List.mem_filterMap.2 ⟨_, hmem, hown⟩)).2 hx
      · obtain ⟨p, hp, hpg⟩ := List.mem_filterMap.1 hx
        have hd := Hp.del_mem (i := i) H m.ids p hp
        exact m.owned_ne hd.1 hmem hd.2 hpg hown
    · obtain ⟨u, g3, g4⟩ := RelL.get _ _ g2 j (.d ds[j]) (by rw [List.getElem?_map, List.getElem?_eq_getElem hj]; rfl)
      refine ⟨u, ?_, RepC.keep (Nat.le_refl _) (fun _ _ _ => rfl) (fun b _ h => hX b h) g4⟩
      rw [cell_of_row w _ _ _ ty (0, 0) g1, Nat.zero_add]; simpa using g3
  · exact m2.slot t'
attribute [local irreducible] DW DS DL DQ Ev FnOk FnP thenD inBlockD DT

set_option maxHeartbeats 8000000 in
theorem union_fn (l m : List Fct) (hl : l.length + m.length ≤ 4398046511104) (ha : ∀ x ∈ l, x.args.length ≤ 17592186044416) (hb : ∀ x ∈ m, x.args.length ≤ 17592186044416) :
    Fn 59 [.d (.slice 2 (l.map encFct)), .d (.slice 2 (m.map encFct))] (fun r => r = .d (.slice 2 ((setF' (l ++ m)).map encFct))) := by
  refine fnp_enter' _ Try.func59 rfl rfl (by kernel_rfl) ?_
  intro O w0 E0 β0
  have hc : Fn 131 [.d (.slice 1 [[.slice 2 (l.map encFct)], [.slice 2 (m.map encFct)]])] (fun r => r = .d (.slice 2 ((l ++ m).map encFct))) := by
    have h := concat_fn [l, m] (by simpa using hl) (by simp)
    rw [show [l, m].flatten = l ++ m by simp] at h
    exact h
  have hs := set_fn (l ++ m) (by rw [List.length_append]; exact hl) (fun x hx => (List.mem_append.1 hx).elim (ha x) (hb x))
  repeat' (first | (apply ds_evC; exact rfl; (with_reducible exact trivial); (with_reducible exact rfl); exact rfl; exact rfl; exact rfl) | apply ds_nil | apply dw_seq2 | (apply ds_region; exact rfl) | apply dw_ret | apply thenD_n | (apply ds_call; exact rfl; exact rfl; apply hc; exact rfl; (exact rfl); exact rfl; rintro _ rfl) | (apply ds_call; exact rfl; exact rfl; apply hs; exact rfl; (exact rfl); exact rfl; rintro _ rfl) | (apply ds_bsC; exact rfl; exact rfl; exact rfl; exact rfl))
  exact ⟨.inl rfl, _, rfl, rfl, rfl⟩
set_option maxHeartbeats 8000000 in
theorem match_fn (l : List Fct) (pred : Int) (args : List Int) (bound : List Bool) (hl : l.length ≤ 4398046511104) (ha : ∀ x ∈ l, x.args.length ≤ 17592186044416) :
    Fn 63 [.d (.slice 2 (l.map encFct)), .d (.int .i64 pred), .d (.slice 1 (args.map encI)), .d (.slice 1 (bound.map encBm))] (fun r => r = .d (.slice 2 ((setF' (matchL l pred args bound)).map encFct))) := by
  refine fnp_enter' _ Try.func63 rfl rfl (by kernel_rfl) ?_
  intro O w0 E0 β0
  have hk := keepS_fn l 134 [.pd [.int .i64 pred], .pd [.slice 1 (args.map encI)], .pd [.slice 1 (bound.map encBm)]] (matchB pred args bound) rfl hl ha (fun x _ => match1_fn x pred args bound)
  repeat' ((fail_if_success (apply dw_stopS 1)); (first | (apply ds_evC; exact rfl; (with_reducible exact trivial); (with_reducible exact rfl); exact rfl; exact rfl; exact rfl) | apply ds_nil | apply dw_seq2 | (apply ds_region; exact rfl) | apply thenD_n | (apply ds_newC; exact rfl; (with_reducible exact trivial); exact rfl; exact rfl; exact rfl)))
  refine dw_ent (ent_freezeL (ds := [.int .i64 pred]) 5 0 rfl rfl) ?_
  refine dw_ent (ent_freezeL (ds := [.slice 1 (args.map encI)]) 6 1 rfl rfl) ?_
  refine dw_ent (ent_freezeL (ds := [.slice 1 (bound.map encBm)]) 7 2 rfl rfl) ?_
  repeat' (first | (apply ds_evC; exact rfl; (with_reducible exact trivial); (with_reducible exact rfl); exact rfl; exact rfl; exact rfl) | apply ds_nil | apply dw_seq2 | (apply ds_region; exact rfl) | apply dw_ret | apply thenD_n | (apply ds_call; exact rfl; exact rfl; apply hk; exact rfl; (exact rfl); exact rfl; rintro _ rfl))
  exact ⟨.inl rfl, _, rfl, rfl, rfl⟩
end Go.Proofs.Ytapciiffpnociaa

/- The law RelationTells. Condition: none. -/
namespace Go.Proofs.Ytapciiffpnociaa
open Go Go.RowKit
theorem hasF_set (m : List Fct) (x : Fct) : hasF (setF' m) x = hasF m x := by
  rw [Bool.eq_iff_iff, hasF_iff, hasF_iff, (setF_spec m).2]
theorem minus_same (l m : List Fct) : (l.filter fun x => !hasF (setF' m) x) = minusL l m := by
  unfold minusL
  exact List.filter_congr fun x _ => by rw [hasF_set]
theorem Fct.same_refl (x : Fct) : Fct.same x x = true := by unfold Fct.same; simp [ordF_self]
attribute [local irreducible] DW DS DL DQ Ev FnOk FnP thenD inBlockD DT

theorem sameSelf_fn (l : List Fct) : Fn 54 [.d (.slice 2 (l.map encFct)), .d (.slice 2 (l.map encFct))] (fun r => r = .d (.bool true)) := by
  have h := sameFacts_fn l l
  rw [sameL_refl Fct.same_refl] at h
  exact h
set_option maxHeartbeats 8000000 in
theorem rfact_fn (p : Int) (l : List Int) : Fn 123 [.d (.int .i64 p), .d (.slice 1 (l.map encI))] (fun r => r = elFct ⟨p, l⟩) := by
  refine fnp_enter' _ Try.func123 rfl rfl (by kernel_rfl) ?_
  intro O w0 E0 β0
  repeat' (first | (apply ds_evC; exact rfl; (with_reducible exact trivial); (with_reducible exact rfl); exact rfl; exact rfl; exact rfl) | apply ds_nil | apply dw_seq2 | (apply ds_region; exact rfl) | apply dw_ret | apply thenD_n | (apply ds_newC; exact rfl; (with_reducible exact trivial); exact rfl; exact rfl; exact rfl) | (apply ds_setC; exact rfl; exact rfl; exact rfl; exact rfl))
  exact ⟨.inl rfl, _, rfl, rfl, rfl⟩
def fA : Fct := ⟨0, [1]⟩
def fB : Fct := ⟨0, [2]⟩
set_option maxHeartbeats 8000000 in
theorem relationBegun_fn : Fn 51 [] (fun r => r = .d (.bool true)) := by
  refine fnp_enter' _ Try.func51 rfl rfl (by kernel_rfl) ?_
  intro O w0 E0 β0
  have e1 := rfact_fn 0 [1]
  have e2 := rfact_fn 0 [2]
  have h1 := orderF_fn fA fB
  rw [show ordF fA fB = -1 by decide] at h1
  have h2 := orderF_fn fB fB
  rw [ordF_self] at h2
  have hs : ∀ x ∈ [fB, fA, fB], x.args.length ≤ 17592186044416 := by decide
  have h3 := set_fn [fB, fA, fB] (by decide) hs
  rw [show setF' [fB, fA, fB] = [fA, fB] by kernel_rfl] at h3
  have h4 := has_fn [fB, fA, fB] fA
  rw [show hasF [fB, fA, fB] fA = true by decide] at h4
  have h5 := minus_fn [fB, fA, fB] [fB] (by decide) (by decide) hs (by decide)
  rw [minus_same, show setF' (minusL [fB, fA, fB] [fB]) = [fA] by kernel_rfl] at h5
  have h6 := union_fn [fB, fA, fB] [fB, fA, fB] (by decide) hs hs
  rw [show setF' ([fB, fA, fB] ++ [fB, fA, fB]) = [fA, fB] by kernel_rfl] at h6
  have h7 := match_fn [fB, fA, fB] 0 [2] [true] (by decide) hs
  rw [show setF' (matchL [fB, fA, fB] 0 [2] [true]) = [fB] by kernel_rfl] at h7
  have s1 := sameSelf_fn [fA, fB]
  have s2 := sameSelf_fn [fA]
  have s3 := sameSelf_fn [fB]
  repeat' (first | (apply ds_evC; exact rfl; (with_reducible exact trivial); (with_reducible exact rfl); exact rfl; exact rfl; exact rfl) | apply ds_nil | (apply dt_ev; exact rfl; exact rfl; (with_reducible exact trivial); (with_reducible exact rfl); exact rfl; exact rfl; exact rfl; exact rfl) | (apply dt_nil0; exact rfl; exact rfl; exact rfl; exact rfl) | apply dw_seq2 | (apply ds_region; exact rfl) | (apply dw_any; kernel_rfl; kernel_rfl; exact rfl; exact rfl) | apply dw_ret | apply thenD_n | (apply ds_call; exact rfl; exact rfl; apply e1; exact rfl; (exact rfl); exact rfl; rintro _ rfl) | (apply ds_call; exact rfl; exact rfl; apply e2; exact rfl; (exact rfl); exact rfl; rintro _ rfl) | (apply dt_call; exact rfl; exact rfl; apply h1; exact rfl; (exact rfl); exact rfl; exact rfl; exact ⟨_, rfl⟩; rintro _ rfl) | (apply dt_call; exact rfl; exact rfl; apply h2; exact rfl; (exact rfl); exact rfl; exact rfl; exact ⟨_, rfl⟩; rintro _ rfl) | (apply dt_call; exact rfl; exact rfl; apply h3; exact rfl; (exact rfl); exact rfl; exact rfl; exact ⟨_, rfl⟩; rintro _ rfl) | (apply dt_call; exact rfl; exact rfl; apply h4; exact rfl; (exact rfl); exact rfl; exact rfl; exact ⟨_, rfl⟩; rintro _ rfl) | (apply dt_call; exact rfl; exact rfl; apply h5; exact rfl; (exact rfl); exact rfl; exact rfl; exact ⟨_, rfl⟩; rintro _ rfl) | (apply dt_call; exact rfl; exact rfl; apply h6; exact rfl; (exact rfl); exact rfl; exact rfl; exact ⟨_, rfl⟩; rintro _ rfl) | (apply dt_call; exact rfl; exact rfl; apply h7; exact rfl; (exact rfl); exact rfl; exact rfl; exact ⟨_, rfl⟩; rintro _ rfl) | (apply dt_call; exact rfl; exact rfl; apply s1; exact rfl; (exact rfl); exact rfl; exact rfl; exact ⟨_, rfl⟩; rintro _ rfl) | (apply dt_call; exact rfl; exact rfl; apply s2; exact rfl; (exact rfl); exact rfl; exact rfl; exact ⟨_, rfl⟩; rintro _ rfl) | (apply dt_call; exact rfl; exact rfl; apply s3; exact rfl; (exact rfl); exact rfl; exact rfl; exact ⟨_, rfl⟩; rintro _ rfl) | (apply ds_newC; exact rfl; (with_reducible exact trivial); exact rfl; exact rfl; exact rfl) | (apply ds_setC; exact rfl; exact rfl; exact rfl; exact rfl) | (apply ds_bsC; exact rfl; exact rfl; exact rfl; exact rfl))
  all_goals exact ret_b rfl (by decide)

set_option maxHeartbeats 8000000 in
theorem relationTells_fn (l m : List Fct) (f : Fct) (pred : Int) (args : List Int) (bound : List Bool) (hl : l.length ≤ 2199023255552) (hm : m.length ≤ 2199023255552) (ha : ∀ x ∈ l, x.args.length ≤ 17592186044416) (hb : ∀ x ∈ m, x.args.length ≤ 17592186044416) :
    Fn 13 [.d (.slice 2 (l.map encFct)), .d (.slice 2 (m.map encFct)), elFct f, .d (.int .i64 pred), .d (.slice 1 (args.map encI)), .d (.slice 1 (bound.map encBm))] (fun r => r = .d (.bool true)) := by
  refine fnp_enter' _ Try.func13 rfl rfl (by kernel_rfl) ?_
  intro O w0 E0 β0
  have h1 := orderF_fn f ⟨pred, args⟩
  have h2 := orderOf_fn f ⟨pred, args⟩
  have h3 := set_fn l (by omega) ha
  have h4 := setOf_fn l (by omega)
  have h5 := has_fn l f
  have h6 := hasFact_fn l f
  have h7 := union_fn l m (by omega) ha hb
  have h8 := unionOf_fn l m (by omega)
  have h9 := minus_fn l m (by omega) (by omega) ha hb
  rw [minus_same] at h9
  have h10 := minusOf_fn l m (by omega)
  have h11 := match_fn l pred args bound (by omega) ha
  have h12 := matchOf_fn l pred args bound (by omega)
  have s1 := sameSelf_fn (setF' l)
  have s2 := sameSelf_fn (setF' (l ++ m))
  have s3 := sameSelf_fn (setF' (minusL l m))
  have s4 := sameSelf_fn (setF' (matchL l pred args bound))
  repeat' (first | (apply ds_evC; exact rfl; (with_reducible exact trivial); (with_reducible exact rfl); exact rfl; exact rfl; exact rfl) | apply ds_nil | (apply dt_ev; exact rfl; exact rfl; (with_reducible exact trivial); (with_reducible exact rfl); exact rfl; exact rfl; exact rfl; exact rfl) | (apply dt_skipD; exact rfl; exact rfl; exact rfl) | (apply dt_nil0; exact rfl; exact rfl; exact rfl; exact rfl) | apply dw_seq2 | (apply ds_region; exact rfl) | (apply dw_any; kernel_rfl; kernel_rfl; exact rfl; exact rfl) | apply dw_ret | apply thenD_n | (apply dt_call; exact rfl; exact rfl; apply relationBegun_fn; exact rfl; (exact rfl); exact rfl; exact rfl; exact ⟨_, rfl⟩; rintro _ rfl) | (apply dt_call; exact rfl; exact rfl; apply h1; exact rfl; (exact rfl); exact rfl; exact rfl; exact ⟨_, rfl⟩; rintro _ rfl) | (apply dt_call; exact rfl; exact rfl; apply h2; exact rfl; (exact rfl); exact rfl; exact rfl; exact ⟨_, rfl⟩; rintro _ rfl) | (apply dt_call; exact rfl; exact rfl; apply h3; exact rfl; (exact rfl); exact rfl; exact rfl; exact ⟨_, rfl⟩; rintro _ rfl) | (apply dt_call; exact rfl; exact rfl; apply h4; exact rfl; (exact rfl); exact rfl; exact rfl; exact ⟨_, rfl⟩; rintro _ rfl) | (apply dt_call; exact rfl; exact rfl; apply h5; exact rfl; (exact rfl); exact rfl; exact rfl; exact ⟨_, rfl⟩; rintro _ rfl) | (apply dt_call; exact rfl; exact rfl; apply h6; exact rfl; (exact rfl); exact rfl; exact rfl; exact ⟨_, rfl⟩; rintro _ rfl) | (apply dt_call; exact rfl; exact rfl; apply h7; exact rfl; (exact rfl); exact rfl; exact rfl; exact ⟨_, rfl⟩; rintro _ rfl) | (apply dt_call; exact rfl; exact rfl; apply h8; exact rfl; (exact rfl); exact rfl; exact rfl; exact ⟨_, rfl⟩; rintro _ rfl) | (apply dt_call; exact rfl; exact rfl; apply h9; exact rfl; (exact rfl); exact rfl; exact rfl; exact ⟨_, rfl⟩; rintro _ rfl) | (apply dt_call; exact rfl; exact rfl; apply h10; exact rfl; (exact rfl); exact rfl; exact rfl; exact ⟨_, rfl⟩; rintro _ rfl) | (apply dt_call; exact rfl; exact rfl; apply h11; exact rfl; (exact rfl); exact rfl; exact rfl; exact ⟨_, rfl⟩; rintro _ rfl) | (apply dt_call; exact rfl; exact rfl; apply h12; exact rfl; (exact rfl); exact rfl; exact rfl; exact ⟨_, rfl⟩; rintro _ rfl) | (apply dt_call; exact rfl; exact rfl; apply s1; exact rfl; (exact rfl); exact rfl; exact rfl; exact ⟨_, rfl⟩; rintro _ rfl) | (apply dt_call; exact rfl; exact rfl; apply s2; exact rfl; (exact rfl); exact rfl; exact rfl; exact ⟨_, rfl⟩; rintro _ rfl) | (apply dt_call; exact rfl; exact rfl; apply s3; exact rfl; (exact rfl); exact rfl; exact rfl; exact ⟨_, rfl⟩; rintro _ rfl) | (apply dt_call; exact rfl; exact rfl; apply s4; exact rfl; (exact rfl); exact rfl; exact rfl; exact ⟨_, rfl⟩; rintro _ rfl) | (apply ds_newC; exact rfl; (with_reducible exact trivial); exact rfl; exact rfl; exact rfl) | (apply ds_setC; exact rfl; exact rfl; exact rfl; exact rfl) | ((fail_if_success (apply dt_known; exact rfl)); apply dt_guardP; exact rfl; exact rfl; exact rfl; all_goals intro hg))
  all_goals first
    | exact absurd rfl hg
    | exact ret_b rfl (by simp)
end Go.Proofs.Ytapciiffpnociaa

/- Lists of facts that are handed in, read as data, with their sizes. Condition: none. -/
namespace Go.Proofs.Ytapciiffpnociaa
open Go Go.RowKit

theorem listOfR {R : Nat} {α : Type} {e : RT} {enc : α → List D} {p : α → Prop} (h : ∀ x, TyDR R e x → ∃ t, x = enc t ∧ p t) : ∀ (l : List (List D)), (∀ x ∈ l, TyDR R e x) → ∃ ts : List α, l = ts.map enc ∧ ∀ t ∈ ts, p t
  | [], _ => ⟨[], rfl, by simp⟩
  | x :: l, hl => by
    obtain ⟨t, rfl, ht⟩ := h x (hl x (List.mem_cons_self ..))
    obtain ⟨ts, rfl, hts⟩ := listOfR h l fun y hy => hl y (List.mem_cons_of_mem _ hy)
    exact ⟨t :: ts, rfl, fun u hu => (List.mem_cons.1 hu).elim (fun e => e ▸ ht) (hts u)⟩
theorem sliceOfR {R : Nat} {α : Type} {c b : Nat} {e : RT} {enc : α → List D} {p : α → Prop} (h : ∀ x, TyDR R e x → ∃ t, x = enc t ∧ p t) (x : List D) (hx : TyDR R (.slice c b e) x) : ∃ ts : List α, x = [.slice c (ts.map enc)] ∧ ts.length * b ≤ R ∧ ∀ t ∈ ts, p t := by
  obtain ⟨l, h1, _, rfl, h3⟩ := hx
  obtain ⟨ts, rfl, h4⟩ := listOfR h l h3
  exact ⟨ts, rfl, by rw [← List.length_map (f := enc)]; exact h1, h4⟩
abbrev rtFctR : RT := .struct [.int .i64, .slice 1 8 (.int .i64)]
theorem int_ofR {R : Nat} (x : List D) (h : TyDR R (.int .i64) x) : ∃ n : Int, x = encI n ∧ True := by
  obtain ⟨n, _, rfl⟩ := h
  exact ⟨n, rfl, trivial⟩
theorem bool_ofR {R : Nat} (x : List D) (h : TyDR R .bool x) : ∃ n : Bool, x = encBm n ∧ True := by
  obtain ⟨n, rfl⟩ := h
  exact ⟨n, rfl, trivial⟩
theorem fct_ofR {R : Nat} (x : List D) (h : TyDR R rtFctR x) : ∃ t : Fct, x = encFct t ∧ t.args.length * 8 ≤ R := by
  obtain ⟨a, b, rfl, ⟨k, _, rfl⟩, c, d, rfl, h2, rfl⟩ := h
  obtain ⟨l, rfl, hl, _⟩ := sliceOfR int_ofR c h2
  exact ⟨⟨k, l⟩, rfl, hl⟩
theorem fcts_argR {R : Nat} (x : List D) (h : TyDR R (.slice 2 32 rtFctR) x) : ∃ l : List Fct, RT.arg (.slice 2 32 rtFctR) x = .d (.slice 2 (l.map encFct)) ∧ l.length * 32 ≤ R ∧ ∀ t ∈ l, t.args.length * 8 ≤ R := by
  obtain ⟨l, rfl, h1, h2⟩ := sliceOfR fct_ofR x h
  exact ⟨l, rfl, h1, h2⟩
theorem fct_argR {R : Nat} (x : List D) (h : TyDR R rtFctR x) : ∃ f : Fct, RT.arg rtFctR x = elFct f ∧ f.args.length * 8 ≤ R := by
  obtain ⟨f, rfl, h1⟩ := fct_ofR x h
  exact ⟨f, rfl, h1⟩
theorem ints_argR {R : Nat} (x : List D) (h : TyDR R (.slice 1 8 (.int .i64)) x) : ∃ l : List Int, RT.arg (.slice 1 8 (.int .i64)) x = .d (.slice 1 (l.map encI)) ∧ l.length * 8 ≤ R := by
  obtain ⟨l, rfl, h1, _⟩ := sliceOfR int_ofR x h
  exact ⟨l, rfl, h1⟩
theorem bools_argR {R : Nat} (x : List D) (h : TyDR R (.slice 1 1 .bool) x) : ∃ l : List Bool, RT.arg (.slice 1 1 .bool) x = .d (.slice 1 (l.map encBm)) ∧ l.length * 1 ≤ R := by
  obtain ⟨l, rfl, h1, _⟩ := sliceOfR bool_ofR x h
  exact ⟨l, rfl, h1⟩
end Go.Proofs.Ytapciiffpnociaa

/- What the bound of an upto statement gives. Condition: none. -/
namespace Go.Proofs.Ytapciiffpnociaa
open Go Go.RowKit

section
variable {H : Type} {P : Program} {M : Nat}
theorem bulk_pos (d : DataW H) : 1 ≤ Rows.uptoBulk d := by
  cases d with
  | lit l => cases l <;> simp [Rows.uptoBulk]
  | _ => simp [Rows.uptoBulk]
theorem bulk_len : ∀ l : List (DataW H), l.length ≤ Rows.uptoBulkAll l
  | [] => by simp
  | x :: r => by
    have h1 := bulk_pos x
    have h2 := bulk_len r
    simp only [Rows.uptoBulkAll, List.length_cons]; omega
theorem up_le {n a b M : Nat} (h : n ≤ a * M) (g : a ≤ b) : n ≤ b * M := Nat.le_trans h (Nat.mul_le_mul_right M g)

theorem weightsAll_le {e : TypeId} (h : ∀ (d : DataW H), ∀ n ∈ d.weights P e, n ≤ Rows.uptoBulk d * M) : ∀ (l : List (DataW H)), ∀ n ∈ DataW.weightsAll P e l, n ≤ Rows.uptoBulkAll l * M
  | [], n, hn => by simp [DataW.weightsAll] at hn
  | d :: r, n, hn => by
    simp only [DataW.weightsAll, List.mem_append] at hn
    rcases hn with hn | hn
    · exact up_le (h d n hn) (by simp only [Rows.uptoBulkAll]; omega)
    · exact up_le (weightsAll_le h r n hn) (by simp only [Rows.uptoBulkAll]; omega)
mutual
/-- Elements take M bytes at the most. -/
def RT.fits (M : Nat) : RT → Bool
  | .struct fs => RT.fitsL M fs
  | .slice _ b e => Nat.ble b M && e.fits M
  | .bool => true
  | .int _ => true
  | .str => true
def RT.fitsL (M : Nat) : List RT → Bool
  | [] => true
  | r :: rs => r.fits M && RT.fitsL M rs
end
theorem plain_le {t : TypeId} (h1 : 1 ≤ M) (h2 : ∀ e, P.underlying t ≠ some (.pointer e)) (h3 : ∀ e, P.underlying t ≠ some (.slice e)) (h4 : ∀ e, P.underlying t ≠ some (.struct e)) (h5 : ∀ n e, P.underlying t ≠ some (.array n e)) (h6 : ∀ k e, P.underlying t ≠ some (.map k e)) (d : DataW H) : ∀ n ∈ d.weights P t, n ≤ Rows.uptoBulk d * M := by
  intro n hn
  cases d with
  | lit l =>
    cases l with
    | string b =>
      simp only [DataW.weights, List.mem_singleton] at hn
      subst hn
      simp only [Rows.uptoBulk]
      exact up_le (a := b.length) (Nat.le_mul_of_pos_right _ h1) (by omega)
    | _ => simp [DataW.weights] at hn
  | _ =>
    simp only [DataW.weights] at hn
    first
      | (simp at hn; done)
      | (split at hn <;> first | (rename_i hh; exact absurd hh (by first | exact h2 _ | exact h3 _ | exact h4 _ | exact h5 _ _ | exact h6 _ _)) | (simp at hn; done))
theorem string_le {b : List UInt8} (h1 : 1 ≤ M) {t : TypeId} : ∀ n ∈ DataW.weights (H := H) P t (.lit (.string b)), n ≤ Rows.uptoBulk (DataW.lit (H := H) (.string b)) * M := by
  intro n hn
  simp only [DataW.weights, List.mem_singleton] at hn
  subst hn
  simp only [Rows.uptoBulk]
  exact up_le (a := b.length) (Nat.le_mul_of_pos_right _ h1) (by omega)
mutual
theorem weights_le (h1 : 1 ≤ M) : ∀ (r : RT) (t : TypeId) (d : DataW H), rtB P r t = true → r.fits M = true → ∀ n ∈ d.weights P t, n ≤ Rows.uptoBulk d * M
  | .bool, t, d, hb, _ => by
    have ht : P.underlying t = some .bool := by
      unfold rtB at hb; split at hb <;> first | assumption | cases hb
    refine plain_le h1 ?_ ?_ ?_ ?_ ?_ d <;> (intros; rw [ht]; simp)
  | .int k, t, d, hb, _ => by
    have ht : P.underlying t = some (.int k) := by
      unfold rtB at hb
      split at hb
      · rename_i k' hk; rw [hk, sameK_spec hb]
      · cases hb
    refine plain_le h1 ?_ ?_ ?_ ?_ ?_ d <;> (intros; rw [ht]; simp)
  | .str, t, d, hb, _ => by
    have ht : P.underlying t = some .string := by
      unfold rtB at hb; split at hb <;> first | assumption | cases hb
    refine plain_le h1 ?_ ?_ ?_ ?_ ?_ d <;> (intros; rw [ht]; simp)
  | .slice c b e, t, d, hb, hf => by
    obtain ⟨te, ht, hby, hre⟩ : ∃ te, P.underlying t = some (.slice te) ∧ P.bytesOf te = b ∧ rtB P e te = true := by
      unfold rtB at hb
      split at hb
      · rename_i te ht
        simp only [Bool.and_eq_true] at hb
        exact ⟨te, ht, Nat.eq_of_beq_eq_true hb.2.1, hb.2.2.2.2⟩
      · cases hb
    simp only [RT.fits, Bool.and_eq_true] at hf
    have hbm := Nat.le_of_ble_eq_true hf.1
    intro n hn
    cases d with
    | slice elems spare =>
      simp only [DataW.weights, ht, List.mem_cons, List.mem_append] at hn
      rcases hn with rfl | hn | hn
      · have g1 := bulk_len elems
        have g2 := bulk_len spare
        rw [hby]
        refine Nat.le_trans (Nat.mul_le_mul_left _ hbm) (Nat.mul_le_mul_right M ?_)
        simp only [Rows.uptoBulk]; omega
      · exact up_le (weightsAll_le (fun d => weights_le h1 e te d hre hf.2) elems n hn) (by simp only [Rows.uptoBulk]; omega)
      · exact up_le (weightsAll_le (fun d => weights_le h1 e te d hre hf.2) spare n hn) (by simp only [Rows.uptoBulk]; omega)
    | lit l =>
      cases l with
      | string b => exact string_le h1 n hn
      | _ => simp [DataW.weights] at hn
    | _ => simp [DataW.weights, ht] at hn
  | .struct fs, t, d, hb, hf => by
    obtain ⟨fl, ht, hfl⟩ : ∃ fl, P.underlying t = some (.struct fl) ∧ rtL P fs fl.toList 0 = true := by
      unfold rtB at hb
      split at hb
      · rename_i fl ht
        simp only [Bool.and_eq_true] at hb
        exact ⟨fl, ht, hb.1⟩
      · cases hb
    simp only [RT.fits] at hf
    intro n hn
    cases d with
    | agg parts =>
      simp only [DataW.weights, ht] at hn
      exact up_le (weightsL_le h1 fs fl.toList 0 parts hfl hf n hn) (by simp only [Rows.uptoBulk]; omega)
    | lit l =>
      cases l with
      | string b => exact string_le h1 n hn
      | _ => simp [DataW.weights] at hn
    | _ => simp [DataW.weights, ht] at hn
theorem weightsL_le (h1 : 1 ≤ M) : ∀ (rs : List RT) (fl : List Field) (o : Nat) (ds : List (DataW H)), rtL P rs fl o = true → RT.fitsL M rs = true → ∀ n ∈ DataW.weightsEach P (fl.map (·.type)) ds, n ≤ Rows.uptoBulkAll ds * M
  | [], [], _, ds, _, _ => by intro n hn; simp [DataW.weightsEach] at hn
  | [], _ :: _, _, _, hb, _ => by simp [rtL] at hb
  | _ :: _, [], _, _, hb, _ => by simp [rtL] at hb
  | r :: rs, f :: fl, o, [], _, _ => by intro n hn; simp [DataW.weightsEach] at hn
  | r :: rs, f :: fl, o, d :: ds, hb, hf => by
    simp only [rtL, Bool.and_eq_true] at hb
    simp only [RT.fitsL, Bool.and_eq_true] at hf
    intro n hn
    simp only [List.map_cons, DataW.weightsEach, List.mem_append] at hn
    rcases hn with hn | hn
    · exact up_le (weights_le h1 r f.type d hb.2.2.1 hf.1 n hn) (by simp only [Rows.uptoBulkAll]; omega)
    · exact up_le (weightsL_le h1 rs fl _ ds hb.2.2.2 hf.2 n hn) (by simp only [Rows.uptoBulkAll]; omega)
end
theorem weightsR_le (h1 : 1 ≤ M) : ∀ (rs : List RT) (ts : List TypeId) (ds : List (DataW H)), rtsB P rs ts = true → RT.fitsL M rs = true → ∀ n ∈ DataW.weightsEach P ts ds, n ≤ Rows.uptoBulkAll ds * M
  | [], [], ds, _, _ => by intro n hn; simp [DataW.weightsEach] at hn
  | [], _ :: _, _, hb, _ => by simp [rtsB] at hb
  | _ :: _, [], _, hb, _ => by simp [rtsB] at hb
  | r :: rs, t :: ts, [], _, _ => by intro n hn; simp [DataW.weightsEach] at hn
  | r :: rs, t :: ts, d :: ds, hb, hf => by
    simp only [rtsB, Bool.and_eq_true] at hb
    simp only [RT.fitsL, Bool.and_eq_true] at hf
    intro n hn
    simp only [DataW.weightsEach, List.mem_append] at hn
    rcases hn with hn | hn
    · exact up_le (weights_le h1 r t d hb.1 hf.1 n hn) (by simp only [Rows.uptoBulkAll]; omega)
    · exact up_le (weightsR_le h1 rs ts ds hb.2 hf.2 n hn) (by simp only [Rows.uptoBulkAll]; omega)
theorem upto_weights {rs : List RT} {ts : List TypeId} {ds : List (DataW H)} (hb : rtsB P rs ts = true) (hf : RT.fitsL 4096 rs = true) (hk : Rows.uptoSmall H ds = true) : ∀ n ∈ DataW.weightsEach P ts ds, n ≤ 4294967296 := by
  intro n hn
  have hb2 : Rows.uptoBulkAll ds ≤ 1048576 := of_decide_eq_true hk
  have := up_le (weightsR_le (by decide) rs ts ds hb hf n hn) hb2
  omega
end
end Go.Proofs.Ytapciiffpnociaa
