/- Several texts in one: ScoG ScoH TokL ScoI Tool RuL. Condition: none. -/
import Derived.Test.YtapciiffpnociabGreatB13
import Derived.Test.YtapciiffpnociabGreatB11
import Derived.Test.YtapciiffpnociabGreatB08
import Derived.Test.YtapciiffpnociabGreatB21

/- The document's checkRule and CheckProgram. Condition: none. -/
namespace Go.Proofs.YtapciiffpnociabGreat
open Go Go.RowKit
attribute [local irreducible] DW DS DL DQ Ev FnOk FnP thenD inBlockD DT
set_option maxHeartbeats 8000000 in
theorem rrule_fn (p : Prg) (r : Rul) : Fn 117 [elPrg p, elRul r] (fun x => x = .d (.int .i64 (ruleE p.arity r))) := by
  refine fnp_enter' _ Tryz.func117 rfl rfl (by kernel_rfl) ?_
  intro O w0 E0 β0
  have la : (p.arity.map encI).length = p.arity.length := List.length_map _
  have lb : (r.terms.map encTrm).length = r.terms.length := List.length_map _
  have lc : (r.body.map encLtl).length = r.body.length := List.length_map _
  refine dw_lenA 0 0 rfl rfl (fun hk => ?_)
  refine dw_lenA 1 1 rfl rfl (fun hk2 => ?_)
  refine dw_lenA 1 3 rfl rfl (fun hk3 => ?_)
  have w1 := sbetween_fn r.pred 0 (((p.arity.map encI).length : Int) - 1)
  have w2 := sbetween_fn r.vars 0 8
  have w3 := sbetween_fn r.fold 0 4
  have hR : ruleE p.arity r = ruleE p.arity r := rfl
  conv at hR => rhs; unfold ruleE
  rw [hR]
  rw [← la, ← lb, ← lc]
  by_cases hp : inR r.pred 0 (((p.arity.map encI).length : Int) - 1) = true
  · have hp' := inR_spec hp
    have hA := arity_at (p := p) (n := r.pred) (by omega) (by omega)
    rw [hp] at w1 ⊢
    rw [if_neg (show ¬ (true = false) by decide), hA]
    by_cases hv : inR r.vars 0 8 = true
    · have hv' := inR_spec hv
      rw [hv] at w2 ⊢
      rw [if_neg (show ¬ (true = false) by decide)]
      have w4 := rterms_fn r.terms r.vars hv'.1 hv'.2
      clear hv hp hA hR
      generalize termsE r.vars r.terms = te at w4 ⊢
      by_cases hfo : inR r.fold 0 4 = true
      · have hf' := inR_spec hfo
        rw [hfo] at w3 ⊢
        rw [if_neg (show ¬ (true = false) by decide)]
        repeat' (first | (apply ds_evC; exact rfl; (first | (with_reducible exact trivial) | omega); (with_reducible exact rfl); exact rfl; exact rfl; exact rfl) | (apply ds_skip; exact rfl; exact rfl) | apply ds_nil | (apply dt_ev; exact rfl; exact rfl; (first | (with_reducible exact trivial) | omega); (first | ((with_reducible apply hv_row); (exact (Int.toNat_of_nonneg (by omega)).symm); (omega)) | (with_reducible exact rfl)); exact rfl; exact rfl; exact rfl; exact rfl) | (apply dt_nil0; exact rfl; exact rfl; exact rfl; exact rfl) | apply dw_seq2 | (apply ds_region; exact rfl) | (apply dw_any; kernel_rfl; kernel_rfl; exact rfl; exact rfl) | apply dw_block | apply dw_skip | apply dw_ret | (apply dw_condT; exact rfl) | (apply dw_condF; exact rfl) | apply thenD_n | apply thenD_r | (apply ds_call; exact rfl; exact rfl; apply w1; exact rfl; (exact rfl); exact rfl; rintro _ rfl) | (apply ds_call; exact rfl; exact rfl; apply w2; exact rfl; (exact rfl); exact rfl; rintro _ rfl) | (apply ds_call; exact rfl; exact rfl; apply w3; exact rfl; (exact rfl); exact rfl; rintro _ rfl) | (apply ds_call; exact rfl; exact rfl; apply w4; exact rfl; (exact rfl); exact rfl; rintro _ rfl) | (apply ds_newC; exact rfl; (with_reducible exact trivial); exact rfl; exact rfl; exact rfl) | (apply dw_condP; exact rfl; all_goals intro hg) | ((fail_if_success (apply ds_known; exact rfl)); apply ds_guardP; exact rfl; exact rfl; exact rfl; all_goals intro hg))
        all_goals try (refine ret_i rfl ?_; (repeat' split) <;> (first | rfl | (exfalso; omega)))
        all_goals
          have hb4 : r.body.length ≤ 4 := by omega
          have hfin : ∀ e, firstL (litE p.arity r.vars) r.body = e → (if (((r.terms.map encTrm).length : Nat) : Int) ≠ p.arity[r.pred.toNat]'(by omega) then 1 else if te ≠ 0 then te else if r.fold ≠ 0 ∧ ((r.terms.map encTrm).length = 0 ∨ (r.body.map encLtl).length = 0) then 1 else if 4 < (r.body.map encLtl).length then 2 else if firstL (litE p.arity r.vars) r.body ≠ 0 then firstL (litE p.arity r.vars) r.body else if safeB r = false then 4 else 0) = if e ≠ 0 then e else if safeB r = false then 4 else 0 := by
            rintro e rfl
            (repeat' split) <;> (first | rfl | (exfalso; omega))
          generalize (if (((r.terms.map encTrm).length : Nat) : Int) ≠ p.arity[r.pred.toNat]'(by omega) then 1 else if te ≠ 0 then te else if r.fold ≠ 0 ∧ ((r.terms.map encTrm).length = 0 ∨ (r.body.map encLtl).length = 0) then 1 else if 4 < (r.body.map encLtl).length then 2 else if firstL (litE p.arity r.vars) r.body ≠ 0 then firstL (litE p.arity r.vars) r.body else if safeB r = false then 4 else 0) = res at hfin ⊢
          refine ds_loop (ι := Nat) (fun i => ⟨2, [(2, .loc 0 0), (3, .loc 1 0), (4, .d (.int .i64 0)), (5, .d (.int .i64 (p.arity.map encI).length)), (7, .d (.int .i64 i))], [(0, prgB p), (1, ruleB r)]⟩)
            (fun i => i ≤ r.body.length ∧ firstL (litE p.arity r.vars) r.body = firstL (litE p.arity r.vars) (r.body.drop i)) (fun i => r.body.length - i) 0 ⟨Nat.zero_le _, rfl⟩ (ent_ren id ⟨rfl, rfl, rfl, rfl, rfl, trivial⟩ ⟨rfl, rfl, trivial⟩ rfl rfl rfl rfl rfl rfl) ?_
          rintro i ⟨g1, g2⟩
          by_cases hi : i < r.body.length
          · rw [firstL_step hi] at g2
            repeat' ((fail_if_success (apply dw_stopR 21)); (first | (apply ds_evC; exact rfl; (first | (with_reducible exact trivial) | omega); (first | ((with_reducible apply hv_row); (exact rfl); (omega)) | (with_reducible exact rfl)); exact rfl; exact rfl; exact rfl) | apply ds_nil | apply dw_seq2 | (apply ds_region; exact rfl) | apply dw_block | apply dw_skip | apply dw_exit | apply thenD_n | apply thenD_e | (apply inB_e; exact rfl) | (apply ds_newC; exact rfl; (with_reducible exact trivial); exact rfl; exact rfl; exact rfl) | (apply ds_setC; exact rfl; exact rfl; exact rfl; exact rfl) | (apply dw_condP; exact rfl; all_goals intro hg)))
            all_goals try (exfalso; omega)
            generalize r.body[i] = l at g2 ⊢
            have hret : ∀ e, litE p.arity r.vars l = e → e ≠ 0 → e = res := by
              rintro e rfl he
              rw [if_pos he] at g2
              rw [hfin _ g2, if_pos he]
            obtain ⟨NX, hN, hnext⟩ : ∃ NX : Prop, (NX → firstL (litE p.arity r.vars) r.body = firstL (litE p.arity r.vars) (r.body.drop (i + 1))) ∧ (litE p.arity r.vars l = 0 → NX) := by
              refine ⟨_, id, fun he => ?_⟩
              rw [if_neg (by rw [he]; decide)] at g2
              exact g2
            clear hfin g2
            refine dw_ent (ent_ren (k' := 3) (L' := [(2, .loc 0 0), (3, .loc 1 0), (4, .d (.int .i64 0)), (5, .d (.int .i64 (p.arity.map encI).length)), (7, .d (.int .i64 i)), (8, .loc 2 0)]) (H' := [(0, prgB p), (1, ruleB r), (2, litB l)]) id ⟨rfl, rfl, rfl, rfl, rfl, rfl, trivial⟩ ⟨rfl, rfl, rfl, trivial⟩ rfl rfl rfl rfl rfl rfl) ?_
            obtain ⟨kind, op, pred, terms⟩ := l
            have lt : (terms.map encTrm).length = terms.length := List.length_map _
            have wt := rterms_fn terms r.vars hv'.1 hv'.2
            have k1 := sbetween_fn kind 1 4
            have wp := sbetween_fn pred 0 (((p.arity.map encI).length : Int) - 1)
            have wo3 := sbetween_fn op 1 4
            have wo4 := sbetween_fn op 5 7
            unfold litE opB at hret hnext
            dsimp only [litB] at hret hnext ⊢
            rw [← la, ← lt] at hret hnext
            generalize termsE r.vars terms = tl at wt hret hnext
            generalize inR op 1 4 = o3 at wo3 hret hnext
            generalize inR op 5 7 = o4 at wo4 hret hnext
            by_cases hk1 : inR kind 1 4 = true
            · have hk' := inR_spec hk1
              rw [hk1] at hret hnext k1
              by_cases hpp : inR pred 0 (((p.arity.map encI).length : Int) - 1) = true
              · have hpp' := inR_spec hpp
                have hA' := arity_at (p := p) (n := pred) (by omega) (by omega)
                rw [hpp] at hret hnext wp
                rw [hA'] at hret hnext
                clear hpp hA' hk1
                rcases (show kind = 1 ∨ kind = 2 ∨ kind = 3 ∨ kind = 4 by omega) with rfl | rfl | rfl | rfl
                all_goals repeat' (first | (apply ds_evC; exact rfl; (first | (with_reducible exact trivial) | omega); (with_reducible exact rfl); exact rfl; exact rfl; exact rfl) | (apply ds_skip; exact rfl; exact rfl) | apply ds_nil | (apply dt_ev; exact rfl; exact rfl; (first | (with_reducible exact trivial) | omega); (first | ((with_reducible apply hv_row); (exact (Int.toNat_of_nonneg (by omega)).symm); (omega)) | (with_reducible exact rfl)); exact rfl; exact rfl; exact rfl; exact rfl) | (apply dt_nil0; exact rfl; exact rfl; exact rfl; exact rfl) | apply dw_seq2 | (apply ds_region; exact rfl) | (apply dw_any; kernel_rfl; kernel_rfl; exact rfl; exact rfl) | apply dw_skip | apply dw_ret | (apply dw_condT; exact rfl) | (apply dw_condF; exact rfl) | apply thenD_n | apply thenD_r | apply inB_n | apply inB_r | (apply ds_call; exact rfl; exact rfl; apply k1; exact rfl; (exact rfl); exact rfl; rintro _ rfl) | (apply ds_call; exact rfl; exact rfl; apply wp; exact rfl; (exact rfl); exact rfl; rintro _ rfl) | (apply ds_call; exact rfl; exact rfl; apply wo3; exact rfl; (exact rfl); exact rfl; rintro _ rfl) | (apply ds_call; exact rfl; exact rfl; apply wo4; exact rfl; (exact rfl); exact rfl; rintro _ rfl) | (apply ds_call; exact rfl; exact rfl; apply wt; exact rfl; (exact rfl); exact rfl; rintro _ rfl) | (apply dw_condP; exact rfl; all_goals intro hg) | (apply dw_cond; exact rfl; all_goals intro hg) | ((fail_if_success (apply ds_known; exact rfl)); apply ds_guardP; exact rfl; exact rfl; exact rfl; all_goals intro hg) | ((fail_if_success (apply ds_known; exact rfl)); apply ds_guardB; exact rfl; exact rfl; exact rfl; all_goals intro hg))
                all_goals first
                  | (exfalso; omega)
                  | (refine ret_i rfl (hret _ ?_ ?_) <;> (clear hret hnext hN k1 wp wo3 wo4 wt w1 w2 w3 w4; (repeat' split) <;> (first | rfl | assumption | decide | (exfalso; omega) | contradiction | (exfalso; simp_all; done))))
                  | (refine ⟨i + 1, ⟨by omega, hN (hnext ?_)⟩, ent_ren id ⟨rfl, rfl, rfl, rfl, rfl, trivial⟩ ⟨rfl, rfl, trivial⟩ rfl rfl rfl rfl rfl rfl, by show r.body.length - (i + 1) < r.body.length - i; omega⟩; (clear hret hnext hN k1 wp wo3 wo4 wt w1 w2 w3 w4; (repeat' split) <;> (first | omega | contradiction | (exfalso; simp_all; done))))
              · rw [Bool.not_eq_true] at hpp
                rw [hpp] at hret hnext wp
                clear hpp hk1
                rcases (show kind = 1 ∨ kind = 2 ∨ kind = 3 ∨ kind = 4 by omega) with rfl | rfl | rfl | rfl
                all_goals repeat' (first | (apply ds_evC; exact rfl; (first | (with_reducible exact trivial) | omega); (with_reducible exact rfl); exact rfl; exact rfl; exact rfl) | (apply ds_skip; exact rfl; exact rfl) | apply ds_nil | apply dw_seq2 | (apply ds_region; exact rfl) | apply dw_skip | apply dw_ret | (apply dw_condT; exact rfl) | (apply dw_condF; exact rfl) | apply thenD_n | apply thenD_r | apply inB_n | apply inB_r | (apply ds_call; exact rfl; exact rfl; apply k1; exact rfl; (exact rfl); exact rfl; rintro _ rfl) | (apply ds_call; exact rfl; exact rfl; apply wp; exact rfl; (exact rfl); exact rfl; rintro _ rfl) | (apply ds_call; exact rfl; exact rfl; apply wo3; exact rfl; (exact rfl); exact rfl; rintro _ rfl) | (apply ds_call; exact rfl; exact rfl; apply wo4; exact rfl; (exact rfl); exact rfl; rintro _ rfl) | (apply ds_call; exact rfl; exact rfl; apply wt; exact rfl; (exact rfl); exact rfl; rintro _ rfl) | (apply dw_condP; exact rfl; all_goals intro hg) | (apply dw_cond; exact rfl; all_goals intro hg) | ((fail_if_success (apply ds_known; exact rfl)); apply ds_guardP; exact rfl; exact rfl; exact rfl; all_goals intro hg) | ((fail_if_success (apply ds_known; exact rfl)); apply ds_guardB; exact rfl; exact rfl; exact rfl; all_goals intro hg))
                all_goals first
                  | (exfalso; omega)
                  | (refine ret_i rfl (hret _ ?_ ?_) <;> (clear hret hnext hN k1 wp wo3 wo4 wt w1 w2 w3 w4; (repeat' split) <;> (first | rfl | assumption | decide | (exfalso; omega) | contradiction | (exfalso; simp_all; done))))
                  | (refine ⟨i + 1, ⟨by omega, hN (hnext ?_)⟩, ent_ren id ⟨rfl, rfl, rfl, rfl, rfl, trivial⟩ ⟨rfl, rfl, trivial⟩ rfl rfl rfl rfl rfl rfl, by show r.body.length - (i + 1) < r.body.length - i; omega⟩; (clear hret hnext hN k1 wp wo3 wo4 wt w1 w2 w3 w4; (repeat' split) <;> (first | omega | contradiction | (exfalso; simp_all; done))))
            · rw [Bool.not_eq_true] at hk1
              rw [hk1] at hret k1
              repeat' (first | (apply ds_evC; exact rfl; (with_reducible exact trivial); (with_reducible exact rfl); exact rfl; exact rfl; exact rfl) | apply ds_nil | apply dw_seq2 | (apply ds_region; exact rfl) | apply dw_ret | (apply dw_condT; exact rfl) | apply thenD_n | apply thenD_r | apply inB_r | (apply ds_call; exact rfl; exact rfl; apply k1; exact rfl; (exact rfl); exact rfl; rintro _ rfl))
              all_goals exact ret_i rfl (hret _ rfl (by decide))
          · rw [firstL_end (by omega)] at g2
            have hall := firstL_zero g2
            have w7 := safe_fn r hb4 hv'.1 hv'.2 (fun l hl => (litE_ok hv'.1 (hall l hl)).1) (fun l hl => (litE_ok hv'.1 (hall l hl)).2)
            rw [hfin 0 g2, if_neg (by decide)]
            generalize safeB r = sb at w7 ⊢
            repeat' (first | (apply ds_evC; exact rfl; (first | (with_reducible exact trivial) | omega); (first | ((with_reducible apply hv_row); (exact rfl); (omega)) | (with_reducible exact rfl)); exact rfl; exact rfl; exact rfl) | apply ds_nil | apply dw_seq2 | (apply ds_region; exact rfl) | apply dw_block | apply dw_skip | apply dw_exit | apply dw_ret | apply thenD_n | apply thenD_e | apply thenD_r | (apply inB_e; exact rfl) | (apply ds_call; exact rfl; exact rfl; apply w7; exact rfl; (exact rfl); exact rfl; rintro _ rfl) | (apply ds_newC; exact rfl; (with_reducible exact trivial); exact rfl; exact rfl; exact rfl) | (apply ds_setC; exact rfl; exact rfl; exact rfl; exact rfl) | (apply dw_condP; exact rfl; all_goals intro hg) | (apply dw_cond; exact rfl; all_goals intro hg))
            all_goals first
              | (exfalso; omega)
              | (refine ret_i rfl ?_; simp_all; done)
      · rw [Bool.not_eq_true] at hfo
        rw [hfo] at w3 ⊢
        repeat' (first | (apply ds_evC; exact rfl; (first | (with_reducible exact trivial) | omega); (with_reducible exact rfl); exact rfl; exact rfl; exact rfl) | apply ds_nil | (apply dt_ev; exact rfl; exact rfl; (first | (with_reducible exact trivial) | omega); (first | ((with_reducible apply hv_row); (exact (Int.toNat_of_nonneg (by omega)).symm); (omega)) | (with_reducible exact rfl)); exact rfl; exact rfl; exact rfl; exact rfl) | (apply dt_nil0; exact rfl; exact rfl; exact rfl; exact rfl) | apply dw_seq2 | (apply ds_region; exact rfl) | (apply dw_any; kernel_rfl; kernel_rfl; exact rfl; exact rfl) | apply dw_skip | apply dw_ret | (apply dw_condT; exact rfl) | (apply dw_condF; exact rfl) | apply thenD_n | apply thenD_r | (apply ds_call; exact rfl; exact rfl; apply w1; exact rfl; (exact rfl); exact rfl; rintro _ rfl) | (apply ds_call; exact rfl; exact rfl; apply w2; exact rfl; (exact rfl); exact rfl; rintro _ rfl) | (apply ds_call; exact rfl; exact rfl; apply w3; exact rfl; (exact rfl); exact rfl; rintro _ rfl) | (apply ds_call; exact rfl; exact rfl; apply w4; exact rfl; (exact rfl); exact rfl; rintro _ rfl) | (apply ds_newC; exact rfl; (with_reducible exact trivial); exact rfl; exact rfl; exact rfl) | (apply dw_condP; exact rfl; all_goals intro hg))
        all_goals (refine ret_i rfl ?_; (repeat' split) <;> (first | rfl | (exfalso; omega) | contradiction))
    · rw [Bool.not_eq_true] at hv
      rw [hv] at w2 ⊢
      repeat' (first | (apply ds_evC; exact rfl; (first | (with_reducible exact trivial) | omega); (with_reducible exact rfl); exact rfl; exact rfl; exact rfl) | apply ds_nil | (apply dt_ev; exact rfl; exact rfl; (first | (with_reducible exact trivial) | omega); (first | ((with_reducible apply hv_row); (exact (Int.toNat_of_nonneg (by omega)).symm); (omega)) | (with_reducible exact rfl)); exact rfl; exact rfl; exact rfl; exact rfl) | (apply dt_nil0; exact rfl; exact rfl; exact rfl; exact rfl) | apply dw_seq2 | (apply ds_region; exact rfl) | (apply dw_any; kernel_rfl; kernel_rfl; exact rfl; exact rfl) | apply dw_skip | apply dw_ret | (apply dw_condT; exact rfl) | (apply dw_condF; exact rfl) | apply thenD_n | apply thenD_r | (apply ds_call; exact rfl; exact rfl; apply w1; exact rfl; (exact rfl); exact rfl; rintro _ rfl) | (apply ds_call; exact rfl; exact rfl; apply w2; exact rfl; (exact rfl); exact rfl; rintro _ rfl) | (apply ds_newC; exact rfl; (with_reducible exact trivial); exact rfl; exact rfl; exact rfl) | (apply dw_condP; exact rfl; all_goals intro hg))
      all_goals (refine ret_i rfl ?_; (repeat' split) <;> (first | rfl | (exfalso; omega) | contradiction))
  · rw [Bool.not_eq_true] at hp
    rw [hp] at w1 ⊢
    rw [if_pos rfl]
    repeat' (first | (apply ds_evC; exact rfl; (first | (with_reducible exact trivial) | omega); (with_reducible exact rfl); exact rfl; exact rfl; exact rfl) | apply ds_nil | apply dw_seq2 | (apply ds_region; exact rfl) | apply dw_ret | (apply dw_condT; exact rfl) | apply thenD_n | apply thenD_r | (apply ds_call; exact rfl; exact rfl; apply w1; exact rfl; (exact rfl); exact rfl; rintro _ rfl) | (apply ds_newC; exact rfl; (with_reducible exact trivial); exact rfl; exact rfl; exact rfl))
    all_goals exact ret_i rfl rfl
end Go.Proofs.YtapciiffpnociabGreat

/- The document's CheckProgram. Condition: none. -/
namespace Go.Proofs.YtapciiffpnociabGreat
open Go Go.RowKit
attribute [local irreducible] DW DS DL DQ Ev FnOk FnP thenD inBlockD DT
set_option maxHeartbeats 8000000 in
theorem rcheck_fn (p : Prg) : Fn 52 [elPrg p] (fun x => x = .d (.int .i64 (progE nameR p))) := by
  refine fnp_enter' _ Tryz.func52 rfl rfl (by kernel_rfl) ?_
  intro O w0 E0 β0
  have la : (p.arity.map encI).length = p.arity.length := List.length_map _
  have lb : (p.names.map encT).length = p.names.length := List.length_map _
  have lc : (p.rules.map encRul).length = p.rules.length := List.length_map _
  refine dw_lenA 0 0 rfl rfl (fun hk => ?_)
  refine dw_lenA 0 1 rfl rfl (fun hk1 => ?_)
  refine dw_lenA 0 2 rfl rfl (fun hk2 => ?_)
  unfold progE
  by_cases h1 : 10 < p.arity.length ∨ 12 < p.rules.length
  · rw [if_pos h1]
    repeat' (first | (apply ds_evC; exact rfl; (with_reducible exact trivial); (with_reducible exact rfl); exact rfl; exact rfl; exact rfl) | (apply ds_skip; exact rfl; exact rfl) | apply ds_nil | apply dw_seq2 | (apply ds_region; exact rfl) | apply dw_block | apply dw_skip | apply dw_ret | (apply dw_condT; exact rfl) | apply thenD_n | apply thenD_r | (apply ds_newC; exact rfl; (with_reducible exact trivial); exact rfl; exact rfl; exact rfl) | (apply dw_condP; exact rfl; all_goals intro hg) | ((fail_if_success (apply ds_known; exact rfl)); apply ds_guardP; exact rfl; exact rfl; exact rfl; all_goals intro hg))
    all_goals first
      | (exfalso; omega)
      | exact ret_i rfl rfl
  · rw [if_neg h1]
    by_cases h2 : p.names.length ≠ p.arity.length
    · rw [if_pos h2]
      repeat' (first | (apply ds_evC; exact rfl; (with_reducible exact trivial); (with_reducible exact rfl); exact rfl; exact rfl; exact rfl) | (apply ds_skip; exact rfl; exact rfl) | apply ds_nil | apply dw_seq2 | (apply ds_region; exact rfl) | apply dw_block | apply dw_skip | apply dw_ret | (apply dw_condT; exact rfl) | apply thenD_n | apply thenD_r | (apply ds_newC; exact rfl; (with_reducible exact trivial); exact rfl; exact rfl; exact rfl) | (apply dw_condP; exact rfl; all_goals intro hg) | ((fail_if_success (apply ds_known; exact rfl)); apply ds_guardP; exact rfl; exact rfl; exact rfl; all_goals intro hg))
      all_goals first
        | (exfalso; omega)
        | exact ret_i rfl rfl
    · rw [if_neg h2]
      generalize hres : (if firstI (nameE nameR p) 0 p.names.length ≠ 0 then firstI (nameE nameR p) 0 p.names.length else firstL (ruleE p.arity) p.rules) = res
      repeat' (first | (apply ds_evC; exact rfl; (with_reducible exact trivial); (with_reducible exact rfl); exact rfl; exact rfl; exact rfl) | (apply ds_skip; exact rfl; exact rfl) | apply ds_nil | apply dw_seq2 | (apply ds_region; exact rfl) | apply dw_block | apply dw_skip | apply dw_ret | (apply dw_condT; exact rfl) | apply thenD_n | apply thenD_r | (apply ds_newC; exact rfl; (with_reducible exact trivial); exact rfl; exact rfl; exact rfl) | (apply dw_condP; exact rfl; all_goals intro hg) | ((fail_if_success (apply ds_known; exact rfl)); apply ds_guardP; exact rfl; exact rfl; exact rfl; all_goals intro hg))
      all_goals try (exfalso; omega)
      refine ds_loop (ι := Nat) (fun i => ⟨1, [(1, .loc 0 0), (2, .d (.int .i64 0)), (3, .d (.int .i64 i))], [(0, prgB p)]⟩)
        (fun i => i ≤ p.names.length ∧ firstI (nameE nameR p) 0 p.names.length = firstI (nameE nameR p) i (p.names.length - i)) (fun i => p.names.length - i) 0 ⟨Nat.zero_le _, rfl⟩ (ent_ren id ⟨rfl, rfl, rfl, trivial⟩ ⟨rfl, trivial⟩ rfl rfl rfl rfl rfl rfl) ?_
      rintro i ⟨g1, g2⟩
      by_cases hi : i < p.names.length
      · have ha : p.arity.getD i 0 = p.arity[i]'(by omega) := by rw [List.getD, List.getElem?_eq_getElem (by omega)]; rfl
        have hn : p.names.getD i ⟨#[]⟩ = p.names[i] := by rw [List.getD, List.getElem?_eq_getElem hi]; rfl
        rw [firstI_step hi, show nameE nameR p i = if inR (p.arity.getD i 0) 0 3 = false then 3 else if nameR (p.names.getD i ⟨#[]⟩) = false then 1 else if (p.names.take i).any (fun s => decide (s = p.names.getD i ⟨#[]⟩)) then 6 else 0 from rfl, ha, hn] at g2
        have wn := isName_fn p.names[i]
        have wa := sbetween_fn (p.arity[i]'(by omega)) 0 3
        generalize inR (p.arity[i]'(by omega)) 0 3 = ba at g2 wa
        generalize nameR p.names[i] = bn at g2 wn
        have hret : ∀ e, e ≠ 0 → firstI (nameE nameR p) 0 p.names.length = e → e = res := by
          rintro e he h
          rw [← hres, h, if_pos he]
        cases ba with
        | false =>
          repeat' (first | (apply ds_evC; exact rfl; (first | (with_reducible exact trivial) | omega); (first | ((with_reducible apply hv_row); (exact rfl); (omega)) | (with_reducible exact rfl)); exact rfl; exact rfl; exact rfl) | apply ds_nil | apply dw_seq2 | (apply ds_region; exact rfl) | apply dw_block | apply dw_skip | apply dw_exit | apply dw_ret | (apply dw_condT; exact rfl) | apply thenD_n | apply thenD_e | apply thenD_r | apply inB_r | (apply inB_e; exact rfl) | (apply ds_call; exact rfl; exact rfl; apply wa; exact rfl; (exact rfl); exact rfl; rintro _ rfl) | (apply dw_condP; exact rfl; all_goals intro hg))
          all_goals first
            | (exfalso; omega)
            | exact ret_i rfl (hret 3 (by decide) g2)
        | true =>
          cases bn with
          | false =>
            repeat' (first | (apply ds_evC; exact rfl; (first | (with_reducible exact trivial) | omega); (first | ((with_reducible apply hv_row); (exact rfl); (omega)) | (with_reducible exact rfl)); exact rfl; exact rfl; exact rfl) | apply ds_nil | apply dw_seq2 | (apply ds_region; exact rfl) | apply dw_block | apply dw_skip | apply dw_exit | apply dw_ret | (apply dw_condT; exact rfl) | (apply dw_condF; exact rfl) | apply thenD_n | apply thenD_e | apply thenD_r | apply inB_r | (apply inB_e; exact rfl) | (apply ds_call; exact rfl; exact rfl; apply wa; exact rfl; (exact rfl); exact rfl; rintro _ rfl) | (apply ds_call; exact rfl; exact rfl; apply wn; exact rfl; (exact rfl); exact rfl; rintro _ rfl) | (apply dw_condP; exact rfl; all_goals intro hg))
            all_goals first
              | (exfalso; omega)
              | exact ret_i rfl (hret 1 (by decide) g2)
          | true =>
            have lt : (p.names.take i).length = i := by simp; omega
            repeat' (first | (apply ds_evC; exact rfl; (first | (with_reducible exact trivial) | omega); (first | ((with_reducible apply hv_row); (exact rfl); (omega)) | (with_reducible exact rfl)); exact rfl; exact rfl; exact rfl) | apply ds_nil | apply dw_seq2 | (apply ds_region; exact rfl) | apply dw_block | apply dw_skip | apply dw_exit | (apply dw_condF; exact rfl) | apply thenD_n | apply thenD_e | (apply inB_e; exact rfl) | (apply ds_call; exact rfl; exact rfl; apply wa; exact rfl; (exact rfl); exact rfl; rintro _ rfl) | (apply ds_call; exact rfl; exact rfl; apply wn; exact rfl; (exact rfl); exact rfl; rintro _ rfl) | (apply dw_condP; exact rfl; all_goals intro hg))
            all_goals try (exfalso; omega)
            refine ds_loop (ι := Nat) (fun j => ⟨1, [(1, .loc 0 0), (2, .d (.int .i64 0)), (3, .d (.int .i64 i)), (4, .d (.int .i64 j))], [(0, prgB p)]⟩)
              (fun j => j ≤ i ∧ (p.names.take i).any (fun s => decide (s = p.names[i])) = ((p.names.take i).drop j).any (fun s => decide (s = p.names[i]))) (fun j => i - j) 0 ⟨Nat.zero_le _, rfl⟩ (ent_ren id ⟨rfl, rfl, rfl, rfl, trivial⟩ ⟨rfl, trivial⟩ rfl rfl rfl rfl rfl rfl) ?_
            rintro j ⟨e1, e2⟩
            by_cases hj : j < i
            · rw [List.drop_eq_getElem_cons (by omega), List.any_cons, List.getElem_take] at e2
              repeat' (first | (apply ds_evC; exact rfl; (first | (with_reducible exact trivial) | omega); (with_reducible exact rfl); exact rfl; exact rfl; exact rfl) | apply ds_nil | (apply dt_ev; exact rfl; exact rfl; (first | (with_reducible exact trivial) | omega); (first | ((with_reducible apply hv_row); (exact rfl); (omega)) | (with_reducible exact rfl)); exact rfl; exact rfl; exact rfl; exact rfl) | (apply dt_nil0; exact rfl; exact rfl; exact rfl; exact rfl) | apply dw_seq2 | (apply ds_region; exact rfl) | (apply dw_any; kernel_rfl; kernel_rfl; exact rfl; exact rfl) | apply dw_block | apply dw_skip | apply dw_exit | apply dw_ret | apply thenD_n | apply thenD_e | apply thenD_r | apply inB_n | apply inB_r | (apply inB_e; exact rfl) | (apply dw_condP; exact rfl; all_goals intro hg))
              all_goals try (exfalso; omega)
              · have hh : p.names[j]'(by omega) = p.names[i] := by assumption
                rw [decide_eq_true hh, Bool.true_or] at e2
                rw [e2] at g2
                exact ret_i rfl (hret 6 (by decide) g2)
              · have hh : ¬ p.names[j]'(by omega) = p.names[i] := by assumption
                rw [decide_eq_false hh, Bool.false_or] at e2
                exact ⟨j + 1, ⟨by omega, e2⟩, ent_ren id ⟨rfl, rfl, rfl, rfl, trivial⟩ ⟨rfl, trivial⟩ rfl rfl rfl rfl rfl rfl, by show i - (j + 1) < i - j; omega⟩
            · rw [List.drop_of_length_le (by omega)] at e2
              rw [e2] at g2
              repeat' (first | (apply ds_evC; exact rfl; (first | (with_reducible exact trivial) | omega); (with_reducible exact rfl); exact rfl; exact rfl; exact rfl) | apply ds_nil | (apply dt_ev; exact rfl; exact rfl; (first | (with_reducible exact trivial) | omega); (first | ((with_reducible apply hv_row); (exact rfl); (omega)) | (with_reducible exact rfl)); exact rfl; exact rfl; exact rfl; exact rfl) | (apply dt_nil0; exact rfl; exact rfl; exact rfl; exact rfl) | apply dw_seq2 | (apply ds_region; exact rfl) | (apply dw_any; kernel_rfl; kernel_rfl; exact rfl; exact rfl) | apply dw_block | apply dw_skip | apply dw_exit | apply dw_ret | apply thenD_n | apply thenD_e | apply thenD_r | apply inB_n | apply inB_r | (apply inB_e; exact rfl) | (apply dw_condP; exact rfl; all_goals intro hg))
              all_goals try (exfalso; omega)
              exact ⟨i + 1, ⟨by omega, g2⟩, ent_ren id ⟨rfl, rfl, rfl, trivial⟩ ⟨rfl, trivial⟩ rfl rfl rfl rfl rfl rfl, by show p.names.length - (i + 1) < p.names.length - i; omega⟩
      · rw [firstI_end (by omega)] at g2
        have hres : firstL (ruleE p.arity) p.rules = res := by rw [← hres, g2, if_neg (by decide)]
        repeat' (first | (apply ds_evC; exact rfl; (first | (with_reducible exact trivial) | omega); (first | ((with_reducible apply hv_row); (exact rfl); (omega)) | (with_reducible exact rfl)); exact rfl; exact rfl; exact rfl) | apply ds_nil | apply dw_seq2 | (apply ds_region; exact rfl) | apply dw_block | apply dw_skip | apply dw_exit | apply thenD_n | apply thenD_e | (apply inB_e; exact rfl) | (apply dw_condP; exact rfl; all_goals intro hg))
        all_goals try (exfalso; omega)
        refine ds_loop (ι := Nat) (fun j => ⟨1, [(1, .loc 0 0), (2, .d (.int .i64 0)), (5, .d (.int .i64 j))], [(0, prgB p)]⟩)
          (fun j => j ≤ p.rules.length ∧ res = firstL (ruleE p.arity) (p.rules.drop j)) (fun j => p.rules.length - j) 0 ⟨Nat.zero_le _, hres.symm⟩ (ent_ren id ⟨rfl, rfl, rfl, trivial⟩ ⟨rfl, trivial⟩ rfl rfl rfl rfl rfl rfl) ?_
        rintro j ⟨e1, e2⟩
        by_cases hj : j < p.rules.length
        · rw [firstL_step hj] at e2
          have w6 := rrule_fn p p.rules[j]
          generalize ruleE p.arity p.rules[j] = le at w6 e2
          repeat' (first | (apply ds_evC; exact rfl; (first | (with_reducible exact trivial) | omega); (with_reducible exact rfl); exact rfl; exact rfl; exact rfl) | apply ds_nil | (apply dt_ev; exact rfl; exact rfl; (first | (with_reducible exact trivial) | omega); (first | ((with_reducible apply hv_row); (exact rfl); (omega)) | (with_reducible exact rfl)); exact rfl; exact rfl; exact rfl; exact rfl) | (apply dt_nil0; exact rfl; exact rfl; exact rfl; exact rfl) | apply dw_seq2 | (apply ds_region; exact rfl) | (apply dw_any; kernel_rfl; kernel_rfl; exact rfl; exact rfl) | apply dw_block | apply dw_skip | apply dw_exit | apply dw_ret | apply thenD_n | apply thenD_e | apply thenD_r | apply inB_n | apply inB_r | (apply inB_e; exact rfl) | (apply dt_call; exact rfl; exact rfl; apply w6; exact rfl; (exact rfl); exact rfl; exact rfl; exact ⟨_, rfl⟩; rintro _ rfl) | (apply dw_condP; exact rfl; all_goals intro hg))
          all_goals first
            | (exfalso; omega)
            | (refine ret_i rfl ?_; rw [e2, if_pos (by assumption)]; done)
            | exact ⟨j + 1, ⟨by omega, by rw [e2, if_neg (by assumption)]⟩, ent_ren id ⟨rfl, rfl, rfl, trivial⟩ ⟨rfl, trivial⟩ rfl rfl rfl rfl rfl rfl, by show p.rules.length - (j + 1) < p.rules.length - j; omega⟩
        · rw [firstL_end (by omega)] at e2
          repeat' (first | (apply ds_evC; exact rfl; (with_reducible exact trivial); (with_reducible exact rfl); exact rfl; exact rfl; exact rfl) | apply ds_nil | (apply dt_ev; exact rfl; exact rfl; (first | (with_reducible exact trivial) | omega); (first | ((with_reducible apply hv_row); (exact rfl); (omega)) | (with_reducible exact rfl)); exact rfl; exact rfl; exact rfl; exact rfl) | apply dw_seq2 | (apply ds_region; exact rfl) | (apply dw_any; kernel_rfl; kernel_rfl; exact rfl; exact rfl) | apply dw_block | apply dw_skip | apply dw_exit | apply dw_ret | apply thenD_n | apply thenD_e | (apply inB_e; exact rfl) | (apply dw_condP; exact rfl; all_goals intro hg))
          all_goals first
            | (exfalso; omega)
            | exact ret_i rfl e2.symm
end Go.Proofs.YtapciiffpnociabGreat

/- Plain laws on tokens: what is scanned is a token by itself; what is joined is scanned as it was. Condition: none. -/
namespace Go.Proofs.YtapciiffpnociabGreat
open Go Go.RowKit
theorem tokAt_37 (l : List UInt8) : (tokAt (37 :: l)).1 = 0 := by
  rw [tokAt_cons, if_neg (by unfold letterB smallB greatB; decide), if_neg (by unfold digitB; decide), if_neg (by unfold pairB; cases l <;> simp), if_neg (by decide)]
theorem tokAt_32 (l : List UInt8) : (tokAt (32 :: l)).1 = 0 := by
  rw [tokAt_cons, if_neg (by unfold letterB smallB greatB; decide), if_neg (by unfold digitB; decide), if_neg (by unfold pairB; cases l <;> simp), if_neg (by decide)]
theorem tokAt_9 (l : List UInt8) : (tokAt (9 :: l)).1 = 0 := by
  rw [tokAt_cons, if_neg (by unfold letterB smallB greatB; decide), if_neg (by unfold digitB; decide), if_neg (by unfold pairB; cases l <;> simp), if_neg (by decide)]
theorem tokAt_10 (l : List UInt8) : (tokAt (10 :: l)).1 = 0 := by
  rw [tokAt_cons, if_neg (by unfold letterB smallB greatB; decide), if_neg (by unfold digitB; decide), if_neg (by unfold pairB; cases l <;> simp), if_neg (by decide)]
theorem tokErr_kind {k : Int} {n : Nat} {c : UInt8} (h : tokErr k n c = 0) : k ≠ 0 := by
  intro hk
  rw [tokErr_eq, if_pos hk] at h
  cases h
theorem drop_byte (s : ByteArray) (i : Nat) (h : i < s.size) : s.data.toList.drop i = s[i] :: s.data.toList.drop (i + 1) := by
  rw [List.drop_eq_getElem_cons (by simpa using h)]; rfl
theorem ext_list (s : ByteArray) (i n : Nat) : (s.extract i (i + n)).data.toList = (s.data.toList.drop i).take n := by
  simp [ByteArray.data_extract, Array.toList_extract, List.extract_eq_take_drop]
theorem bytes_inj {a b : ByteArray} (h : a.data.toList = b.data.toList) : a = b := ByteArray.ext (Array.ext' h)
theorem scan_one (s : ByteArray) (i : Nat) (k : Int) (n : Nat) (h : i < s.size) (ht : tokAt (s.data.toList.drop i) = (k, n)) (he : tokErr k n s[i] = 0) :
    scanAt s false i = (scanAt s false (i + n)).map (Tok.mk k i (s.extract i (i + n)) :: ·) := by
  have hk := tokErr_kind he
  have hd := drop_byte s i h
  have hb : ∀ c : UInt8, (∀ l, (tokAt (c :: l)).1 = 0) → s[i] ≠ c := by
    intro c hc e
    rw [hd, e] at ht
    have := hc (s.data.toList.drop (i + 1))
    rw [ht] at this
    exact hk this
  have h37 := hb 37 tokAt_37
  have h32 := hb 32 tokAt_32
  have h9 := hb 9 tokAt_9
  have h10 := hb 10 tokAt_10
  have := scanAt_tok s i h (by simpa using h37) (by simp [h32, h9, h10]) (by rw [ht]; exact he)
  rw [ht] at this
  exact this
def Chain (s : ByteArray) : Nat → List Tok → Prop
  | _, [] => True
  | i, t :: l => ∃ j, i ≤ j ∧ t.at_ = j ∧ (∃ h : j < s.size, tokAt (s.data.toList.drop j) = (t.kind, t.text.size) ∧ tokErr t.kind t.text.size s[j] = 0) ∧ j + t.text.size ≤ s.size ∧ t.text = s.extract j (j + t.text.size) ∧ Chain s (j + t.text.size) l
theorem Chain.mono {s : ByteArray} {i i' : Nat} {l : List Tok} (h : Chain s i' l) (hi : i ≤ i') : Chain s i l := by
  cases l with
  | nil => trivial
  | cons t l =>
    obtain ⟨j, h1, h2⟩ := h
    exact ⟨j, Nat.le_trans hi h1, h2⟩
theorem scanGo_chain (s : ByteArray) : ∀ (f : Nat) (note : Bool) (i : Nat) (l : List Tok), scanGo s f note i = .ok l → Chain s i l := by
  intro f
  induction f with
  | zero =>
    intro note i l h
    simp only [scanGo] at h
    cases h
    trivial
  | succ f ih =>
    intro note i l h
    simp only [scanGo] at h
    by_cases hi : i < s.size
    · rw [dif_pos hi] at h
      split at h
      · exact (ih _ _ _ h).mono (by omega)
      · split at h
        · exact (ih _ _ _ h).mono (by omega)
        · split at h
          · rename_i he
            cases hr : scanGo s f false (i + (tokAt (s.data.toList.drop i)).2) with
            | error e => rw [hr] at h; cases h
            | ok l' =>
              rw [hr] at h
              cases h
              have hle := tokAt_le (s.data.toList.drop i)
              rw [List.length_drop, show s.data.toList.length = s.size from Array.length_toList] at hle
              have hsz : (s.extract i (i + (tokAt (s.data.toList.drop i)).2)).size = (tokAt (s.data.toList.drop i)).2 := by rw [ByteArray.size_extract]; omega
              exact ⟨i, Nat.le_refl _, rfl, ⟨hi, by rw [hsz], by rw [hsz]; exact he⟩, by rw [hsz]; omega, by rw [hsz], by rw [hsz]; exact ih _ _ _ hr⟩
          · cases h
    · rw [dif_neg hi] at h
      cases h
      trivial
theorem scanGo_err (s : ByteArray) : ∀ (f : Nat) (note : Bool) (i : Nat) (p e : Int), scanGo s f note i = .error (p, e) → e ≠ 0 := by
  intro f
  induction f with
  | zero =>
    intro note i p e h
    simp only [scanGo] at h
    cases h
  | succ f ih =>
    intro note i p e h
    simp only [scanGo] at h
    by_cases hi : i < s.size
    · rw [dif_pos hi] at h
      split at h
      · exact ih _ _ _ _ h
      · split at h
        · exact ih _ _ _ _ h
        · split at h
          · cases hr : scanGo s f false (i + (tokAt (s.data.toList.drop i)).2) with
            | error e' => rw [hr] at h; cases h; exact ih _ _ _ _ hr
            | ok l' => rw [hr] at h; cases h
          · rename_i he
            injection h with h
            injection h with h1 h2
            rw [← h2]; exact he
    · rw [dif_neg hi] at h
      cases h
theorem scanS_chain (s : ByteArray) (l : List Tok) (p : Int) (h : scanS s = (l, p, 0)) : Chain s 0 l ∧ s.size ≤ 5000 ∧ p = 0 := by
  unfold scanS at h
  split at h
  · injection h with h1 h2; injection h2 with h2 h3; cases h3
  · rename_i hs
    split at h
    · rename_i l' hl
      injection h with h1 h2
      injection h2 with h2 h3
      subst h1
      unfold scanAt at hl
      exact ⟨scanGo_chain _ _ _ _ _ hl, by omega, h2.symm⟩
    · rename_i p' e hl
      injection h with h1 h2
      injection h2 with h2 h3
      subst h1
      unfold scanAt at hl
      exact absurd h3 (scanGo_err _ _ _ _ _ _ hl)
theorem isTok_eq (kind : Int) (s : ByteArray) : isTok kind s = true ↔ ∃ h : 0 < s.size, s.size ≤ 5000 ∧ tokAt s.data.toList = (kind, s.size) ∧ tokErr kind s.size s[0] = 0 := by
  unfold isTok
  by_cases h : 0 < s.size
  · rw [dif_pos h]
    simp only [Bool.and_eq_true, decide_eq_true_eq]
    constructor
    · rintro ⟨⟨⟨⟨h1, h2⟩, h3⟩, h4⟩, h5⟩
      exact ⟨h, h1, Prod.ext h3 h4, h5⟩
    · rintro ⟨_, h1, h2, h3⟩
      exact ⟨⟨⟨⟨h1, tokErr_kind h3⟩, by rw [h2]⟩, by rw [h2]⟩, h3⟩
  · rw [dif_neg h]
    exact ⟨fun h' => absurd h' Bool.false_ne_true, fun ⟨h', _⟩ => absurd h' h⟩
theorem oneS_eq (kind : Int) (s : ByteArray) : oneS kind s = isTok kind s := by
  rw [Bool.eq_iff_iff, isTok_eq]
  constructor
  · intro h
    unfold oneS at h
    split at h
    · rename_i t p e hs
      simp only [Bool.and_eq_true, decide_eq_true_eq] at h
      obtain ⟨h1, h2, h3⟩ := h
      subst h1
      obtain ⟨⟨j, g1, g2, ⟨g3, g4, g5⟩, g6, g7, _⟩, hsz, _⟩ := scanS_chain s [t] p hs
      rw [h3] at g4 g5 g6
      have hj : j = 0 := by omega
      subst hj
      rw [h2] at g4 g5
      exact ⟨g3, hsz, g4, g5⟩
    · cases h
  · rintro ⟨h, h1, h2, h3⟩
    have := scan_one s 0 kind s.size h h2 h3
    rw [scanAt_end s false (0 + s.size) (by omega)] at this
    have hext : s.extract 0 (0 + s.size) = s := bytes_inj (by rw [ext_list, List.drop_zero]; exact List.take_of_length_le (Nat.le_of_eq (Array.length_toList (xs := s.data))))
    rw [hext] at this
    unfold oneS
    rw [scanS_ok s (by omega) _ this]
    simp
end Go.Proofs.YtapciiffpnociabGreat

/- Programs: Check and the document's CheckProgram say the same. Condition: none. -/
namespace Go.Proofs.YtapciiffpnociabGreat
open Go Go.RowKit
theorem name_eq : nameS = nameR := by
  funext s
  unfold nameS nameR
  rw [oneS_eq]
theorem scheck_fn (p : Prg) : Fn 121 [elPrg p] (fun x => x = .d (.int .i64 (progE nameR p))) := name_eq ▸ check_fn p
end Go.Proofs.YtapciiffpnociabGreat


/- What is wrong with facts, and ahead of ways: the program's and the document's. Condition: none. -/
namespace Go.Proofs.YtapciiffpnociabGreat
open Go Go.RowKit
def factsE (arity : List Int) (l : List Fct) : Int := if 60 < l.length then 2 else firstL (factE arity) l
def waysE (p : Prg) (n : Int) (l : List Fct) : Int := if progE nameR p ≠ 0 then progE nameR p else if n < 0 ∨ (p.rules.length : Int) ≤ n then 5 else factsE p.arity l
attribute [local irreducible] DW DS DL DQ Ev FnOk FnP thenD inBlockD DT
set_option maxHeartbeats 8000000 in
theorem right1_fn (n : Int) : Fn 182 [.d (.int .i64 n)] (fun r => r = .d (.bool (!numB n))) := by
  refine fnp_enter' _ Tryz.func182 rfl rfl (by kernel_rfl) ?_
  intro O w0 E0 β0
  repeat' (first | (apply ds_evC; exact rfl; (with_reducible exact trivial); (with_reducible exact rfl); exact rfl; exact rfl; exact rfl) | apply ds_nil | apply dw_seq2 | (apply ds_region; exact rfl) | apply dw_ret | apply thenD_n | (apply ds_call; exact rfl; exact rfl; apply snumber_fn; exact rfl; (exact rfl); exact rfl; rintro _ rfl))
  exact ⟨.inl rfl, _, rfl, rfl, rfl⟩
set_option maxHeartbeats 8000000 in
theorem fright_fn (p : Prg) (x : Fct) : Fn 139 [elPrg p, elFct x] (fun r => r = .d (.int .i64 (factE p.arity x))) := by
  refine fnp_enter' _ Tryz.func139 rfl rfl (by kernel_rfl) ?_
  intro O w0 E0 β0
  have la : (p.arity.map encI).length = p.arity.length := List.length_map _
  have lx : (x.args.map encI).length = x.args.length := List.length_map _
  refine dw_lenA 0 0 rfl rfl fun hk => ?_
  have w1 := containsFuncInt_fn (caps := []) (f := 182) (fun n => !numB n) x.args rfl (fun n _ => right1_fn n)
  have w0 : Fn 181 [.d (.int .i64 x.pred), .d (.int .i64 0), .d (.int .i64 (((p.arity.map encI).length : Int) - 1))] (fun r => r = .d (.bool (inR x.pred 0 ((p.arity.length : Int) - 1)))) := by rw [la]; exact swithin_fn _ _ _
  unfold factE
  cases h1 : inR x.pred 0 ((p.arity.length : Int) - 1) with
  | false =>
    rw [h1] at w0
    rw [if_pos rfl]
    repeat' (first | (apply ds_evC; exact rfl; (first | (with_reducible exact trivial) | omega); (with_reducible exact rfl); exact rfl; exact rfl; exact rfl) | apply ds_nil | apply dw_seq2 | (apply ds_region; exact rfl) | apply dw_block | apply dw_ret | (apply dw_condT; exact rfl) | apply thenD_n | apply thenD_r | apply inB_r | (apply ds_call; exact rfl; exact rfl; apply w0; exact rfl; (exact rfl); exact rfl; rintro _ rfl) | (apply ds_newC; exact rfl; (with_reducible exact trivial); exact rfl; exact rfl; exact rfl))
    all_goals try (exfalso; omega)
    exact ⟨.inl rfl, _, rfl, rfl, rfl⟩
  | true =>
    rw [h1] at w0
    rw [if_neg (by simp)]
    have hr : 0 ≤ x.pred ∧ x.pred < p.arity.length := by unfold inR at h1; simp at h1; omega
    have hlt : x.pred.toNat < p.arity.length := by omega
    have hg' : p.arity.getD x.pred.toNat 0 = p.arity[x.pred.toNat] := by rw [List.getD, List.getElem?_eq_getElem hlt]; rfl
    rw [hg']
    by_cases h2 : (x.args.length : Int) ≠ p.arity[x.pred.toNat]
    · rw [if_pos h2]
      repeat' (first | (apply ds_evC; exact rfl; (first | (with_reducible exact trivial) | omega); (with_reducible exact rfl); exact rfl; exact rfl; exact rfl) | apply ds_nil | (apply dt_ev; exact rfl; exact rfl; (first | (with_reducible exact trivial) | omega); (first | ((with_reducible apply hv_row); (exact (Int.toNat_of_nonneg (by omega)).symm); (omega)) | (with_reducible exact rfl)); exact rfl; exact rfl; exact rfl; exact rfl) | (apply dt_nil0; exact rfl; exact rfl; exact rfl; exact rfl) | apply dw_seq2 | (apply ds_region; exact rfl) | (apply dw_any; kernel_rfl; kernel_rfl; exact rfl; exact rfl) | apply dw_block | apply dw_ret | (apply dw_condF; exact rfl) | apply thenD_n | apply thenD_r | apply inB_r | (apply ds_call; exact rfl; exact rfl; apply w0; exact rfl; (exact rfl); exact rfl; rintro _ rfl) | (apply ds_newC; exact rfl; (with_reducible exact trivial); exact rfl; exact rfl; exact rfl) | (apply dw_condP; exact rfl; all_goals intro hg))
      all_goals try (exfalso; omega)
      exact ⟨.inl rfl, _, rfl, rfl, rfl⟩
    · rw [if_neg h2]
      cases h3 : x.args.any (fun n => !numB n) with
      | true =>
        rw [h3] at w1
        repeat' (first | (apply ds_evC; exact rfl; (first | (with_reducible exact trivial) | omega); (with_reducible exact rfl); exact rfl; exact rfl; exact rfl) | apply ds_nil | (apply dt_ev; exact rfl; exact rfl; (first | (with_reducible exact trivial) | omega); (first | ((with_reducible apply hv_row); (exact (Int.toNat_of_nonneg (by omega)).symm); (omega)) | (with_reducible exact rfl)); exact rfl; exact rfl; exact rfl; exact rfl) | (apply dt_nil0; exact rfl; exact rfl; exact rfl; exact rfl) | apply dw_seq2 | (apply ds_region; exact rfl) | (apply dw_any; kernel_rfl; kernel_rfl; exact rfl; exact rfl) | apply dw_block | apply dw_ret | (apply dw_condT; exact rfl) | (apply dw_condF; exact rfl) | apply thenD_n | apply thenD_r | apply inB_r | (apply ds_call; exact rfl; exact rfl; apply w0; exact rfl; (exact rfl); exact rfl; rintro _ rfl) | (apply ds_call; exact rfl; exact rfl; apply w1; exact rfl; (exact rfl); exact rfl; rintro _ rfl) | (apply ds_newC; exact rfl; (with_reducible exact trivial); exact rfl; exact rfl; exact rfl) | (apply dw_condP; exact rfl; all_goals intro hg))
        all_goals try (exfalso; omega)
        exact ⟨.inl rfl, _, rfl, rfl, rfl⟩
      | false =>
        rw [h3] at w1
        repeat' (first | (apply ds_evC; exact rfl; (first | (with_reducible exact trivial) | omega); (with_reducible exact rfl); exact rfl; exact rfl; exact rfl) | apply ds_nil | (apply dt_ev; exact rfl; exact rfl; (first | (with_reducible exact trivial) | omega); (first | ((with_reducible apply hv_row); (exact (Int.toNat_of_nonneg (by omega)).symm); (omega)) | (with_reducible exact rfl)); exact rfl; exact rfl; exact rfl; exact rfl) | (apply dt_nil0; exact rfl; exact rfl; exact rfl; exact rfl) | apply dw_seq2 | (apply ds_region; exact rfl) | (apply dw_any; kernel_rfl; kernel_rfl; exact rfl; exact rfl) | apply dw_block | apply dw_skip | apply dw_ret | (apply dw_condF; exact rfl) | apply thenD_n | apply thenD_r | apply inB_n | apply inB_r | (apply ds_call; exact rfl; exact rfl; apply w0; exact rfl; (exact rfl); exact rfl; rintro _ rfl) | (apply ds_call; exact rfl; exact rfl; apply w1; exact rfl; (exact rfl); exact rfl; rintro _ rfl) | (apply ds_newC; exact rfl; (with_reducible exact trivial); exact rfl; exact rfl; exact rfl) | (apply dw_condP; exact rfl; all_goals intro hg))
        all_goals try (exfalso; omega)
        exact ⟨.inl rfl, _, rfl, rfl, rfl⟩
set_option maxHeartbeats 8000000 in
theorem ready_fn (p : Prg) (n : Int) (l : List Fct) : Fn 95 [elPrg p, .d (.int .i64 n), .d (.slice 2 (l.map encFct))] (fun r => r = .d (.int .i64 (waysE p n l))) := by
  refine fnp_enter' _ Tryz.func95 rfl rfl (by kernel_rfl) ?_
  intro O w0 E0 β0
  have w1 := scheck_fn p
  have lr : (p.rules.map encRul).length = p.rules.length := List.length_map _
  have ll : (l.map encFct).length = l.length := List.length_map _
  refine dw_lenA 0 2 rfl rfl fun hk => ?_
  unfold waysE factsE
  by_cases h0 : progE nameR p ≠ 0
  · rw [if_pos h0]
    repeat' (first | (apply ds_evC; exact rfl; (with_reducible exact trivial); (with_reducible exact rfl); exact rfl; exact rfl; exact rfl) | (apply ds_skip; exact rfl; exact rfl) | apply ds_nil | apply dw_seq2 | (apply ds_region; exact rfl) | apply dw_block | apply dw_skip | apply dw_ret | (apply dw_condT; exact rfl) | apply thenD_n | apply thenD_r | apply inB_n | apply inB_r | (apply ds_call; exact rfl; exact rfl; apply w1; exact rfl; (exact rfl); exact rfl; rintro _ rfl) | (apply ds_newC; exact rfl; (with_reducible exact trivial); exact rfl; exact rfl; exact rfl) | (apply dw_condP; exact rfl; all_goals intro hg) | ((fail_if_success (apply ds_known; exact rfl)); apply ds_guardP; exact rfl; exact rfl; exact rfl; all_goals intro hg))
    all_goals try (exfalso; omega)
    exact ⟨.inl rfl, _, rfl, rfl, rfl⟩
  · rw [if_neg h0]
    by_cases h1 : n < 0 ∨ (p.rules.length : Int) ≤ n
    · rw [if_pos h1]
      repeat' (first | (apply ds_evC; exact rfl; (with_reducible exact trivial); (with_reducible exact rfl); exact rfl; exact rfl; exact rfl) | (apply ds_skip; exact rfl; exact rfl) | apply ds_nil | apply dw_seq2 | (apply ds_region; exact rfl) | apply dw_block | apply dw_skip | apply dw_ret | (apply dw_condT; exact rfl) | apply thenD_n | apply thenD_r | apply inB_n | apply inB_r | (apply ds_call; exact rfl; exact rfl; apply w1; exact rfl; (exact rfl); exact rfl; rintro _ rfl) | (apply ds_newC; exact rfl; (with_reducible exact trivial); exact rfl; exact rfl; exact rfl) | (apply dw_condP; exact rfl; all_goals intro hg) | ((fail_if_success (apply ds_known; exact rfl)); apply ds_guardP; exact rfl; exact rfl; exact rfl; all_goals intro hg))
      all_goals try (exfalso; omega)
      all_goals exact ⟨.inl rfl, _, rfl, rfl, rfl⟩
    · rw [if_neg h1]
      by_cases h2 : 60 < l.length
      · rw [if_pos h2]
        repeat' (first | (apply ds_evC; exact rfl; (with_reducible exact trivial); (with_reducible exact rfl); exact rfl; exact rfl; exact rfl) | (apply ds_skip; exact rfl; exact rfl) | apply ds_nil | apply dw_seq2 | (apply ds_region; exact rfl) | apply dw_block | apply dw_skip | apply dw_ret | (apply dw_condT; exact rfl) | apply thenD_n | apply thenD_r | apply inB_n | apply inB_r | (apply ds_call; exact rfl; exact rfl; apply w1; exact rfl; (exact rfl); exact rfl; rintro _ rfl) | (apply ds_newC; exact rfl; (with_reducible exact trivial); exact rfl; exact rfl; exact rfl) | (apply dw_condP; exact rfl; all_goals intro hg) | ((fail_if_success (apply ds_known; exact rfl)); apply ds_guardP; exact rfl; exact rfl; exact rfl; all_goals intro hg))
        all_goals try (exfalso; omega)
        all_goals exact ⟨.inl rfl, _, rfl, rfl, rfl⟩
      · rw [if_neg h2]
        repeat' (first | (apply ds_evC; exact rfl; (with_reducible exact trivial); (with_reducible exact rfl); exact rfl; exact rfl; exact rfl) | (apply ds_skip; exact rfl; exact rfl) | apply ds_nil | apply dw_seq2 | (apply ds_region; exact rfl) | apply dw_block | apply dw_skip | apply dw_ret | (apply dw_condT; exact rfl) | apply thenD_n | apply thenD_r | apply inB_n | apply inB_r | (apply ds_call; exact rfl; exact rfl; apply w1; exact rfl; (exact rfl); exact rfl; rintro _ rfl) | (apply ds_newC; exact rfl; (with_reducible exact trivial); exact rfl; exact rfl; exact rfl) | (apply dw_condP; exact rfl; all_goals intro hg) | ((fail_if_success (apply ds_known; exact rfl)); apply ds_guardP; exact rfl; exact rfl; exact rfl; all_goals intro hg))
        all_goals try (exfalso; omega)
        refine ds_loop (ι := Nat) (fun i => ⟨1, [(3, .loc 0 0), (30, .d (.slice 2 (l.map encFct))), (31, .d (.int .i64 l.length)), (32, .d (.int .i64 i))], [(0, .blk 26 [.d (.slice 1 (p.arity.map encI)), .d (.slice 1 (p.names.map encT)), .d (.slice 5 (p.rules.map encRul))])]⟩)
          (fun i => i ≤ l.length ∧ firstL (factE p.arity) l = firstL (factE p.arity) (l.drop i)) (fun i => l.length - i) 0 ⟨Nat.zero_le _, rfl⟩ (ent_ren id ⟨rfl, rfl, by rw [← ll]; rfl, rfl, trivial⟩ ⟨rfl, trivial⟩ rfl rfl rfl rfl rfl rfl) ?_
        rintro i ⟨g1, g2⟩
        dsimp only at g1 g2 ⊢
        by_cases hi : i < l.length
        · rw [firstL_step hi] at g2
          have w2 := fright_fn p l[i]
          by_cases h3 : factE p.arity l[i] ≠ 0
          · rw [if_pos h3] at g2
            rw [g2]
            repeat' (first | (apply ds_evC; exact rfl; (first | (with_reducible exact trivial) | omega); (first | ((with_reducible apply hv_row); (exact rfl); (omega)) | (with_reducible exact rfl)); exact rfl; exact rfl; exact rfl) | apply ds_nil | apply dw_seq2 | (apply ds_region; exact rfl) | apply dw_block | apply dw_skip | apply dw_exit | apply dw_ret | apply thenD_n | apply thenD_e | apply thenD_r | apply inB_n | apply inB_r | (apply inB_e; exact rfl) | (apply ds_call; exact rfl; exact rfl; apply w2; exact rfl; (exact rfl); exact rfl; rintro _ rfl) | (apply ds_newC; exact rfl; (with_reducible exact trivial); exact rfl; exact rfl; exact rfl) | (apply ds_setC; exact rfl; exact rfl; exact rfl; exact rfl) | (apply dw_condP; exact rfl; all_goals intro hg))
            all_goals try (exfalso; omega)
            all_goals exact ⟨.inl rfl, _, rfl, rfl, rfl⟩
          · rw [if_neg h3] at g2
            repeat' (first | (apply ds_evC; exact rfl; (first | (with_reducible exact trivial) | omega); (first | ((with_reducible apply hv_row); (exact rfl); (omega)) | (with_reducible exact rfl)); exact rfl; exact rfl; exact rfl) | apply ds_nil | apply dw_seq2 | (apply ds_region; exact rfl) | apply dw_block | apply dw_skip | apply dw_exit | apply dw_ret | apply thenD_n | apply thenD_e | apply thenD_r | apply inB_n | apply inB_r | (apply inB_e; exact rfl) | (apply ds_call; exact rfl; exact rfl; apply w2; exact rfl; (exact rfl); exact rfl; rintro _ rfl) | (apply ds_newC; exact rfl; (with_reducible exact trivial); exact rfl; exact rfl; exact rfl) | (apply ds_setC; exact rfl; exact rfl; exact rfl; exact rfl) | (apply dw_condP; exact rfl; all_goals intro hg))
            all_goals try (exfalso; omega)
            exact ⟨i + 1, ⟨hi, g2⟩, ent_ren id ⟨rfl, rfl, rfl, rfl, trivial⟩ ⟨rfl, trivial⟩ rfl rfl rfl rfl rfl rfl, by omega⟩
        · rw [firstL_end (by omega)] at g2
          rw [g2]
          repeat' (first | (apply ds_evC; exact rfl; (first | (with_reducible exact trivial) | omega); (first | ((with_reducible apply hv_row); (exact rfl); (omega)) | (with_reducible exact rfl)); exact rfl; exact rfl; exact rfl) | apply ds_nil | apply dw_seq2 | (apply ds_region; exact rfl) | apply dw_block | apply dw_skip | apply dw_exit | apply dw_ret | apply thenD_n | apply thenD_e | (apply inB_e; exact rfl) | (apply ds_newC; exact rfl; (with_reducible exact trivial); exact rfl; exact rfl; exact rfl) | (apply ds_setC; exact rfl; exact rfl; exact rfl; exact rfl) | (apply dw_condP; exact rfl; all_goals intro hg))
          all_goals try (exfalso; omega)
          all_goals exact ⟨.inl rfl, _, rfl, rfl, rfl⟩
set_option maxHeartbeats 8000000 in
theorem checkFact_fn (p : Prg) (x : Fct) : Fn 120 [elPrg p, elFct x] (fun r => r = .d (.int .i64 (factE p.arity x))) := by
  refine fnp_enter' _ Tryz.func120 rfl rfl (by kernel_rfl) ?_
  intro O w0 E0 β0
  have la : (p.arity.map encI).length = p.arity.length := List.length_map _
  have lx : (x.args.map encI).length = x.args.length := List.length_map _
  refine dw_lenA 0 0 rfl rfl fun hk => ?_
  refine dw_lenA 1 1 rfl rfl fun hk1 => ?_
  have w0 : Fn 80 [.d (.int .i64 x.pred), .d (.int .i64 0), .d (.int .i64 (((p.arity.map encI).length : Int) - 1))] (fun r => r = .d (.bool (inR x.pred 0 ((p.arity.length : Int) - 1)))) := by rw [la]; exact rbetween_fn _ _ _
  unfold factE
  cases h1 : inR x.pred 0 ((p.arity.length : Int) - 1) with
  | false =>
    rw [h1] at w0
    rw [if_pos rfl]
    repeat' (first | (apply ds_evC; exact rfl; (first | (with_reducible exact trivial) | omega); (with_reducible exact rfl); exact rfl; exact rfl; exact rfl) | apply ds_nil | apply dw_seq2 | (apply ds_region; exact rfl) | apply dw_ret | (apply dw_condT; exact rfl) | apply thenD_n | apply thenD_r | (apply ds_call; exact rfl; exact rfl; apply w0; exact rfl; (exact rfl); exact rfl; rintro _ rfl) | (apply ds_newC; exact rfl; (with_reducible exact trivial); exact rfl; exact rfl; exact rfl))
    all_goals try (exfalso; omega)
    exact ⟨.inl rfl, _, rfl, rfl, rfl⟩
  | true =>
    rw [h1] at w0
    rw [if_neg (by simp)]
    have hr : 0 ≤ x.pred ∧ x.pred < p.arity.length := by unfold inR at h1; simp at h1; omega
    have hlt : x.pred.toNat < p.arity.length := by omega
    have hg' : p.arity.getD x.pred.toNat 0 = p.arity[x.pred.toNat] := by rw [List.getD, List.getElem?_eq_getElem hlt]; rfl
    rw [hg']
    by_cases h2 : (x.args.length : Int) ≠ p.arity[x.pred.toNat]
    · rw [if_pos h2]
      repeat' (first | (apply ds_evC; exact rfl; (first | (with_reducible exact trivial) | omega); (with_reducible exact rfl); exact rfl; exact rfl; exact rfl) | apply ds_nil | (apply dt_ev; exact rfl; exact rfl; (first | (with_reducible exact trivial) | omega); (first | ((with_reducible apply hv_row); (exact (Int.toNat_of_nonneg (by omega)).symm); (omega)) | (with_reducible exact rfl)); exact rfl; exact rfl; exact rfl; exact rfl) | (apply dt_nil0; exact rfl; exact rfl; exact rfl; exact rfl) | apply dw_seq2 | (apply ds_region; exact rfl) | (apply dw_any; kernel_rfl; kernel_rfl; exact rfl; exact rfl) | apply dw_block | apply dw_skip | apply dw_ret | (apply dw_condF; exact rfl) | apply thenD_n | apply thenD_r | (apply ds_call; exact rfl; exact rfl; apply w0; exact rfl; (exact rfl); exact rfl; rintro _ rfl) | (apply ds_newC; exact rfl; (with_reducible exact trivial); exact rfl; exact rfl; exact rfl) | (apply dw_condP; exact rfl; all_goals intro hg))
      all_goals try (exfalso; omega)
      exact ⟨.inl rfl, _, rfl, rfl, rfl⟩
    · rw [if_neg h2]
      repeat' (first | (apply ds_evC; exact rfl; (first | (with_reducible exact trivial) | omega); (with_reducible exact rfl); exact rfl; exact rfl; exact rfl) | apply ds_nil | (apply dt_ev; exact rfl; exact rfl; (first | (with_reducible exact trivial) | omega); (first | ((with_reducible apply hv_row); (exact (Int.toNat_of_nonneg (by omega)).symm); (omega)) | (with_reducible exact rfl)); exact rfl; exact rfl; exact rfl; exact rfl) | (apply dt_nil0; exact rfl; exact rfl; exact rfl; exact rfl) | apply dw_seq2 | (apply ds_region; exact rfl) | (apply dw_any; kernel_rfl; kernel_rfl; exact rfl; exact rfl) | apply dw_block | apply dw_skip | apply dw_ret | (apply dw_condF; exact rfl) | apply thenD_n | apply thenD_r | (apply ds_call; exact rfl; exact rfl; apply w0; exact rfl; (exact rfl); exact rfl; rintro _ rfl) | (apply ds_newC; exact rfl; (with_reducible exact trivial); exact rfl; exact rfl; exact rfl) | (apply dw_condP; exact rfl; all_goals intro hg))
      all_goals try (exfalso; omega)
      refine ds_loop (ι := Nat) (fun i => ⟨2, [(3, .loc 1 0), (5, .d (.int .i64 i))], [(1, .blk 95 [.d (.int .i64 x.pred), .d (.slice 1 (x.args.map encI))])]⟩)
        (fun i => i ≤ x.args.length ∧ ∀ j (_ : j < x.args.length), j < i → numB x.args[j] = true) (fun i => x.args.length - i) 0 ⟨Nat.zero_le _, fun _ _ h => by omega⟩ (ent_ren id ⟨rfl, rfl, trivial⟩ ⟨rfl, trivial⟩ rfl rfl rfl rfl rfl rfl) ?_
      rintro i ⟨g1, g2⟩
      dsimp only at g1 g2 ⊢
      by_cases hi : i < x.args.length
      · have w2 := sisNumber_fn x.args[i]
        cases hb : numB x.args[i] with
        | false =>
          rw [hb] at w2
          rw [if_pos (List.any_eq_true.2 ⟨_, List.getElem_mem hi, by rw [hb]; rfl⟩)]
          repeat' (first | (apply ds_evC; exact rfl; (first | (with_reducible exact trivial) | omega); (first | ((with_reducible apply hv_row); (exact rfl); (omega)) | (with_reducible exact rfl)); exact rfl; exact rfl; exact rfl) | apply ds_nil | apply dw_seq2 | (apply ds_region; exact rfl) | apply dw_block | apply dw_skip | apply dw_exit | apply dw_ret | (apply dw_condT; exact rfl) | apply thenD_n | apply thenD_e | apply thenD_r | apply inB_r | (apply inB_e; exact rfl) | (apply ds_call; exact rfl; exact rfl; apply w2; exact rfl; (exact rfl); exact rfl; rintro _ rfl) | (apply dw_condP; exact rfl; all_goals intro hg))
          all_goals try (exfalso; omega)
          all_goals exact ⟨.inl rfl, _, rfl, rfl, rfl⟩
        | true =>
          rw [hb] at w2
          repeat' (first | (apply ds_evC; exact rfl; (first | (with_reducible exact trivial) | omega); (first | ((with_reducible apply hv_row); (exact rfl); (omega)) | (with_reducible exact rfl)); exact rfl; exact rfl; exact rfl) | apply ds_nil | apply dw_seq2 | (apply ds_region; exact rfl) | apply dw_block | apply dw_skip | apply dw_exit | apply dw_ret | (apply dw_condF; exact rfl) | apply thenD_n | apply thenD_e | apply inB_n | (apply inB_e; exact rfl) | (apply ds_call; exact rfl; exact rfl; apply w2; exact rfl; (exact rfl); exact rfl; rintro _ rfl) | (apply dw_condP; exact rfl; all_goals intro hg))
          all_goals try (exfalso; omega)
          exact ⟨i + 1, ⟨hi, fun j hj hji => by
            by_cases hq : j = i
            · subst hq; exact hb
            · exact g2 j hj (by omega)⟩, ent_ren id ⟨rfl, rfl, trivial⟩ ⟨rfl, trivial⟩ rfl rfl rfl rfl rfl rfl, by omega⟩
      · have hno : ¬ x.args.any (fun n => !numB n) = true := by
          rw [List.any_eq_true]
          rintro ⟨n, hn, hb⟩
          obtain ⟨j, hj, rfl⟩ := List.mem_iff_getElem.1 hn
          rw [g2 j hj (by omega)] at hb; cases hb
        rw [if_neg hno]
        repeat' (first | (apply ds_evC; exact rfl; (first | (with_reducible exact trivial) | omega); (first | ((with_reducible apply hv_row); (exact rfl); (omega)) | (with_reducible exact rfl)); exact rfl; exact rfl; exact rfl) | apply ds_nil | apply dw_seq2 | (apply ds_region; exact rfl) | apply dw_block | apply dw_skip | apply dw_exit | apply dw_ret | apply thenD_n | apply thenD_e | (apply inB_e; exact rfl) | (apply dw_condP; exact rfl; all_goals intro hg))
        all_goals try (exfalso; omega)
        all_goals exact ⟨.inl rfl, _, rfl, rfl, rfl⟩
set_option maxHeartbeats 8000000 in
theorem checkFacts_fn (p : Prg) (l : List Fct) : Fn 99 [elPrg p, .d (.slice 2 (l.map encFct))] (fun r => r = .d (.int .i64 (factsE p.arity l))) := by
  refine fnp_enter' _ Tryz.func99 rfl rfl (by kernel_rfl) ?_
  intro O w0 E0 β0
  have ll : (l.map encFct).length = l.length := List.length_map _
  unfold factsE
  by_cases h2 : 60 < l.length
  · rw [if_pos h2]
    repeat' (first | (apply ds_evC; exact rfl; (with_reducible exact trivial); (with_reducible exact rfl); exact rfl; exact rfl; exact rfl) | apply ds_nil | apply dw_seq2 | (apply ds_region; exact rfl) | apply dw_block | apply dw_skip | apply dw_ret | apply thenD_n | apply thenD_r | (apply ds_newC; exact rfl; (with_reducible exact trivial); exact rfl; exact rfl; exact rfl) | (apply dw_condP; exact rfl; all_goals intro hg))
    all_goals try (exfalso; omega)
    all_goals exact ⟨.inl rfl, _, rfl, rfl, rfl⟩
  · rw [if_neg h2]
    repeat' (first | (apply ds_evC; exact rfl; (with_reducible exact trivial); (with_reducible exact rfl); exact rfl; exact rfl; exact rfl) | apply ds_nil | apply dw_seq2 | (apply ds_region; exact rfl) | apply dw_block | apply dw_skip | apply dw_ret | apply thenD_n | apply thenD_r | (apply ds_newC; exact rfl; (with_reducible exact trivial); exact rfl; exact rfl; exact rfl) | (apply dw_condP; exact rfl; all_goals intro hg))
    all_goals try (exfalso; omega)
    refine ds_loop (ι := Nat) (fun i => ⟨1, [(1, .d (.slice 2 (l.map encFct))), (2, .loc 0 0), (5, .d (.int .i64 i))], [(0, .blk 26 [.d (.slice 1 (p.arity.map encI)), .d (.slice 1 (p.names.map encT)), .d (.slice 5 (p.rules.map encRul))])]⟩)
      (fun i => i ≤ l.length ∧ firstL (factE p.arity) l = firstL (factE p.arity) (l.drop i)) (fun i => l.length - i) 0 ⟨Nat.zero_le _, rfl⟩ (ent_ren id ⟨rfl, rfl, rfl, trivial⟩ ⟨rfl, trivial⟩ rfl rfl rfl rfl rfl rfl) ?_
    rintro i ⟨g1, g2⟩
    dsimp only at g1 g2 ⊢
    by_cases hi : i < l.length
    · rw [firstL_step hi] at g2
      have w2 := checkFact_fn p l[i]
      by_cases h3 : factE p.arity l[i] ≠ 0
      · rw [if_pos h3] at g2
        rw [g2]
        repeat' (first | (apply ds_evC; exact rfl; (first | (with_reducible exact trivial) | omega); (with_reducible exact rfl); exact rfl; exact rfl; exact rfl) | apply ds_nil | (apply dt_ev; exact rfl; exact rfl; (first | (with_reducible exact trivial) | omega); (first | ((with_reducible apply hv_row); (exact rfl); (omega)) | (with_reducible exact rfl)); exact rfl; exact rfl; exact rfl; exact rfl) | (apply dt_nil0; exact rfl; exact rfl; exact rfl; exact rfl) | apply dw_seq2 | (apply ds_region; exact rfl) | (apply dw_any; kernel_rfl; kernel_rfl; exact rfl; exact rfl) | apply dw_block | apply dw_skip | apply dw_exit | apply dw_ret | apply thenD_n | apply thenD_e | apply thenD_r | apply inB_n | apply inB_r | (apply inB_e; exact rfl) | (apply dt_call; exact rfl; exact rfl; apply w2; exact rfl; (exact rfl); exact rfl; exact rfl; exact ⟨_, rfl⟩; rintro _ rfl) | (apply dw_condP; exact rfl; all_goals intro hg))
        all_goals try (exfalso; omega)
        all_goals exact ⟨.inl rfl, _, rfl, rfl, rfl⟩
      · rw [if_neg h3] at g2
        repeat' (first | (apply ds_evC; exact rfl; (first | (with_reducible exact trivial) | omega); (with_reducible exact rfl); exact rfl; exact rfl; exact rfl) | apply ds_nil | (apply dt_ev; exact rfl; exact rfl; (first | (with_reducible exact trivial) | omega); (first | ((with_reducible apply hv_row); (exact rfl); (omega)) | (with_reducible exact rfl)); exact rfl; exact rfl; exact rfl; exact rfl) | (apply dt_nil0; exact rfl; exact rfl; exact rfl; exact rfl) | apply dw_seq2 | (apply ds_region; exact rfl) | (apply dw_any; kernel_rfl; kernel_rfl; exact rfl; exact rfl) | apply dw_block | apply dw_skip | apply dw_exit | apply dw_ret | apply thenD_n | apply thenD_e | apply thenD_r | apply inB_n | apply inB_r | (apply inB_e; exact rfl) | (apply dt_call; exact rfl; exact rfl; apply w2; exact rfl; (exact rfl); exact rfl; exact rfl; exact ⟨_, rfl⟩; rintro _ rfl) | (apply dw_condP; exact rfl; all_goals intro hg))
        all_goals try (exfalso; omega)
        exact ⟨i + 1, ⟨hi, g2⟩, ent_ren id ⟨rfl, rfl, rfl, trivial⟩ ⟨rfl, trivial⟩ rfl rfl rfl rfl rfl rfl, by omega⟩
    · rw [firstL_end (by omega)] at g2
      rw [g2]
      repeat' (first | (apply ds_evC; exact rfl; (with_reducible exact trivial); (with_reducible exact rfl); exact rfl; exact rfl; exact rfl) | apply ds_nil | (apply dt_ev; exact rfl; exact rfl; (first | (with_reducible exact trivial) | omega); (first | ((with_reducible apply hv_row); (exact rfl); (omega)) | (with_reducible exact rfl)); exact rfl; exact rfl; exact rfl; exact rfl) | apply dw_seq2 | (apply ds_region; exact rfl) | (apply dw_any; kernel_rfl; kernel_rfl; exact rfl; exact rfl) | apply dw_block | apply dw_skip | apply dw_exit | apply dw_ret | apply thenD_n | apply thenD_e | (apply inB_e; exact rfl) | (apply dw_condP; exact rfl; all_goals intro hg))
      all_goals try (exfalso; omega)
      all_goals exact ⟨.inl rfl, _, rfl, rfl, rfl⟩
set_option maxHeartbeats 8000000 in
theorem checkWays_fn (p : Prg) (n : Int) (l : List Fct) : Fn 38 [elPrg p, .d (.int .i64 n), .d (.slice 2 (l.map encFct))] (fun r => r = .d (.int .i64 (waysE p n l))) := by
  refine fnp_enter' _ Tryz.func38 rfl rfl (by kernel_rfl) ?_
  intro O w0 E0 β0
  have w1 := rcheck_fn p
  have w2 := checkFacts_fn p l
  have lr : (p.rules.map encRul).length = p.rules.length := List.length_map _
  unfold waysE
  by_cases h0 : progE nameR p ≠ 0
  · rw [if_pos h0]
    repeat' (first | (apply ds_evC; exact rfl; (with_reducible exact trivial); (with_reducible exact rfl); exact rfl; exact rfl; exact rfl) | (apply ds_skip; exact rfl; exact rfl) | apply ds_nil | apply dw_seq2 | (apply ds_region; exact rfl) | apply dw_skip | apply dw_ret | (apply dw_condT; exact rfl) | (apply dw_condF; exact rfl) | apply thenD_n | (apply ds_call; exact rfl; exact rfl; apply w1; exact rfl; (exact rfl); exact rfl; rintro _ rfl) | (apply ds_call; exact rfl; exact rfl; apply w2; exact rfl; (exact rfl); exact rfl; rintro _ rfl) | (apply ds_newC; exact rfl; (with_reducible exact trivial); exact rfl; exact rfl; exact rfl) | (apply dw_condP; exact rfl; all_goals intro hg) | ((fail_if_success (apply ds_known; exact rfl)); apply ds_guardP; exact rfl; exact rfl; exact rfl; all_goals intro hg))
    all_goals try (exfalso; omega)
    exact ⟨.inl rfl, _, rfl, rfl, rfl⟩
  · rw [if_neg h0]
    by_cases h1 : n < 0 ∨ (p.rules.length : Int) ≤ n
    · rw [if_pos h1]
      repeat' (first | (apply ds_evC; exact rfl; (with_reducible exact trivial); (with_reducible exact rfl); exact rfl; exact rfl; exact rfl) | (apply ds_skip; exact rfl; exact rfl) | apply ds_nil | apply dw_seq2 | (apply ds_region; exact rfl) | apply dw_skip | apply dw_ret | (apply dw_condT; exact rfl) | (apply dw_condF; exact rfl) | apply thenD_n | (apply ds_call; exact rfl; exact rfl; apply w1; exact rfl; (exact rfl); exact rfl; rintro _ rfl) | (apply ds_call; exact rfl; exact rfl; apply w2; exact rfl; (exact rfl); exact rfl; rintro _ rfl) | (apply ds_newC; exact rfl; (with_reducible exact trivial); exact rfl; exact rfl; exact rfl) | (apply dw_condP; exact rfl; all_goals intro hg) | ((fail_if_success (apply ds_known; exact rfl)); apply ds_guardP; exact rfl; exact rfl; exact rfl; all_goals intro hg))
      all_goals try (exfalso; omega)
      all_goals exact ⟨.inl rfl, _, rfl, rfl, rfl⟩
    · rw [if_neg h1]
      repeat' (first | (apply ds_evC; exact rfl; (with_reducible exact trivial); (with_reducible exact rfl); exact rfl; exact rfl; exact rfl) | (apply ds_skip; exact rfl; exact rfl) | apply ds_nil | apply dw_seq2 | (apply ds_region; exact rfl) | apply dw_skip | apply dw_ret | (apply dw_condT; exact rfl) | (apply dw_condF; exact rfl) | apply thenD_n | (apply ds_call; exact rfl; exact rfl; apply w1; exact rfl; (exact rfl); exact rfl; rintro _ rfl) | (apply ds_call; exact rfl; exact rfl; apply w2; exact rfl; (exact rfl); exact rfl; rintro _ rfl) | (apply ds_newC; exact rfl; (with_reducible exact trivial); exact rfl; exact rfl; exact rfl) | (apply dw_condP; exact rfl; all_goals intro hg) | ((fail_if_success (apply ds_known; exact rfl)); apply ds_guardP; exact rfl; exact rfl; exact rfl; all_goals intro hg))
      all_goals try (exfalso; omega)
      all_goals exact ⟨.inl rfl, _, rfl, rfl, rfl⟩
end Go.Proofs.YtapciiffpnociabGreat
