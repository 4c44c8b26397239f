/- Several texts in one: ScoG ScoH TokL ScoI StrF StrR. Condition: none. -/
import Derived.Test.YtapciiffpnociaaB14
import Derived.Test.YtapciiffpnociaaB11
import Derived.Test.YtapciiffpnociaaB13

/- The document's checkRule and CheckProgram. Condition: none. -/
namespace Go.Proofs.Ytapciiffpnociaa
open Go Go.RowKit
attribute [local irreducible] DW DS DL DQ Ev FnOk FnP thenD inBlockD DT

set_option maxHeartbeats 8000000 in
theorem rrule_fn (p : Prg) (r : Rul) : Fn 111 [elPrg p, elRul r] (fun x => x = .d (.int .i64 (ruleE p.arity r))) := by
  refine fnp_enter' _ Try.func111 rfl rfl (by kernel_rfl) ?_
  intro O w0 E0 β0
  have la : (p.arity.map encI).length = p.arity.length := List.length_map _
  have lb : (r.terms.map encTrm).length = r.terms.length := List.length_map _
  have lc : (r.body.map encLtl).length = r.body.length := List.length_map _
  refine dw_lenA 0 0 rfl rfl (fun hk => ?_)
  refine dw_lenA 1 1 rfl rfl (fun hk2 => ?_)
  refine dw_lenA 1 3 rfl rfl (fun hk3 => ?_)
  have w1 := sbetween_fn r.pred 0 (((p.arity.map encI).length : Int) - 1)
  have w2 := sbetween_fn r.vars 0 8
  have w3 := sbetween_fn r.fold 0 4
  have hR : ruleE p.arity r = ruleE p.arity r := rfl
  conv at hR => rhs; unfold ruleE
  rw [hR]
  rw [← la, ← lb, ← lc]
  by_cases hp : inR r.pred 0 (((p.arity.map encI).length : Int) - 1) = true
  · have hp' := inR_spec hp
    have hA := arity_at (p := p) (n := r.pred) (by omega) (by omega)
    rw [hp] at w1 ⊢
    rw [if_neg (show ¬ (true = false) by decide), hA]
    by_cases hv : inR r.vars 0 8 = true
    · have hv' := inR_spec hv
      rw [hv] at w2 ⊢
      rw [if_neg (show ¬ (true = false) by decide)]
      have w4 := rterms_fn r.terms r.vars hv'.1 hv'.2
      clear hv hp hA hR
      generalize termsE r.vars r.terms = te at w4 ⊢
      by_cases hfo : inR r.fold 0 4 = true
      · have hf' := inR_spec hfo
        rw [hfo] at w3 ⊢
        rw [if_neg (show ¬ (true = false) by decide)]
        repeat' (first | (apply ds_evC; exact rfl; (first | (with_reducible exact trivial) | omega); (with_reducible exact rfl); exact rfl; exact rfl; exact rfl) | (apply ds_skip; exact rfl; exact rfl) | apply ds_nil | (apply dt_ev; exact rfl; exact rfl; (first | (with_reducible exact trivial) | omega); (first | ((with_reducible apply hv_row); (exact (Int.toNat_of_nonneg (by omega)).symm); (omega)) | (with_reducible exact rfl)); exact rfl; exact rfl; exact rfl; exact rfl) | (apply dt_nil0; exact rfl; exact rfl; exact rfl; exact rfl) | apply dw_seq2 | (apply ds_region; exact rfl) | (apply dw_any; kernel_rfl; kernel_rfl; exact rfl; exact rfl) | apply dw_block | apply dw_skip | apply dw_ret | (apply dw_condT; exact rfl) | (apply dw_condF; exact rfl) | apply thenD_n | apply thenD_r | (apply ds_call; exact rfl; exact rfl; apply w1; exact rfl; (exact rfl); exact rfl; rintro _ rfl) | (apply ds_call; exact rfl; exact rfl; apply w2; exact rfl; (exact rfl); exact rfl; rintro _ rfl) | (apply ds_call; exact rfl; exact rfl; apply w3; exact rfl; (exact rfl); exact rfl; rintro _ rfl) | (apply ds_call; exact rfl; exact rfl; apply w4; exact rfl; (exact rfl); exact rfl; rintro _ rfl) | (apply ds_newC; exact rfl; (with_reducible exact trivial); exact rfl; exact rfl; exact rfl) | (apply dw_condP; exact rfl; all_goals intro hg) | ((fail_if_success (apply ds_known; exact rfl)); apply ds_guardP; exact rfl; exact rfl; exact rfl; all_goals intro hg))
        all_goals try (refine ret_i rfl ?_; (repeat' split) <;> (first | rfl | (exfalso; omega)))
        all_goals
          have hb4 : r.body.length ≤ 4 := by omega
          have hfin : ∀ e, firstL (litE p.arity r.vars) r.body = e → (if (((r.terms.map encTrm).length : Nat) : Int) ≠ p.arity[r.pred.toNat]'(by omega) then 1 else if te ≠ 0 then te else if r.fold ≠ 0 ∧ ((r.terms.map encTrm).length = 0 ∨ (r.body.map encLtl).length = 0) then 1 else if 4 < (r.body.map encLtl).length then 2 else if firstL (litE p.arity r.vars) r.body ≠ 0 then firstL (litE p.arity r.vars) r.body else if safeB r = false then 4 else 0) = if e ≠ 0 then e else if safeB r = false then 4 else 0 := by
            rintro e rfl
            (repeat' split) <;> (first | rfl | (exfalso; omega))
          generalize (if (((r.terms.map encTrm).length : Nat) : Int) ≠ p.arity[r.pred.toNat]'(by omega) then 1 else if te ≠ 0 then te else if r.fold ≠ 0 ∧ ((r.terms.map encTrm).length = 0 ∨ (r.body.map encLtl).length = 0) then 1 else if 4 < (r.body.map encLtl).length then 2 else if firstL (litE p.arity r.vars) r.body ≠ 0 then firstL (litE p.arity r.vars) r.body else if safeB r = false then 4 else 0) = res at hfin ⊢
          refine ds_loop (ι := Nat) (fun i => ⟨2, [(2, .loc 0 0), (3, .loc 1 0), (4, .d (.int .i64 0)), (5, .d (.int .i64 (p.arity.map encI).length)), (7, .d (.int .i64 i))], [(0, prgB p), (1, ruleB r)]⟩)
            (fun i => i ≤ r.body.length ∧ firstL (litE p.arity r.vars) r.body = firstL (litE p.arity r.vars) (r.body.drop i)) (fun i => r.body.length - i) 0 ⟨Nat.zero_le _, rfl⟩ (ent_ren id ⟨rfl, rfl, rfl, rfl, rfl, trivial⟩ ⟨rfl, rfl, trivial⟩ rfl rfl rfl rfl rfl rfl) ?_
          rintro i ⟨g1, g2⟩
          by_cases hi : i < r.body.length
          · rw [firstL_step hi] at g2
            repeat' ((fail_if_success (apply dw_stopR 21)); (first | (apply ds_evC; exact rfl; (first | (with_reducible exact trivial) | omega); (first | ((with_reducible apply hv_row); (exact rfl); (omega)) | (with_reducible exact rfl)); exact rfl; exact rfl; exact rfl) | apply ds_nil | apply dw_seq2 | (apply ds_region; exact rfl) | apply dw_block | apply dw_skip | apply dw_exit | apply thenD_n | apply thenD_e | (apply inB_e; exact rfl) | (apply ds_newC; exact rfl; (with_reducible exact trivial); exact rfl; exact rfl; exact rfl) | (apply ds_setC; exact rfl; exact rfl; exact rfl; exact rfl) | (apply dw_condP; exact rfl; all_goals intro hg)))
            all_goals try (exfalso; omega)
            generalize r.body[i] = l at g2 ⊢
            have hret : ∀ e, litE p.arity r.vars l = e → e ≠ 0 → e = res := by
              rintro e rfl he
              rw [if_pos he] at g2
              rw [hfin _ g2, if_pos he]
            obtain ⟨NX, hN, hnext⟩ : ∃ NX : Prop, (NX → firstL (litE p.arity r.vars) r.body = firstL (litE p.arity r.vars) (r.body.drop (i + 1))) ∧ (litE p.arity r.vars l = 0 → NX) := by
              refine ⟨_, id, fun he => ?_⟩
              rw [if_neg (by rw [he]; decide)] at g2
              exact g2
            clear hfin g2
            refine dw_ent (ent_ren (k' := 3) (L' := [(2, .loc 0 0), (3, .loc 1 0), (4, .d (.int .i64 0)), (5, .d (.int .i64 (p.arity.map encI).length)), (7, .d (.int .i64 i)), (8, .loc 2 0)]) (H' := [(0, prgB p), (1, ruleB r), (2, litB l)]) id ⟨rfl, rfl, rfl, rfl, rfl, rfl, trivial⟩ ⟨rfl, rfl, rfl, trivial⟩ rfl rfl rfl rfl rfl rfl) ?_
            obtain ⟨kind, op, pred, terms⟩ := l
            have lt : (terms.map encTrm).length = terms.length := List.length_map _
            have wt := rterms_fn terms r.vars hv'.1 hv'.2
            have k1 := sbetween_fn kind 1 4
            have wp := sbetween_fn pred 0 (((p.arity.map encI).length : Int) - 1)
            have wo3 := sbetween_fn op 1 4
            have wo4 := sbetween_fn op 5 7
            unfold litE opB at hret hnext
            dsimp only [litB] at hret hnext ⊢
            rw [← la, ← lt] at hret hnext
            generalize termsE r.vars terms = tl at wt hret hnext
            generalize inR op 1 4 = o3 at wo3 hret hnext
            generalize inR op 5 7 = o4 at wo4 hret hnext
            by_cases hk1 : inR kind 1 4 = true
            · have hk' := inR_spec hk1
              rw [hk1] at hret hnext k1
              by_cases hpp : inR pred 0 (((p.arity.map encI).length : Int) - 1) = true
              · have hpp' := inR_spec hpp
                have hA' := arity_at (p := p) (n := pred) (by omega) (by omega)
                rw [hpp] at hret hnext wp
                rw [hA'] at hret hnext
                clear hpp hA' hk1
                rcases (show kind = 1 ∨ kind = 2 ∨ kind = 3 ∨ kind = 4 by omega) with rfl | rfl | rfl | rfl
                all_goals repeat' (first | (apply ds_evC; exact rfl; (first | (with_reducible exact trivial) | omega); (with_reducible exact rfl); exact rfl; exact rfl; exact rfl) | (apply ds_skip; exact rfl; exact rfl) | apply ds_nil | (apply dt_ev; exact rfl; exact rfl; (first | (with_reducible exact trivial) | omega); (first | ((with_reducible apply hv_row); (exact (Int.toNat_of_nonneg (by omega)).symm); (omega)) | (with_reducible exact rfl)); exact rfl; exact rfl; exact rfl; exact rfl) | (apply dt_nil0; exact rfl; exact rfl; exact rfl; exact rfl) | apply dw_seq2 | (apply ds_region; exact rfl) | (apply dw_any; kernel_rfl; kernel_rfl; exact rfl; exact rfl) | apply dw_skip | apply dw_ret | (apply dw_condT; exact rfl) | (apply dw_condF; exact rfl) | apply thenD_n | apply thenD_r | apply inB_n | apply inB_r | (apply ds_call; exact rfl; exact rfl; apply k1; exact rfl; (exact rfl); exact rfl; rintro _ rfl) | (apply ds_call; exact rfl; exact rfl; apply wp; exact rfl; (exact rfl); exact rfl; rintro _ rfl) | (apply ds_call; exact rfl; exact rfl; apply wo3; exact rfl; (exact rfl); exact rfl; rintro _ rfl) | (apply ds_call; exact rfl; exact rfl; apply wo4; exact rfl; (exact rfl); exact rfl; rintro _ rfl) | (apply ds_call; exact rfl; exact rfl; apply wt; exact rfl; (exact rfl); exact rfl; rintro _ rfl) | (apply dw_condP; exact rfl; all_goals intro hg) | (apply dw_cond; exact rfl; all_goals intro hg) | ((fail_if_success (apply ds_known; exact rfl)); apply ds_guardP; exact rfl; exact rfl; exact rfl; all_goals intro hg) | ((fail_if_success (apply ds_known; exact rfl)); apply ds_guardB; exact rfl; exact rfl; exact rfl; all_goals intro hg))
                all_goals first
                  | (exfalso; omega)
                  | (refine ret_i rfl (hret _ ?_ ?_) <;> (clear hret hnext hN k1 wp wo3 wo4 wt w1 w2 w3 w4; (repeat' split) <;> (first | rfl | assumption | decide | (exfalso; omega) | contradiction | (exfalso; simp_all; done))))
                  | (refine ⟨i + 1, ⟨by omega, hN (hnext ?_)⟩, ent_ren id ⟨rfl, rfl, rfl, rfl, rfl, trivial⟩ ⟨rfl, rfl, trivial⟩ rfl rfl rfl rfl rfl rfl, by show r.body.length - (i + 1) < r.body.length - i; omega⟩; (clear hret hnext hN k1 wp wo3 wo4 wt w1 w2 w3 w4; (repeat' split) <;> (first | omega | contradiction | (exfalso; simp_all; done))))
              · rw [Bool.not_eq_true] at hpp
                rw [hpp] at hret hnext wp
                clear hpp hk1
                rcases (show kind = 1 ∨ kind = 2 ∨ kind = 3 ∨ kind = 4 by omega) with rfl | rfl | rfl | rfl
                all_goals repeat' (first | (apply ds_evC; exact rfl; (first | (with_reducible exact trivial) | omega); (with_reducible exact rfl); exact rfl; exact rfl; exact rfl) | (apply ds_skip; exact rfl; exact rfl) | apply ds_nil | apply dw_seq2 | (apply ds_region; exact rfl) | apply dw_skip | apply dw_ret | (apply dw_condT; exact rfl) | (apply dw_condF; exact rfl) | apply thenD_n | apply thenD_r | apply inB_n | apply inB_r | (apply ds_call; exact rfl; exact rfl; apply k1; exact rfl; (exact rfl); exact rfl; rintro _ rfl) | (apply ds_call; exact rfl; exact rfl; apply wp; exact rfl; (exact rfl); exact rfl; rintro _ rfl) | (apply ds_call; exact rfl; exact rfl; apply wo3; exact rfl; (exact rfl); exact rfl; rintro _ rfl) | (apply ds_call; exact rfl; exact rfl; apply wo4; exact rfl; (exact rfl); exact rfl; rintro _ rfl) | (apply ds_call; exact rfl; exact rfl; apply wt; exact rfl; (exact rfl); exact rfl; rintro _ rfl) | (apply dw_condP; exact rfl; all_goals intro hg) | (apply dw_cond; exact rfl; all_goals intro hg) | ((fail_if_success (apply ds_known; exact rfl)); apply ds_guardP; exact rfl; exact rfl; exact rfl; all_goals intro hg) | ((fail_if_success (apply ds_known; exact rfl)); apply ds_guardB; exact rfl; exact rfl; exact rfl; all_goals intro hg))
                all_goals first
                  | (exfalso; omega)
                  | (refine ret_i rfl (hret _ ?_ ?_) <;> (clear hret hnext hN k1 wp wo3 wo4 wt w1 w2 w3 w4; (repeat' split) <;> (first | rfl | assumption | decide | (exfalso; omega) | contradiction | (exfalso; simp_all; done))))
                  | (refine ⟨i + 1, ⟨by omega, hN (hnext ?_)⟩, ent_ren id ⟨rfl, rfl, rfl, rfl, rfl, trivial⟩ ⟨rfl, rfl, trivial⟩ rfl rfl rfl rfl rfl rfl, by show r.body.length - (i + 1) < r.body.length - i; omega⟩; (clear hret hnext hN k1 wp wo3 wo4 wt w1 w2 w3 w4; (repeat' split) <;> (first | omega | contradiction | (exfalso; simp_all; done))))
            · rw [Bool.not_eq_true] at hk1
              rw [hk1] at hret k1
              repeat' (first | (apply ds_evC; exact rfl; (with_reducible exact trivial); (with_reducible exact rfl); exact rfl; exact rfl; exact rfl) | apply ds_nil | apply dw_seq2 | (apply ds_region; exact rfl) | apply dw_ret | (apply dw_condT; exact rfl) | apply thenD_n | apply thenD_r | apply inB_r | (apply ds_call; exact rfl; exact rfl; apply k1; exact rfl; (exact rfl); exact rfl; rintro _ rfl))
              all_goals exact ret_i rfl (hret _ rfl (by decide))
          · rw [firstL_end (by omega)] at g2
            have hall := firstL_zero g2
            have w7 := safe_fn r hb4 hv'.1 hv'.2 (fun l hl => (litE_ok hv'.1 (hall l hl)).1) (fun l hl => (litE_ok hv'.1 (hall l hl)).2)
            rw [hfin 0 g2, if_neg (by decide)]
            generalize safeB r = sb at w7 ⊢
            repeat' (first | (apply ds_evC; exact rfl; (first | (with_reducible exact trivial) | omega); (first | ((with_reducible apply hv_row); (exact rfl); (omega)) | (with_reducible exact rfl)); exact rfl; exact rfl; exact rfl) | apply ds_nil | apply dw_seq2 | (apply ds_region; exact rfl) | apply dw_block | apply dw_skip | apply dw_exit | apply dw_ret | apply thenD_n | apply thenD_e | apply thenD_r | (apply inB_e; exact rfl) | (apply ds_call; exact rfl; exact rfl; apply w7; exact rfl; (exact rfl); exact rfl; rintro _ rfl) | (apply ds_newC; exact rfl; (with_reducible exact trivial); exact rfl; exact rfl; exact rfl) | (apply ds_setC; exact rfl; exact rfl; exact rfl; exact rfl) | (apply dw_condP; exact rfl; all_goals intro hg) | (apply dw_cond; exact rfl; all_goals intro hg))
            all_goals first
              | (exfalso; omega)
              | (refine ret_i rfl ?_; simp_all; done)
      · rw [Bool.not_eq_true] at hfo
        rw [hfo] at w3 ⊢
        repeat' (first | (apply ds_evC; exact rfl; (first | (with_reducible exact trivial) | omega); (with_reducible exact rfl); exact rfl; exact rfl; exact rfl) | apply ds_nil | (apply dt_ev; exact rfl; exact rfl; (first | (with_reducible exact trivial) | omega); (first | ((with_reducible apply hv_row); (exact (Int.toNat_of_nonneg (by omega)).symm); (omega)) | (with_reducible exact rfl)); exact rfl; exact rfl; exact rfl; exact rfl) | (apply dt_nil0; exact rfl; exact rfl; exact rfl; exact rfl) | apply dw_seq2 | (apply ds_region; exact rfl) | (apply dw_any; kernel_rfl; kernel_rfl; exact rfl; exact rfl) | apply dw_skip | apply dw_ret | (apply dw_condT; exact rfl) | (apply dw_condF; exact rfl) | apply thenD_n | apply thenD_r | (apply ds_call; exact rfl; exact rfl; apply w1; exact rfl; (exact rfl); exact rfl; rintro _ rfl) | (apply ds_call; exact rfl; exact rfl; apply w2; exact rfl; (exact rfl); exact rfl; rintro _ rfl) | (apply ds_call; exact rfl; exact rfl; apply w3; exact rfl; (exact rfl); exact rfl; rintro _ rfl) | (apply ds_call; exact rfl; exact rfl; apply w4; exact rfl; (exact rfl); exact rfl; rintro _ rfl) | (apply ds_newC; exact rfl; (with_reducible exact trivial); exact rfl; exact rfl; exact rfl) | (apply dw_condP; exact rfl; all_goals intro hg))
        all_goals (refine ret_i rfl ?_; (repeat' split) <;> (first | rfl | (exfalso; omega) | contradiction))
    · rw [Bool.not_eq_true] at hv
      rw [hv] at w2 ⊢
      repeat' (first | (apply ds_evC; exact rfl; (first | (with_reducible exact trivial) | omega); (with_reducible exact rfl); exact rfl; exact rfl; exact rfl) | apply ds_nil | (apply dt_ev; exact rfl; exact rfl; (first | (with_reducible exact trivial) | omega); (first | ((with_reducible apply hv_row); (exact (Int.toNat_of_nonneg (by omega)).symm); (omega)) | (with_reducible exact rfl)); exact rfl; exact rfl; exact rfl; exact rfl) | (apply dt_nil0; exact rfl; exact rfl; exact rfl; exact rfl) | apply dw_seq2 | (apply ds_region; exact rfl) | (apply dw_any; kernel_rfl; kernel_rfl; exact rfl; exact rfl) | apply dw_skip | apply dw_ret | (apply dw_condT; exact rfl) | (apply dw_condF; exact rfl) | apply thenD_n | apply thenD_r | (apply ds_call; exact rfl; exact rfl; apply w1; exact rfl; (exact rfl); exact rfl; rintro _ rfl) | (apply ds_call; exact rfl; exact rfl; apply w2; exact rfl; (exact rfl); exact rfl; rintro _ rfl) | (apply ds_newC; exact rfl; (with_reducible exact trivial); exact rfl; exact rfl; exact rfl) | (apply dw_condP; exact rfl; all_goals intro hg))
      all_goals (refine ret_i rfl ?_; (repeat' split) <;> (first | rfl | (exfalso; omega) | contradiction))
  · rw [Bool.not_eq_true] at hp
    rw [hp] at w1 ⊢
    rw [if_pos rfl]
    repeat' (first | (apply ds_evC; exact rfl; (first | (with_reducible exact trivial) | omega); (with_reducible exact rfl); exact rfl; exact rfl; exact rfl) | apply ds_nil | apply dw_seq2 | (apply ds_region; exact rfl) | apply dw_ret | (apply dw_condT; exact rfl) | apply thenD_n | apply thenD_r | (apply ds_call; exact rfl; exact rfl; apply w1; exact rfl; (exact rfl); exact rfl; rintro _ rfl) | (apply ds_newC; exact rfl; (with_reducible exact trivial); exact rfl; exact rfl; exact rfl))
    all_goals exact ret_i rfl rfl
end Go.Proofs.Ytapciiffpnociaa

/- The document's CheckProgram. Condition: none. -/
namespace Go.Proofs.Ytapciiffpnociaa
open Go Go.RowKit
attribute [local irreducible] DW DS DL DQ Ev FnOk FnP thenD inBlockD DT

set_option maxHeartbeats 8000000 in
theorem rcheck_fn (p : Prg) : Fn 31 [elPrg p] (fun x => x = .d (.int .i64 (progE nameR p))) := by
  refine fnp_enter' _ Try.func31 rfl rfl (by kernel_rfl) ?_
  intro O w0 E0 β0
  have la : (p.arity.map encI).length = p.arity.length := List.length_map _
  have lb : (p.names.map encT).length = p.names.length := List.length_map _
  have lc : (p.rules.map encRul).length = p.rules.length := List.length_map _
  refine dw_lenA 0 0 rfl rfl (fun hk => ?_)
  refine dw_lenA 0 1 rfl rfl (fun hk1 => ?_)
  refine dw_lenA 0 2 rfl rfl (fun hk2 => ?_)
  unfold progE
  by_cases h1 : 10 < p.arity.length ∨ 12 < p.rules.length
  · rw [if_pos h1]
    repeat' (first | (apply ds_evC; exact rfl; (with_reducible exact trivial); (with_reducible exact rfl); exact rfl; exact rfl; exact rfl) | (apply ds_skip; exact rfl; exact rfl) | apply ds_nil | apply dw_seq2 | (apply ds_region; exact rfl) | apply dw_block | apply dw_skip | apply dw_ret | (apply dw_condT; exact rfl) | apply thenD_n | apply thenD_r | (apply ds_newC; exact rfl; (with_reducible exact trivial); exact rfl; exact rfl; exact rfl) | (apply dw_condP; exact rfl; all_goals intro hg) | ((fail_if_success (apply ds_known; exact rfl)); apply ds_guardP; exact rfl; exact rfl; exact rfl; all_goals intro hg))
    all_goals first
      | (exfalso; omega)
      | exact ret_i rfl rfl
  · rw [if_neg h1]
    by_cases h2 : p.names.length ≠ p.arity.length
    · rw [if_pos h2]
      repeat' (first | (apply ds_evC; exact rfl; (with_reducible exact trivial); (with_reducible exact rfl); exact rfl; exact rfl; exact rfl) | (apply ds_skip; exact rfl; exact rfl) | apply ds_nil | apply dw_seq2 | (apply ds_region; exact rfl) | apply dw_block | apply dw_skip | apply dw_ret | (apply dw_condT; exact rfl) | apply thenD_n | apply thenD_r | (apply ds_newC; exact rfl; (with_reducible exact trivial); exact rfl; exact rfl; exact rfl) | (apply dw_condP; exact rfl; all_goals intro hg) | ((fail_if_success (apply ds_known; exact rfl)); apply ds_guardP; exact rfl; exact rfl; exact rfl; all_goals intro hg))
      all_goals first
        | (exfalso; omega)
        | exact ret_i rfl rfl
    · rw [if_neg h2]
      generalize hres : (if firstI (nameE nameR p) 0 p.names.length ≠ 0 then firstI (nameE nameR p) 0 p.names.length else firstL (ruleE p.arity) p.rules) = res
      repeat' (first | (apply ds_evC; exact rfl; (with_reducible exact trivial); (with_reducible exact rfl); exact rfl; exact rfl; exact rfl) | (apply ds_skip; exact rfl; exact rfl) | apply ds_nil | apply dw_seq2 | (apply ds_region; exact rfl) | apply dw_block | apply dw_skip | apply dw_ret | (apply dw_condT; exact rfl) | apply thenD_n | apply thenD_r | (apply ds_newC; exact rfl; (with_reducible exact trivial); exact rfl; exact rfl; exact rfl) | (apply dw_condP; exact rfl; all_goals intro hg) | ((fail_if_success (apply ds_known; exact rfl)); apply ds_guardP; exact rfl; exact rfl; exact rfl; all_goals intro hg))
      all_goals try (exfalso; omega)
      refine ds_loop (ι := Nat) (fun i => ⟨1, [(1, .loc 0 0), (2, .d (.int .i64 0)), (3, .d (.int .i64 i))], [(0, prgB p)]⟩)
        (fun i => i ≤ p.names.length ∧ firstI (nameE nameR p) 0 p.names.length = firstI (nameE nameR p) i (p.names.length - i)) (fun i => p.names.length - i) 0 ⟨Nat.zero_le _, rfl⟩ (ent_ren id ⟨rfl, rfl, rfl, trivial⟩ ⟨rfl, trivial⟩ rfl rfl rfl rfl rfl rfl) ?_
      rintro i ⟨g1, g2⟩
      by_cases hi : i < p.names.length
      · have ha : p.arity.getD i 0 = p.arity[i]'(by omega) := by rw [List.getD, List.getElem?_eq_getElem (by omega)]; rfl
        have hn : p.names.getD i ⟨#[]⟩ = p.names[i] := by rw [List.getD, List.getElem?_eq_getElem hi]; rfl
        rw [firstI_step hi, show nameE nameR p i = if inR (p.arity.getD i 0) 0 3 = false then 3 else if nameR (p.names.getD i ⟨#[]⟩) = false then 1 else if (p.names.take i).any (fun s => decide (s = p.names.getD i ⟨#[]⟩)) then 6 else 0 from rfl, ha, hn] at g2
        have wn := isName_fn p.names[i]
        have wa := sbetween_fn (p.arity[i]'(by omega)) 0 3
        generalize inR (p.arity[i]'(by omega)) 0 3 = ba at g2 wa
        generalize nameR p.names[i] = bn at g2 wn
        have hret : ∀ e, e ≠ 0 → firstI (nameE nameR p) 0 p.names.length = e → e = res := by
          rintro e he h
          rw [← hres, h, if_pos he]
        cases ba with
        | false =>
          repeat' (first | (apply ds_evC; exact rfl; (first | (with_reducible exact trivial) | omega); (first | ((with_reducible apply hv_row); (exact rfl); (omega)) | (with_reducible exact rfl)); exact rfl; exact rfl; exact rfl) | apply ds_nil | apply dw_seq2 | (apply ds_region; exact rfl) | apply dw_block | apply dw_skip | apply dw_exit | apply dw_ret | (apply dw_condT; exact rfl) | apply thenD_n | apply thenD_e | apply thenD_r | apply inB_r | (apply inB_e; exact rfl) | (apply ds_call; exact rfl; exact rfl; apply wa; exact rfl; (exact rfl); exact rfl; rintro _ rfl) | (apply dw_condP; exact rfl; all_goals intro hg))
          all_goals first
            | (exfalso; omega)
            | exact ret_i rfl (hret 3 (by decide) g2)
        | true =>
          cases bn with
          | false =>
            repeat' (first | (apply ds_evC; exact rfl; (first | (with_reducible exact trivial) | omega); (first | ((with_reducible apply hv_row); (exact rfl); (omega)) | (with_reducible exact rfl)); exact rfl; exact rfl; exact rfl) | apply ds_nil | apply dw_seq2 | (apply ds_region; exact rfl) | apply dw_block | apply dw_skip | apply dw_exit | apply dw_ret | (apply dw_condT; exact rfl) | (apply dw_condF; exact rfl) | apply thenD_n | apply thenD_e | apply thenD_r | apply inB_r | (apply inB_e; exact rfl) | (apply ds_call; exact rfl; exact rfl; apply wa; exact rfl; (exact rfl); exact rfl; rintro _ rfl) | (apply ds_call; exact rfl; exact rfl; apply wn; exact rfl; (exact rfl); exact rfl; rintro _ rfl) | (apply dw_condP; exact rfl; all_goals intro hg))
            all_goals first
              | (exfalso; omega)
              | exact ret_i rfl (hret 1 (by decide) g2)
          | true =>
            have lt : (p.names.take i).length = i := by simp; omega
            repeat' (first | (apply ds_evC; exact rfl; (first | (with_reducible exact trivial) | omega); (first | ((with_reducible apply hv_row); (exact rfl); (omega)) | (with_reducible exact rfl)); exact rfl; exact rfl; exact rfl) | apply ds_nil | apply dw_seq2 | (apply ds_region; exact rfl) | apply dw_block | apply dw_skip | apply dw_exit | (apply dw_condF; exact rfl) | apply thenD_n | apply thenD_e | (apply inB_e; exact rfl) | (apply ds_call; exact rfl; exact rfl; apply wa; exact rfl; (exact rfl); exact rfl; rintro _ rfl) | (apply ds_call; exact rfl; exact rfl; apply wn; exact rfl; (exact rfl); exact rfl; rintro _ rfl) | (apply dw_condP; exact rfl; all_goals intro hg))
            all_goals try (exfalso; omega)
            refine ds_loop (ι := Nat) (fun j => ⟨1, [(1, .loc 0 0), (2, .d (.int .i64 0)), (3, .d (.int .i64 i)), (4, .d (.int .i64 j))], [(0, prgB p)]⟩)
              (fun j => j ≤ i ∧ (p.names.take i).any (fun s => decide (s = p.names[i])) = ((p.names.take i).drop j).any (fun s => decide (s = p.names[i]))) (fun j => i - j) 0 ⟨Nat.zero_le _, rfl⟩ (ent_ren id ⟨rfl, rfl, rfl, rfl, trivial⟩ ⟨rfl, trivial⟩ rfl rfl rfl rfl rfl rfl) ?_
            rintro j ⟨e1, e2⟩
            by_cases hj : j < i
            · rw [List.drop_eq_getElem_cons (by omega), List.any_cons, List.getElem_take] at e2
              repeat' (first | (apply ds_evC; exact rfl; (first | (with_reducible exact trivial) | omega); (with_reducible exact rfl); exact rfl; exact rfl; exact rfl) | apply ds_nil | (apply dt_ev; exact rfl; exact rfl; (first | (with_reducible exact trivial) | omega); (first | ((with_reducible apply hv_row); (exact rfl); (omega)) | (with_reducible exact rfl)); exact rfl; exact rfl; exact rfl; exact rfl) | (apply dt_nil0; exact rfl; exact rfl; exact rfl; exact rfl) | apply dw_seq2 | (apply ds_region; exact rfl) | (apply dw_any; kernel_rfl; kernel_rfl; exact rfl; exact rfl) | apply dw_block | apply dw_skip | apply dw_exit | apply dw_ret | apply thenD_n | apply thenD_e | apply thenD_r | apply inB_n | apply inB_r | (apply inB_e; exact rfl) | (apply dw_condP; exact rfl; all_goals intro hg))
              all_goals try (exfalso; omega)
              · have hh : p.names[j]'(by omega) = p.names[i] := by assumption
                rw [decide_eq_true hh, Bool.true_or] at e2
                rw [e2] at g2
                exact ret_i rfl (hret 6 (by decide) g2)
              · have hh : ¬ p.names[j]'(by omega) = p.names[i] := by assumption
                rw [decide_eq_false hh, Bool.false_or] at e2
                exact ⟨j + 1, ⟨by omega, e2⟩, ent_ren id ⟨rfl, rfl, rfl, rfl, trivial⟩ ⟨rfl, trivial⟩ rfl rfl rfl rfl rfl rfl, by show i - (j + 1) < i - j; omega⟩
            · rw [List.drop_of_length_le (by omega)] at e2
              rw [e2] at g2
              repeat' (first | (apply ds_evC; exact rfl; (first | (with_reducible exact trivial) | omega); (with_reducible exact rfl); exact rfl; exact rfl; exact rfl) | apply ds_nil | (apply dt_ev; exact rfl; exact rfl; (first | (with_reducible exact trivial) | omega); (first | ((with_reducible apply hv_row); (exact rfl); (omega)) | (with_reducible exact rfl)); exact rfl; exact rfl; exact rfl; exact rfl) | (apply dt_nil0; exact rfl; exact rfl; exact rfl; exact rfl) | apply dw_seq2 | (apply ds_region; exact rfl) | (apply dw_any; kernel_rfl; kernel_rfl; exact rfl; exact rfl) | apply dw_block | apply dw_skip | apply dw_exit | apply dw_ret | apply thenD_n | apply thenD_e | apply thenD_r | apply inB_n | apply inB_r | (apply inB_e; exact rfl) | (apply dw_condP; exact rfl; all_goals intro hg))
              all_goals try (exfalso; omega)
              exact ⟨i + 1, ⟨by omega, g2⟩, ent_ren id ⟨rfl, rfl, rfl, trivial⟩ ⟨rfl, trivial⟩ rfl rfl rfl rfl rfl rfl, by show p.names.length - (i + 1) < p.names.length - i; omega⟩
      · rw [firstI_end (by omega)] at g2
        have hres : firstL (ruleE p.arity) p.rules = res := by rw [← hres, g2, if_neg (by decide)]
        repeat' (first | (apply ds_evC; exact rfl; (first | (with_reducible exact trivial) | omega); (first | ((with_reducible apply hv_row); (exact rfl); (omega)) | (with_reducible exact rfl)); exact rfl; exact rfl; exact rfl) | apply ds_nil | apply dw_seq2 | (apply ds_region; exact rfl) | apply dw_block | apply dw_skip | apply dw_exit | apply thenD_n | apply thenD_e | (apply inB_e; exact rfl) | (apply dw_condP; exact rfl; all_goals intro hg))
        all_goals try (exfalso; omega)
        refine ds_loop (ι := Nat) (fun j => ⟨1, [(1, .loc 0 0), (2, .d (.int .i64 0)), (5, .d (.int .i64 j))], [(0, prgB p)]⟩)
          (fun j => j ≤ p.rules.length ∧ res = firstL (ruleE p.arity) (p.rules.drop j)) (fun j => p.rules.length - j) 0 ⟨Nat.zero_le _, hres.symm⟩ (ent_ren id ⟨rfl, rfl, rfl, trivial⟩ ⟨rfl, trivial⟩ rfl rfl rfl rfl rfl rfl) ?_
        rintro j ⟨e1, e2⟩
        by_cases hj : j < p.rules.length
        · rw [firstL_step hj] at e2
          have w6 := rrule_fn p p.rules[j]
          generalize ruleE p.arity p.rules[j] = le at w6 e2
          repeat' (first | (apply ds_evC; exact rfl; (first | (with_reducible exact trivial) | omega); (with_reducible exact rfl); exact rfl; exact rfl; exact rfl) | apply ds_nil | (apply dt_ev; exact rfl; exact rfl; (first | (with_reducible exact trivial) | omega); (first | ((with_reducible apply hv_row); (exact rfl); (omega)) | (with_reducible exact rfl)); exact rfl; exact rfl; exact rfl; exact rfl) | (apply dt_nil0; exact rfl; exact rfl; exact rfl; exact rfl) | apply dw_seq2 | (apply ds_region; exact rfl) | (apply dw_any; kernel_rfl; kernel_rfl; exact rfl; exact rfl) | apply dw_block | apply dw_skip | apply dw_exit | apply dw_ret | apply thenD_n | apply thenD_e | apply thenD_r | apply inB_n | apply inB_r | (apply inB_e; exact rfl) | (apply dt_call; exact rfl; exact rfl; apply w6; exact rfl; (exact rfl); exact rfl; exact rfl; exact ⟨_, rfl⟩; rintro _ rfl) | (apply dw_condP; exact rfl; all_goals intro hg))
          all_goals first
            | (exfalso; omega)
            | (refine ret_i rfl ?_; rw [e2, if_pos (by assumption)]; done)
            | exact ⟨j + 1, ⟨by omega, by rw [e2, if_neg (by assumption)]⟩, ent_ren id ⟨rfl, rfl, rfl, trivial⟩ ⟨rfl, trivial⟩ rfl rfl rfl rfl rfl rfl, by show p.rules.length - (j + 1) < p.rules.length - j; omega⟩

        · rw [firstL_end (by omega)] at e2
          repeat' (first | (apply ds_evC; exact rfl; (with_reducible exact trivial); (with_reducible exact rfl); exact rfl; exact rfl; exact rfl) | apply ds_nil | (apply dt_ev; exact rfl; exact rfl; (first | (with_reducible exact trivial) | omega); (first | ((with_reducible apply hv_row); (exact rfl); (omega)) | (with_reducible exact rfl)); exact rfl; exact rfl; exact rfl; exact rfl) | apply dw_seq2 | (apply ds_region; exact rfl) | (apply dw_any; kernel_rfl; kernel_rfl; exact rfl; exact rfl) | apply dw_block | apply dw_skip | apply dw_exit | apply dw_ret | apply thenD_n | apply thenD_e | (apply inB_e; exact rfl) | (apply dw_condP; exact rfl; all_goals intro hg))
          all_goals first
            | (exfalso; omega)
            | exact ret_i rfl e2.symm

end Go.Proofs.Ytapciiffpnociaa

/- Plain laws on tokens: what is scanned is a token by itself; what is joined is scanned as it was. Condition: none. -/
namespace Go.Proofs.Ytapciiffpnociaa
open Go Go.RowKit

theorem takeW_full (p : UInt8 → Bool) (x : UInt8) (r : List UInt8) (hx : p x = false) : ∀ l, takeW p l = l.length → takeW p (l ++ x :: r) = l.length
  | [], _ => by unfold takeW; simp [hx]
  | c :: l, h => by
    unfold takeW at h
    by_cases hc : p c = true
    · rw [if_pos hc] at h
      have := takeW_full p x r hx l (by simpa using h)
      rw [List.cons_append, takeW, if_pos hc, this]; rfl
    · rw [if_neg hc] at h; simp at h

theorem takeW_take (p : UInt8 → Bool) : ∀ l, takeW p (l.take (takeW p l)) = takeW p l
  | [] => by rw [List.take_nil]
  | c :: l => by
    by_cases hc : p c = true
    · have e : takeW p (c :: l) = takeW p l + 1 := by rw [takeW, if_pos hc]
      rw [e, List.take_succ_cons, takeW, if_pos hc, takeW_take p l]
    · have e : takeW p (c :: l) = 0 := by rw [takeW, if_neg hc]
      rw [e]; unfold takeW; rfl

theorem alnum32 : alnumB 32 = false := by unfold alnumB letterB smallB greatB digitB; decide
theorem digit32 : digitB 32 = false := by unfold digitB; decide
theorem pairB_cons2 (a b : UInt8) (r r' : List UInt8) : pairB (a :: b :: r) = pairB (a :: b :: r') := by unfold pairB; rfl
theorem pairB_one (a : UInt8) : pairB [a] = false := by unfold pairB; rfl
theorem pairB_32 (a : UInt8) (r : List UInt8) : pairB (a :: 32 :: r) = false := by
  unfold pairB
  simp

theorem tokAt_app (u : List UInt8) (k : Int) (hu : u ≠ []) (h : tokAt u = (k, u.length)) (r : List UInt8) : tokAt (u ++ 32 :: r) = (k, u.length) := by
  cases u with
  | nil => exact absurd rfl hu
  | cons c l =>
    rw [List.cons_append]
    rw [tokAt_cons] at h ⊢
    by_cases a : letterB c = true
    · rw [if_pos a] at h ⊢
      injection h with h1 h2
      rw [h1, takeW_full alnumB 32 r alnum32 l (by simp only [List.length_cons] at h2; omega)]
      simp only [List.length_cons]; rw [Nat.add_comm]
    · rw [if_neg a] at h ⊢
      by_cases b : digitB c = true
      · rw [if_pos b] at h ⊢
        injection h with h1 h2
        rw [h1, takeW_full digitB 32 r digit32 l (by simp only [List.length_cons] at h2; omega)]
        simp only [List.length_cons]; rw [Nat.add_comm]
      · rw [if_neg b] at h ⊢
        by_cases d : pairB (c :: l) = true
        · rw [if_pos d] at h
          injection h with h1 h2
          match l, h2, d with
          | [b'], h2, d =>
            rw [List.singleton_append, pairB_cons2 c b' (32 :: r) [], if_pos d, h1]
            rfl
        · rw [if_neg d] at h
          by_cases e : signs.contains c = true
          · rw [if_pos e] at h
            injection h with h1 h2
            match l, h2 with
            | [], _ =>
              rw [List.nil_append, if_neg (by rw [pairB_32]; exact Bool.false_ne_true), if_pos e, h1]
              rfl
          · rw [if_neg e] at h
            injection h with h1 h2
            simp at h2

theorem tokAt_take (w : List UInt8) (k : Int) (n : Nat) (h : tokAt w = (k, n)) (hk : k ≠ 0) : tokAt (w.take n) = (k, n) := by
  cases w with
  | nil =>
    unfold tokAt at h
    injection h with h1 h2
    exact absurd h1.symm hk
  | cons c l =>
    rw [tokAt_cons] at h
    by_cases a : letterB c = true
    · rw [if_pos a] at h
      injection h with h1 h2
      subst h2
      rw [Nat.add_comm, List.take_succ_cons, tokAt_cons, if_pos a, takeW_take, h1, Nat.add_comm]
    · rw [if_neg a] at h
      by_cases b : digitB c = true
      · rw [if_pos b] at h
        injection h with h1 h2
        subst h2
        rw [Nat.add_comm, List.take_succ_cons, tokAt_cons, if_neg a, if_pos b, takeW_take, h1, Nat.add_comm]
      · rw [if_neg b] at h
        by_cases d : pairB (c :: l) = true
        · rw [if_pos d] at h
          injection h with h1 h2
          subst h2
          match l, d with
          | [], d => rw [pairB_one] at d; exact absurd d Bool.false_ne_true
          | b' :: l, d =>
            show tokAt [c, b'] = _
            rw [tokAt_cons, if_neg a, if_neg b, pairB_cons2 c b' [] l, if_pos d, h1]
        · rw [if_neg d] at h
          by_cases e : signs.contains c = true
          · rw [if_pos e] at h
            injection h with h1 h2
            subst h2
            show tokAt [c] = _
            rw [tokAt_cons, if_neg a, if_neg b, if_neg (by rw [pairB_one]; exact Bool.false_ne_true), if_pos e, h1]
          · rw [if_neg e] at h
            injection h with h1 h2
            exact absurd h1.symm hk

theorem tokAt_37 (l : List UInt8) : (tokAt (37 :: l)).1 = 0 := by
  rw [tokAt_cons, if_neg (by unfold letterB smallB greatB; decide), if_neg (by unfold digitB; decide), if_neg (by unfold pairB; cases l <;> simp), if_neg (by decide)]
theorem tokAt_32 (l : List UInt8) : (tokAt (32 :: l)).1 = 0 := by
  rw [tokAt_cons, if_neg (by unfold letterB smallB greatB; decide), if_neg (by unfold digitB; decide), if_neg (by unfold pairB; cases l <;> simp), if_neg (by decide)]
theorem tokAt_9 (l : List UInt8) : (tokAt (9 :: l)).1 = 0 := by
  rw [tokAt_cons, if_neg (by unfold letterB smallB greatB; decide), if_neg (by unfold digitB; decide), if_neg (by unfold pairB; cases l <;> simp), if_neg (by decide)]
theorem tokAt_10 (l : List UInt8) : (tokAt (10 :: l)).1 = 0 := by
  rw [tokAt_cons, if_neg (by unfold letterB smallB greatB; decide), if_neg (by unfold digitB; decide), if_neg (by unfold pairB; cases l <;> simp), if_neg (by decide)]

theorem tokErr_kind {k : Int} {n : Nat} {c : UInt8} (h : tokErr k n c = 0) : k ≠ 0 := by
  intro hk
  rw [tokErr_eq, if_pos hk] at h
  cases h

theorem drop_byte (s : ByteArray) (i : Nat) (h : i < s.size) : s.data.toList.drop i = s[i] :: s.data.toList.drop (i + 1) := by
  rw [List.drop_eq_getElem_cons (by simpa using h)]; rfl

theorem ext_list (s : ByteArray) (i n : Nat) : (s.extract i (i + n)).data.toList = (s.data.toList.drop i).take n := by
  simp [ByteArray.data_extract, Array.toList_extract, List.extract_eq_take_drop]

theorem bytes_inj {a b : ByteArray} (h : a.data.toList = b.data.toList) : a = b := ByteArray.ext (Array.ext' h)

/-- One token, then on. -/
theorem scan_one (s : ByteArray) (i : Nat) (k : Int) (n : Nat) (h : i < s.size) (ht : tokAt (s.data.toList.drop i) = (k, n)) (he : tokErr k n s[i] = 0) :
    scanAt s false i = (scanAt s false (i + n)).map (Tok.mk k i (s.extract i (i + n)) :: ·) := by
  have hk := tokErr_kind he
  have hd := drop_byte s i h
  have hb : ∀ c : UInt8, (∀ l, (tokAt (c :: l)).1 = 0) → s[i] ≠ c := by
    intro c hc e
    rw [hd, e] at ht
    have := hc (s.data.toList.drop (i + 1))
    rw [ht] at this
    exact hk this
  have h37 := hb 37 tokAt_37
  have h32 := hb 32 tokAt_32
  have h9 := hb 9 tokAt_9
  have h10 := hb 10 tokAt_10
  have := scanAt_tok s i h (by simpa using h37) (by simp [h32, h9, h10]) (by rw [ht]; exact he)
  rw [ht] at this
  exact this

/-- Tokens that stand in a text, each behind the last. -/
def Chain (s : ByteArray) : Nat → List Tok → Prop
  | _, [] => True
  | i, t :: l => ∃ j, i ≤ j ∧ t.at_ = j ∧ (∃ h : j < s.size, tokAt (s.data.toList.drop j) = (t.kind, t.text.size) ∧ tokErr t.kind t.text.size s[j] = 0) ∧ j + t.text.size ≤ s.size ∧ t.text = s.extract j (j + t.text.size) ∧ Chain s (j + t.text.size) l

theorem Chain.mono {s : ByteArray} {i i' : Nat} {l : List Tok} (h : Chain s i' l) (hi : i ≤ i') : Chain s i l := by
  cases l with
  | nil => trivial
  | cons t l =>
    obtain ⟨j, h1, h2⟩ := h
    exact ⟨j, Nat.le_trans hi h1, h2⟩

theorem scanGo_chain (s : ByteArray) : ∀ (f : Nat) (note : Bool) (i : Nat) (l : List Tok), scanGo s f note i = .ok l → Chain s i l := by
  intro f
  induction f with
  | zero =>
    intro note i l h
    simp only [scanGo] at h
    cases h
    trivial
  | succ f ih =>
    intro note i l h
    simp only [scanGo] at h
    by_cases hi : i < s.size
    · rw [dif_pos hi] at h
      split at h
      · exact (ih _ _ _ h).mono (by omega)
      · split at h
        · exact (ih _ _ _ h).mono (by omega)
        · split at h
          · rename_i he
            cases hr : scanGo s f false (i + (tokAt (s.data.toList.drop i)).2) with
            | error e => rw [hr] at h; cases h
            | ok l' =>
              rw [hr] at h
              cases h
              have hle := tokAt_le (s.data.toList.drop i)
              rw [List.length_drop, show s.data.toList.length = s.size from Array.length_toList] at hle
              have hsz : (s.extract i (i + (tokAt (s.data.toList.drop i)).2)).size = (tokAt (s.data.toList.drop i)).2 := by rw [ByteArray.size_extract]; omega
              exact ⟨i, Nat.le_refl _, rfl, ⟨hi, by rw [hsz], by rw [hsz]; exact he⟩, by rw [hsz]; omega, by rw [hsz], by rw [hsz]; exact ih _ _ _ hr⟩
          · cases h
    · rw [dif_neg hi] at h
      cases h
      trivial

theorem scanGo_err (s : ByteArray) : ∀ (f : Nat) (note : Bool) (i : Nat) (p e : Int), scanGo s f note i = .error (p, e) → e ≠ 0 := by
  intro f
  induction f with
  | zero =>
    intro note i p e h
    simp only [scanGo] at h
    cases h
  | succ f ih =>
    intro note i p e h
    simp only [scanGo] at h
    by_cases hi : i < s.size
    · rw [dif_pos hi] at h
      split at h
      · exact ih _ _ _ _ h
      · split at h
        · exact ih _ _ _ _ h
        · split at h
          · cases hr : scanGo s f false (i + (tokAt (s.data.toList.drop i)).2) with
            | error e' => rw [hr] at h; cases h; exact ih _ _ _ _ hr
            | ok l' => rw [hr] at h; cases h
          · rename_i he
            injection h with h
            injection h with h1 h2
            rw [← h2]; exact he
    · rw [dif_neg hi] at h
      cases h

theorem scanS_chain (s : ByteArray) (l : List Tok) (p : Int) (h : scanS s = (l, p, 0)) : Chain s 0 l ∧ s.size ≤ 5000 ∧ p = 0 := by
  unfold scanS at h
  split at h
  · injection h with h1 h2; injection h2 with h2 h3; cases h3
  · rename_i hs
    split at h
    · rename_i l' hl
      injection h with h1 h2
      injection h2 with h2 h3
      subst h1
      unfold scanAt at hl
      exact ⟨scanGo_chain _ _ _ _ _ hl, by omega, h2.symm⟩
    · rename_i p' e hl
      injection h with h1 h2
      injection h2 with h2 h3
      subst h1
      unfold scanAt at hl
      exact absurd h3 (scanGo_err _ _ _ _ _ _ hl)

theorem isTok_eq (kind : Int) (s : ByteArray) : isTok kind s = true ↔ ∃ h : 0 < s.size, s.size ≤ 5000 ∧ tokAt s.data.toList = (kind, s.size) ∧ tokErr kind s.size s[0] = 0 := by
  unfold isTok
  by_cases h : 0 < s.size
  · rw [dif_pos h]
    simp only [Bool.and_eq_true, decide_eq_true_eq]
    constructor
    · rintro ⟨⟨⟨⟨h1, h2⟩, h3⟩, h4⟩, h5⟩
      exact ⟨h, h1, Prod.ext h3 h4, h5⟩
    · rintro ⟨_, h1, h2, h3⟩
      exact ⟨⟨⟨⟨h1, tokErr_kind h3⟩, by rw [h2]⟩, by rw [h2]⟩, h3⟩
  · rw [dif_neg h]
    exact ⟨fun h' => absurd h' Bool.false_ne_true, fun ⟨h', _⟩ => absurd h' h⟩

theorem oneS_eq (kind : Int) (s : ByteArray) : oneS kind s = isTok kind s := by
  rw [Bool.eq_iff_iff, isTok_eq]
  constructor
  · intro h
    unfold oneS at h
    split at h
    · rename_i t p e hs
      simp only [Bool.and_eq_true, decide_eq_true_eq] at h
      obtain ⟨h1, h2, h3⟩ := h
      subst h1
      obtain ⟨⟨j, g1, g2, ⟨g3, g4, g5⟩, g6, g7, _⟩, hsz, _⟩ := scanS_chain s [t] p hs
      rw [h3] at g4 g5 g6
      have hj : j = 0 := by omega
      subst hj
      rw [h2] at g4 g5
      exact ⟨g3, hsz, g4, g5⟩
    · cases h
  · rintro ⟨h, h1, h2, h3⟩
    have := scan_one s 0 kind s.size h h2 h3
    rw [scanAt_end s false (0 + s.size) (by omega)] at this
    have hext : s.extract 0 (0 + s.size) = s := bytes_inj (by rw [ext_list, List.drop_zero]; exact List.take_of_length_le (Nat.le_of_eq (Array.length_toList (xs := s.data))))
    rw [hext] at this
    unfold oneS
    rw [scanS_ok s (by omega) _ this]
    simp
end Go.Proofs.Ytapciiffpnociaa

/- Programs: Check and the document's CheckProgram say the same. Condition: none. -/
namespace Go.Proofs.Ytapciiffpnociaa
open Go Go.RowKit
theorem name_eq : nameS = nameR := by
  funext s
  unfold nameS nameR
  rw [oneS_eq]
theorem scheck_fn (p : Prg) : Fn 103 [elPrg p] (fun x => x = .d (.int .i64 (progE nameR p))) := name_eq ▸ check_fn p
end Go.Proofs.Ytapciiffpnociaa

/- The program's Levels, Needs. Condition: none. -/
namespace Go.Proofs.Ytapciiffpnociaa
open Go Go.RowKit
attribute [local irreducible] DW DS DL DQ Ev FnOk FnP thenD inBlockD DWr

theorem predsOk_of {p : Prg} (h : PrgOk p) : predsOk p.arity.length p.rules := fun r hr => ⟨(h.each r hr).pred, fun x hx hh => ((h.each r hr).lits x hx).pred hh⟩
def levE (p : Prg) : Int := if progE nameR p ≠ 0 then progE nameR p else if docOk p then 0 else 4
def levL (p : Prg) : List Int := if progE nameR p = 0 ∧ docOk p = true then docLv p else []

set_option maxHeartbeats 8000000 in
theorem levels_fn (p : Prg) : Fn 28 [elPrg p] (fun res => res = .tup [.d (.slice 1 ((levL p).map encI)), .d (.int .i64 (levE p))]) := by
  refine fnp_enter' _ Try.func28 rfl rfl (by kernel_rfl) ?_
  intro O w0 E0 β0
  have hc := scheck_fn p
  unfold levE levL
  by_cases h0 : progE nameR p = 0
  · have hok := progE_ok h0
    have hr := raw_fn p hok.preds hok.rules (predsOk_of hok)
    rw [levels_same p hok] at hr
    rw [h0] at hc ⊢
    cases hd : docOk p with
    | true =>
      rw [hd, if_pos rfl] at hr
      unfold rawSV at hr
      dsimp only at hr
      repeat' (first | (apply ds_evC; exact rfl; (with_reducible exact trivial); (with_reducible exact rfl); exact rfl; exact rfl; exact rfl) | apply ds_nil | apply dw_seq2 | (apply ds_region; exact rfl) | apply dw_skip | apply dw_ret | (apply dw_condF; exact rfl) | apply thenD_n | (apply ds_call; exact rfl; exact rfl; apply hc; exact rfl; (exact rfl); exact rfl; rintro _ rfl) | (apply ds_call; exact rfl; exact rfl; apply hr; exact rfl; (exact rfl); exact rfl; rintro _ rfl) | (apply ds_newC; exact rfl; (with_reducible exact trivial); exact rfl; exact rfl; exact rfl))
      exact ret_2 rfl ⟨by simp, by simp⟩
    | false =>
      rw [hd, if_neg (by simp)] at hr
      unfold rawSV at hr
      dsimp only at hr
      repeat' (first | (apply ds_evC; exact rfl; (with_reducible exact trivial); (with_reducible exact rfl); exact rfl; exact rfl; exact rfl) | apply ds_nil | apply dw_seq2 | (apply ds_region; exact rfl) | apply dw_skip | (apply dw_condT; exact rfl) | (apply dw_condF; exact rfl) | apply thenD_n | (apply ds_call; exact rfl; exact rfl; apply hc; exact rfl; (exact rfl); exact rfl; rintro _ rfl) | (apply ds_call; exact rfl; exact rfl; apply hr; exact rfl; (exact rfl); exact rfl; rintro _ rfl) | (apply ds_newC; exact rfl; (with_reducible exact trivial); exact rfl; exact rfl; exact rfl))
      refine dw_nild 2 1 rfl ?_
      repeat' (first | apply dw_ret | apply thenD_r)
      exact ret_2 rfl ⟨by simp, by simp⟩
  · have hn : decide (progE nameR p ≠ 0) = true := decide_eq_true h0
    generalize progE nameR p = q at hc h0 hn ⊢
    repeat' (first | (apply ds_evC; exact rfl; (with_reducible exact trivial); (with_reducible exact rfl); exact rfl; exact rfl; exact rfl) | apply ds_nil | apply dw_seq2 | (apply ds_region; exact rfl) | apply dw_skip | apply thenD_n | (apply ds_call; exact rfl; exact rfl; apply hc; exact rfl; (exact rfl); exact rfl; rintro _ rfl) | (apply ds_newC; exact rfl; (with_reducible exact trivial); exact rfl; exact rfl; exact rfl) | (apply dw_condP; exact rfl; all_goals intro hg))
    · refine dw_nild 2 1 rfl ?_
      repeat' (first | apply dw_ret | apply thenD_r)
      exact ret_2 rfl ⟨by simp [h0], by simp [h0]⟩
    · exact absurd h0 hg

def readyE (p : Prg) (pred : Int) : Int := if progE nameR p ≠ 0 then progE nameR p else if 0 ≤ pred ∧ pred < p.arity.length then 0 else 5
set_option maxHeartbeats 8000000 in
theorem sready_fn (p : Prg) (pred : Int) : Fn 105 [elPrg p, .d (.int .i64 pred)] (fun res => res = .d (.int .i64 (readyE p pred))) := by
  refine fnp_enter' _ Try.func105 rfl rfl (by kernel_rfl) ?_
  intro O w0 E0 β0
  have hc := scheck_fn p
  have la : (p.arity.map encI).length = p.arity.length := List.length_map _
  unfold readyE
  generalize progE nameR p = q at hc ⊢
  repeat' (first | (apply ds_evC; exact rfl; (with_reducible exact trivial); (with_reducible exact rfl); exact rfl; exact rfl; exact rfl) | (apply ds_skip; exact rfl; exact rfl) | apply ds_nil | apply dw_seq2 | (apply ds_region; exact rfl) | apply dw_skip | apply dw_ret | (apply dw_condT; exact rfl) | apply thenD_n | apply thenD_r | (apply ds_call; exact rfl; exact rfl; apply hc; exact rfl; (exact rfl); exact rfl; rintro _ rfl) | (apply ds_newC; exact rfl; (with_reducible exact trivial); exact rfl; exact rfl; exact rfl) | (apply dw_condP; exact rfl; all_goals intro hg) | ((fail_if_success (apply ds_known; exact rfl)); apply ds_guardP; exact rfl; exact rfl; exact rfl; all_goals intro hg))
  all_goals first
    | exact ret_i rfl (by rw [if_pos hg])
    | exact ret_i rfl (by rw [if_neg (by assumption), if_pos (by omega)])
    | exact ret_i rfl (by rw [if_neg (by assumption), if_neg (by omega)])

theorem readyE_ok {p : Prg} {pred : Int} (h : readyE p pred = 0) : progE nameR p = 0 ∧ 0 ≤ pred ∧ pred < p.arity.length := by
  unfold readyE at h
  split at h
  · rename_i h1; exact absurd h h1
  · rename_i h1
    split at h
    · rename_i h2; exact ⟨Classical.byContradiction fun h3 => h1 h3, h2⟩
    · cases h

set_option maxHeartbeats 8000000 in
theorem pneeds_fn (p : Prg) (pred : Int) : Fn 29 [elPrg p, .d (.int .i64 pred)] (fun res => res = .tup [.d (.slice 1 ((if readyE p pred = 0 then needsL p pred else []).map encBl)), .d (.int .i64 (readyE p pred))]) := by
  refine fnp_enter' _ Try.func29 rfl rfl (by kernel_rfl) ?_
  intro O w0 E0 β0
  have hc := sready_fn p pred
  by_cases h0 : readyE p pred = 0
  · obtain ⟨h1, h2⟩ := readyE_ok h0
    have hok := progE_ok h1
    have hr := needs_fn p pred hok.preds hok.rules (predsOk_of hok) h2
    rw [h0] at hc ⊢
    repeat' (first | (apply ds_evC; exact rfl; (with_reducible exact trivial); (with_reducible exact rfl); exact rfl; exact rfl; exact rfl) | apply ds_nil | apply dw_seq2 | (apply ds_region; exact rfl) | apply dw_skip | apply dw_ret | (apply dw_condF; exact rfl) | apply thenD_n | (apply ds_call; exact rfl; exact rfl; apply hc; exact rfl; (exact rfl); exact rfl; rintro _ rfl) | (apply ds_call; exact rfl; exact rfl; apply hr; exact rfl; (exact rfl); exact rfl; rintro _ rfl) | (apply ds_newC; exact rfl; (with_reducible exact trivial); exact rfl; exact rfl; exact rfl))
    exact ret_2 rfl ⟨by simp, rfl⟩
  · generalize readyE p pred = q at hc h0 ⊢
    repeat' (first | (apply ds_evC; exact rfl; (with_reducible exact trivial); (with_reducible exact rfl); exact rfl; exact rfl; exact rfl) | apply ds_nil | apply dw_seq2 | (apply ds_region; exact rfl) | apply dw_skip | apply thenD_n | (apply ds_call; exact rfl; exact rfl; apply hc; exact rfl; (exact rfl); exact rfl; rintro _ rfl) | (apply ds_newC; exact rfl; (with_reducible exact trivial); exact rfl; exact rfl; exact rfl) | (apply dw_condP; exact rfl; all_goals intro hg))
    · refine dw_nild 4 1 rfl ?_
      repeat' (first | apply dw_ret | apply thenD_r)
      exact ret_2 rfl ⟨by simp [h0], rfl⟩
    · exact absurd h0 hg

set_option maxHeartbeats 8000000 in
theorem sown_fn (r : Rul) (h1 : r.terms.length ≤ 8796093022208) (h2 : r.body.length ≤ 1000000) (h3 : ∀ x ∈ r.body, x.terms.length ≤ 8796093022208) : Fn 109 [elRul r] (fun res => res = elRul r) := by
  refine fnp_enter' _ Try.func109 rfl rfl (by kernel_rfl) ?_
  intro O w0 E0 β0
  have ht := cloneT_fn r.terms h1
  have lb : (r.body.map encLtl).length = r.body.length := List.length_map _
  repeat' (first | (apply ds_evC; exact rfl; (with_reducible exact trivial); (with_reducible exact rfl); exact rfl; exact rfl; exact rfl) | apply ds_nil | apply dw_seq2 | (apply ds_region; exact rfl) | apply dw_block | apply thenD_n | (apply ds_call; exact rfl; exact rfl; apply ht; exact rfl; (exact rfl); exact rfl; rintro _ rfl) | (apply ds_newC; exact rfl; (with_reducible exact trivial); exact rfl; exact rfl; exact rfl) | (apply ds_setC; exact rfl; exact rfl; exact rfl; exact rfl))
  refine dw_ent (ent_cellrow 2 3 147 4 rfl rfl rfl) ?_
  refine ds_loop (ι := Nat × List Ltl) (fun x => ⟨4, [(1, .loc 0 0), (2, .loc 1 0), (3, .loc 2 0), (14, .d (.slice 4 (r.body.map encLtl))), (15, .d (.int .i64 (r.body.map encLtl).length)), (16, .d (.int .i64 x.1))],
      [(0, ruleB r), (1, .blk 143 [.d (.int .i64 0), .nils, .d (.int .i64 0), .nils, .d (.int .i64 0)]), (2, .blk 143 [.d (.int .i64 r.pred), .d (.slice 2 (r.terms.map encTrm)), .d (.int .i64 r.fold), .row 3, .d (.int .i64 r.vars)]), (3, .row 147 4 (x.2.map encLtl))]⟩)
    (fun x => x.1 ≤ r.body.length ∧ x.2 = r.body.take x.1) (fun x => r.body.length - x.1) (0, []) ⟨Nat.zero_le _, rfl⟩ (ent_ren id ⟨rfl, rfl, rfl, rfl, rfl, rfl, trivial⟩ ⟨rfl, rfl, rfl, rfl, trivial⟩ rfl rfl rfl rfl rfl rfl) ?_
  rintro ⟨i, o⟩ ⟨g1, g2⟩
  dsimp only at g1 g2 ⊢
  have lo : (o.map encLtl).length = o.length := List.length_map _
  have hol : o.length = i := by rw [g2, List.length_take]; omega
  by_cases hi : i < r.body.length
  · have hx := h3 _ (List.getElem_mem hi)
    have hstep : o ++ [r.body[i]] = r.body.take (i + 1) := by rw [g2, List.take_succ_eq_append_getElem hi]
    have hc := cloneT_fn _ hx
    repeat' (first | (apply ds_evC; exact rfl; (first | (with_reducible exact trivial) | omega); (first | ((with_reducible apply hv_row); (exact rfl); (omega)) | (with_reducible exact rfl)); exact rfl; exact rfl; exact rfl) | apply ds_nil | apply dw_seq2 | (apply ds_region; exact rfl) | apply dw_block | apply dw_skip | apply dw_exit | apply dw_ret | apply thenD_n | apply thenD_e | apply inB_n | (apply inB_e; exact rfl) | (apply ds_call; exact rfl; exact rfl; apply hc; exact rfl; (exact rfl); exact rfl; rintro _ rfl) | (apply ds_newC; exact rfl; (with_reducible exact trivial); exact rfl; exact rfl; exact rfl) | (apply ds_setC; exact rfl; exact rfl; exact rfl; exact rfl) | (apply ds_bsC; exact rfl; exact rfl; exact rfl; exact rfl) | (apply ds_tradeC; exact rfl; (unfold maxLen; simp <;> omega); exact rfl; exact rfl; exact rfl; exact rfl) | (apply dw_condP; exact rfl; all_goals intro hg))
    all_goals try (exfalso; omega)
    exact ⟨(i + 1, o ++ [r.body[i]]), ⟨by dsimp only; omega, hstep⟩, ent_ren (fun j => match j with | 3 => 6 | j => j) ⟨rfl, rfl, rfl, rfl, rfl, rfl, trivial⟩ ⟨rfl, rfl, rfl, by rw [List.map_append]; rfl, trivial⟩ rfl rfl rfl rfl rfl rfl, by show r.body.length - (i + 1) < r.body.length - i; omega⟩
  · have ho : o = r.body := by rw [g2, List.take_of_length_le (by omega)]
    repeat' (first | (apply ds_evC; exact rfl; (first | (with_reducible exact trivial) | omega); (first | ((with_reducible apply hv_row); (exact rfl); (omega)) | (with_reducible exact rfl)); exact rfl; exact rfl; exact rfl) | apply ds_nil | apply dw_seq2 | (apply ds_region; exact rfl) | apply dw_block | apply dw_skip | apply dw_exit | apply thenD_n | apply thenD_e | (apply inB_e; exact rfl) | (apply ds_newC; exact rfl; (with_reducible exact trivial); exact rfl; exact rfl; exact rfl) | (apply ds_setC; exact rfl; exact rfl; exact rfl; exact rfl) | (apply dw_condP; exact rfl; all_goals intro hg))
    all_goals try (exfalso; omega)
    refine dw_ent (ent_cellseal 1 3 3 rfl rfl rfl rfl rfl) ?_
    repeat' (apply dw_ret)
    exact ⟨.inl rfl, _, rfl, rfl, by rw [ho]; rfl⟩

def focusL (need : List Bool) (l : List Rul) : List Rul := l.filter fun r => need.getD r.pred.toNat false
def elPrg0 : SV := elPrg ⟨[], [], []⟩
def focusP (p : Prg) (pred : Int) : Prg := if readyE p pred = 0 then ⟨p.arity, p.names, focusL (needsL p pred) p.rules⟩ else ⟨[], [], []⟩

set_option maxHeartbeats 8000000 in
theorem focus_fn (p : Prg) (pred : Int) : Fn 30 [elPrg p, .d (.int .i64 pred)] (fun res => res = .tup [elPrg (focusP p pred), .d (.int .i64 (readyE p pred))]) := by
  refine fnp_enter' _ Try.func30 rfl rfl (by kernel_rfl) ?_
  intro O w0 E0 β0
  have hc := sready_fn p pred
  unfold focusP
  by_cases h0 : readyE p pred = 0
  · obtain ⟨g1, g2⟩ := readyE_ok h0
    have hok := progE_ok g1
    have hr := needs_fn p pred hok.preds hok.rules (predsOk_of hok) g2
    have la : (p.arity.map encI).length = p.arity.length := List.length_map _
    have lr : (p.rules.map encRul).length = p.rules.length := List.length_map _
    have hca := cloneI_fn p.arity (by have := hok.preds; omega)
    have hcn := cloneS_fn p.names (by have := hok.preds; have := hok.names; omega)
    rw [if_pos h0]
    rw [h0] at hc ⊢
    have hlen := hok.rules
    repeat' (first | (apply ds_evC; exact rfl; (with_reducible exact trivial); (with_reducible exact rfl); exact rfl; exact rfl; exact rfl) | apply ds_nil | (apply dt_ev; exact rfl; exact rfl; (with_reducible exact trivial); (with_reducible exact rfl); exact rfl; exact rfl; exact rfl; exact rfl) | (apply dt_set; exact rfl; exact rfl; (with_reducible exact trivial); exact rfl; exact rfl; exact rfl; exact rfl) | (apply dt_new; exact rfl; exact rfl; exact rfl; (with_reducible exact trivial); exact rfl; exact rfl; exact rfl; exact rfl; exact rfl) | (apply dt_nil; exact rfl) | apply dw_seq2 | (apply ds_region; exact rfl) | (apply dw_any; kernel_rfl; kernel_rfl; exact rfl; exact rfl) | apply dw_block | apply dw_skip | (apply dw_condF; exact rfl) | apply thenD_n | (apply ds_call; exact rfl; exact rfl; apply hc; exact rfl; (exact rfl); exact rfl; rintro _ rfl) | (apply ds_call; exact rfl; exact rfl; apply hr; exact rfl; (exact rfl); exact rfl; rintro _ rfl) | (apply dt_call; exact rfl; exact rfl; apply hca; exact rfl; (exact rfl); exact rfl; exact rfl; exact ⟨_, rfl⟩; rintro _ rfl) | (apply dt_call; exact rfl; exact rfl; apply hcn; exact rfl; (exact rfl); exact rfl; exact rfl; exact ⟨_, rfl⟩; rintro _ rfl) | (apply ds_newC; exact rfl; (with_reducible exact trivial); exact rfl; exact rfl; exact rfl))
    refine dw_ent (ent_cellrow 9 2 143 5 rfl rfl rfl) ?_
    have hnl := needsL_len p pred
    generalize needsL p pred = need at hr hnl ⊢
    have ln : (need.map encBl).length = need.length := List.length_map _
    refine ds_loop (ι := Nat × List Rul) (fun x => ⟨4, [(2, .loc 0 0), (4, .loc 1 0), (7, .d (.slice 1 (need.map encBl))), (8, .loc 2 0), (29, .d (.slice 5 (p.rules.map encRul))), (30, .d (.int .i64 (p.rules.map encRul).length)), (31, .d (.int .i64 x.1))],
        [(0, prgBk p), (1, .blk 52 [.nils, .nils, .nils]), (2, .blk 52 [.d (.slice 1 (p.arity.map encI)), .d (.slice 1 (p.names.map encT)), .row 3]), (3, .row 143 5 (x.2.map encRul))]⟩)
      (fun x => x.1 ≤ p.rules.length ∧ x.2 = focusL need (p.rules.take x.1)) (fun x => p.rules.length - x.1) (0, []) ⟨Nat.zero_le _, rfl⟩ (ent_ren (fun j => match j with | 2 => 9 | 3 => 11 | j => j) ⟨rfl, rfl, rfl, rfl, rfl, rfl, rfl, trivial⟩ ⟨rfl, rfl, rfl, rfl, trivial⟩ rfl rfl rfl rfl rfl rfl) ?_
    clear hc hr hca hcn
    rintro ⟨i, o⟩ ⟨f1, f2⟩
    dsimp only at f1 f2 ⊢
    have lo : (o.map encRul).length = o.length := List.length_map _
    have hol : o.length ≤ i := by rw [f2]; unfold focusL; have := List.length_filter_le (fun r : Rul => need.getD r.pred.toNat false) (p.rules.take i); rw [List.length_take] at this; omega
    by_cases hi : i < p.rules.length
    · have hm := List.getElem_mem hi
      have hrk := hok.each _ hm
      have hp1 := hrk.pred
      have hbl := hrk.body
      have hts := rule_terms g1 _ hm
      have hw := sown_fn p.rules[i] (by omega) (by omega) (fun x hx => Nat.le_trans (hts.2 x hx) (by decide))
      have hgd : need.getD p.rules[i].pred.toNat false = need[p.rules[i].pred.toNat]'(by omega) := by rw [List.getD, List.getElem?_eq_getElem (by omega)]; rfl
      have hstep : focusL need (p.rules.take (i + 1)) = o ++ (if need[p.rules[i].pred.toNat]'(by omega) then [p.rules[i]] else []) := by
        rw [List.take_succ_eq_append_getElem hi, f2]
        unfold focusL
        rw [List.filter_append]
        congr 1
        simp only [List.filter_cons, List.filter_nil, hgd]
      cases hb : need[p.rules[i].pred.toNat]'(by omega) with
      | true =>
        rw [hb, if_pos rfl] at hstep
        repeat' (first | (apply ds_evC; exact rfl; (first | (with_reducible exact trivial) | omega); (first | ((with_reducible apply hv_row); (first | exact rfl | exact (Int.toNat_of_nonneg (by omega)).symm); (omega)) | (with_reducible exact rfl)); exact rfl; exact rfl; exact rfl) | apply ds_nil | (apply dt_ev; exact rfl; exact rfl; (with_reducible exact trivial); (with_reducible exact rfl); exact rfl; exact rfl; exact rfl; exact rfl) | (apply dt_set; exact rfl; exact rfl; (with_reducible exact trivial); exact rfl; exact rfl; exact rfl; exact rfl) | (apply dt_trade; exact rfl; exact rfl; exact rfl; (unfold maxLen; simp <;> omega); exact rfl; exact rfl; exact rfl; exact rfl; exact rfl; exact rfl) | (apply dt_nil; exact rfl) | apply dw_seq2 | (apply ds_region; exact rfl) | (apply dw_any; kernel_rfl; kernel_rfl; exact rfl; exact rfl) | apply dw_block | apply dw_skip | apply dw_exit | apply dw_ret | apply thenD_n | apply thenD_e | apply inB_n | (apply inB_e; exact rfl) | (apply dt_call; exact rfl; exact rfl; apply hw; exact rfl; (exact rfl); exact rfl; exact rfl; exact ⟨_, rfl⟩; rintro _ rfl) | (apply ds_newC; exact rfl; (with_reducible exact trivial); exact rfl; exact rfl; exact rfl) | (apply ds_setC; exact rfl; exact rfl; exact rfl; exact rfl) | (apply dw_condP; exact rfl; all_goals intro hg) | (apply dw_cond; exact rfl; all_goals intro hg))
        all_goals try (exfalso; omega)
        all_goals first
          | (exfalso; rw [hb] at hg; cases hg; done)
          | exact ⟨(i + 1, o ++ [p.rules[i]]), ⟨by dsimp only; omega, hstep.symm⟩, ent_ren (fun j => match j with | 3 => 10 | j => j) ⟨rfl, rfl, rfl, rfl, rfl, rfl, rfl, trivial⟩ ⟨rfl, rfl, rfl, by rw [List.map_append]; rfl, trivial⟩ rfl rfl rfl rfl rfl rfl, by show p.rules.length - (i + 1) < p.rules.length - i; omega⟩
      | false =>
        rw [hb, if_neg (by simp), List.append_nil] at hstep
        repeat' (first | (apply ds_evC; exact rfl; (first | (with_reducible exact trivial) | omega); (first | ((with_reducible apply hv_row); (first | exact rfl | exact (Int.toNat_of_nonneg (by omega)).symm); (omega)) | (with_reducible exact rfl)); exact rfl; exact rfl; exact rfl) | apply ds_nil | (apply dt_ev; exact rfl; exact rfl; (with_reducible exact trivial); (with_reducible exact rfl); exact rfl; exact rfl; exact rfl; exact rfl) | (apply dt_set; exact rfl; exact rfl; (with_reducible exact trivial); exact rfl; exact rfl; exact rfl; exact rfl) | (apply dt_trade; exact rfl; exact rfl; exact rfl; (unfold maxLen; simp <;> omega); exact rfl; exact rfl; exact rfl; exact rfl; exact rfl; exact rfl) | (apply dt_nil; exact rfl) | apply dw_seq2 | (apply ds_region; exact rfl) | (apply dw_any; kernel_rfl; kernel_rfl; exact rfl; exact rfl) | apply dw_block | apply dw_skip | apply dw_exit | apply dw_ret | apply thenD_n | apply thenD_e | apply inB_n | (apply inB_e; exact rfl) | (apply dt_call; exact rfl; exact rfl; apply hw; exact rfl; (exact rfl); exact rfl; exact rfl; exact ⟨_, rfl⟩; rintro _ rfl) | (apply ds_newC; exact rfl; (with_reducible exact trivial); exact rfl; exact rfl; exact rfl) | (apply ds_setC; exact rfl; exact rfl; exact rfl; exact rfl) | (apply dw_condP; exact rfl; all_goals intro hg) | (apply dw_cond; exact rfl; all_goals intro hg))
        all_goals try (exfalso; omega)
        all_goals first
          | (exfalso; rw [hb] at hg; cases hg; done)
          | exact ⟨(i + 1, o), ⟨by dsimp only; omega, hstep.symm⟩, ent_ren id ⟨rfl, rfl, rfl, rfl, rfl, rfl, rfl, trivial⟩ ⟨rfl, rfl, rfl, rfl, trivial⟩ rfl rfl rfl rfl rfl rfl, by show p.rules.length - (i + 1) < p.rules.length - i; omega⟩
    · rw [List.take_of_length_le (by omega)] at f2
      repeat' (first | (apply ds_evC; exact rfl; (first | (with_reducible exact trivial) | omega); (first | ((with_reducible apply hv_row); (first | exact rfl | exact (Int.toNat_of_nonneg (by omega)).symm); (omega)) | (with_reducible exact rfl)); exact rfl; exact rfl; exact rfl) | apply ds_nil | (apply dt_ev; exact rfl; exact rfl; (with_reducible exact trivial); (with_reducible exact rfl); exact rfl; exact rfl; exact rfl; exact rfl) | apply dw_seq2 | (apply ds_region; exact rfl) | (apply dw_any; kernel_rfl; kernel_rfl; exact rfl; exact rfl) | apply dw_block | apply dw_skip | apply dw_exit | apply thenD_n | apply thenD_e | apply inB_n | (apply inB_e; exact rfl) | (apply ds_newC; exact rfl; (with_reducible exact trivial); exact rfl; exact rfl; exact rfl) | (apply ds_setC; exact rfl; exact rfl; exact rfl; exact rfl) | (apply dw_condP; exact rfl; all_goals intro hg) | (apply dw_cond; exact rfl; all_goals intro hg))
      all_goals try (exfalso; omega)
      refine dw_ent (ent_cellseal 1 2 3 rfl rfl rfl rfl rfl) ?_
      repeat' (apply dw_ret)
      exact ⟨.inl rfl, _, rfl, rfl, by rw [f2]; rfl⟩
  · rw [if_neg h0]
    generalize readyE p pred = q at hc h0 ⊢
    repeat' (first | (apply ds_evC; exact rfl; (with_reducible exact trivial); (with_reducible exact rfl); exact rfl; exact rfl; exact rfl) | apply ds_nil | apply dw_seq2 | (apply ds_region; exact rfl) | apply dw_skip | apply thenD_n | (apply ds_call; exact rfl; exact rfl; apply hc; exact rfl; (exact rfl); exact rfl; rintro _ rfl) | (apply ds_newC; exact rfl; (with_reducible exact trivial); exact rfl; exact rfl; exact rfl) | (apply ds_setC; exact rfl; exact rfl; exact rfl; exact rfl) | (apply dw_condP; exact rfl; all_goals intro hg))
    · refine dw_ent (ent_trans (ent_cellnil 1 0 1 rfl rfl rfl) (ent_trans (ent_cellnil 1 1 1 rfl rfl rfl) (ent_cellnil 1 2 5 rfl rfl rfl))) ?_
      repeat' (first | apply dw_ret | apply thenD_r)
      exact ⟨.inl rfl, _, rfl, rfl, rfl⟩
    · exact absurd h0 hg
end Go.Proofs.Ytapciiffpnociaa

/- Plain words on how the document's rounds go. Condition: none. -/
namespace Go.Proofs.Ytapciiffpnociaa
theorem lvIter_succ (l : List Rul) : ∀ (n : Nat) (lv : List Int), lvIter l (n + 1) lv = lvRound l (lvIter l n lv)
  | 0, _ => rfl
  | n + 1, lv => by
    rw [lvIter, lvIter_succ l n (lvRound l lv)]
    rfl
/-- How far a round has come: what has risen, and how far all can be. -/
def RdL (lv0 lv : List Int) (rose : Bool) (B : Int) : Prop := leL lv0 lv ∧ (rose = false → lv = lv0) ∧ (rose = true → lv ≠ lv0) ∧ ∀ v ∈ lv, 0 ≤ v ∧ v ≤ B
theorem RdL.refl {lv : List Int} {B : Int} (h : ∀ v ∈ lv, 0 ≤ v ∧ v ≤ B) : RdL lv lv false B := ⟨leL.refl _, fun _ => rfl, (fun h => nomatch h), h⟩
theorem RdL.more {lv0 lv : List Int} {rose : Bool} {B C : Int} (h : RdL lv0 lv rose B) (hc : B ≤ C) : RdL lv0 lv rose C := ⟨h.1, h.2.1, h.2.2.1, fun v hv => ⟨(h.2.2.2 v hv).1, Int.le_trans (h.2.2.2 v hv).2 hc⟩⟩
theorem liftN_le (f : Int) (x : Ltl) : 0 ≤ liftN f x ∧ liftN f x ≤ 1 := by unfold liftN; split <;> omega
/-- A lift. -/
theorem RdL.set {lv0 lv : List Int} {rose : Bool} {B v : Int} {i : Nat} (h : RdL lv0 lv rose B) (hi : i < lv.length) (hv : lv[i] < v) (hb : v ≤ B + 1) : RdL lv0 (lv.set i v) true (B + 1) := by
  obtain ⟨h1, h2, h3, h4⟩ := h
  have hg : lv.getD i 0 = lv[i] := by rw [List.getD, List.getElem?_eq_getElem hi]; rfl
  refine ⟨⟨by rw [List.length_set]; exact h1.1, fun j => ?_⟩, (fun h => nomatch h), fun _ he => ?_, fun u hu => ?_⟩
  · have h5 := h1.2 j
    rw [set_getD _ _ _ hi]
    split
    · rename_i hij; subst hij; omega
    · exact h5
  · have h5 := h1.2 i
    rw [← he, set_getD _ _ _ hi, if_pos rfl] at h5
    omega
  · rcases List.mem_or_eq_of_mem_set hu with h | h
    · have := h4 u h; omega
    · have := h4 _ (List.getElem_mem hi); omega

theorem lvLit_if {f pr : Int} {lv : List Int} {x : Ltl} (hk : ¬ 2 < x.kind) (h1 : x.pred.toNat < lv.length) (h2 : pr.toNat < lv.length) : lvLit f pr lv x = if lv[pr.toNat] < lv[x.pred.toNat] + liftN f x then lv.set pr.toNat (lv[x.pred.toNat] + liftN f x) else lv := by
  simp only [lvLit, List.getD, List.getElem?_eq_getElem h1, List.getElem?_eq_getElem h2, Option.getD_some, if_neg hk]

/-! What a predicate needs, by the document. -/
def dLit (out : List Bool) (x : Ltl) : List Bool := if x.kind ≤ 2 then out.set x.pred.toNat true else out
def dRule (out : List Bool) (r : Rul) : List Bool := if out.getD r.pred.toNat false then r.body.foldl dLit out else out
def dRound (l : List Rul) (out : List Bool) : List Bool := l.foldl dRule out
def dIter (l : List Rul) : Nat → List Bool → List Bool
  | 0, out => out
  | n + 1, out => dRound l (dIter l n out)
def docNeeds (p : Prg) (pred : Int) : List Bool := dIter p.rules p.arity.length ((List.replicate p.arity.length false).set pred.toNat true)
theorem dLit_len (out : List Bool) (x : Ltl) : (dLit out x).length = out.length := by unfold dLit; split <;> simp
theorem dLits_len : ∀ (b : List Ltl) (out : List Bool), (b.foldl dLit out).length = out.length
  | [], _ => rfl
  | x :: b, out => (dLits_len b (dLit out x)).trans (dLit_len out x)
theorem dRule_len (out : List Bool) (r : Rul) : (dRule out r).length = out.length := by
  unfold dRule
  split
  · exact dLits_len _ _
  · rfl
theorem dRound_len : ∀ (l : List Rul) (out : List Bool), (dRound l out).length = out.length
  | [], _ => rfl
  | r :: l, out => (dRound_len l (dRule out r)).trans (dRule_len out r)
theorem dIter_len (l : List Rul) : ∀ (n : Nat) (out : List Bool), (dIter l n out).length = out.length
  | 0, _ => rfl
  | n + 1, out => (dRound_len l _).trans (dIter_len l n out)
theorem docNeeds_len (p : Prg) (pred : Int) : (docNeeds p pred).length = p.arity.length := by unfold docNeeds; rw [dIter_len]; simp
theorem dLits_keep {i : Nat} : ∀ (b : List Ltl) (out : List Bool), out.getD i false = true → (b.foldl dLit out).getD i false = true
  | [], _, h => h
  | x :: b, out, h => by
    refine dLits_keep b (dLit out x) ?_
    unfold dLit
    split
    · simp only [List.getD, List.getElem?_set] at h ⊢
      split
      · rename_i hi
        subst hi
        by_cases hl : x.pred.toNat < out.length
        · rw [if_pos hl]; rfl
        · rw [List.getElem?_eq_none (by omega)] at h; cases h
      · exact h
    · exact h
end Go.Proofs.Ytapciiffpnociaa
