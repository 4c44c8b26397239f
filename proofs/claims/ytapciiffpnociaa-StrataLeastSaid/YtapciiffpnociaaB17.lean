/- Several texts in one: StrJ StrK StrT StrU GxRow. Condition: none. -/
import Derived.Test.YtapciiffpnociaaB16
import Derived.Test.YtapciiffpnociaaB07
import Derived.ProofKit
import Derived.SizedLaws

/- Levels that fit: the law's own check; a small program. Condition: none. -/
namespace Go.Proofs.Ytapciiffpnociaa
open Go Go.RowKit
attribute [local irreducible] DW DS DL DQ Ev FnOk FnP thenD inBlockD DWr
def fitLit (lv : List Int) (pr fold : Int) (x : Ltl) : Bool := !hangsB x || !(decide (lv.getD pr.toNat 0 < lv.getD x.pred.toNat 0) || (decide (lv.getD pr.toNat 0 = lv.getD x.pred.toNat 0) && strictB fold x))
def fitRul (lv : List Int) (r : Rul) : Bool := r.body.all (fitLit lv r.pred r.fold)
def fitsB (p : Prg) (lv : List Int) : Bool := decide (lv.length = p.arity.length) && lv.all (fun v => decide (0 ≤ v)) && p.rules.all (fitRul lv)
theorem fitLit_iff {lv : List Int} {pr fold : Int} {x : Ltl} (hh : hangsB x = true) : fitLit lv pr fold x = true ↔ lv.getD x.pred.toNat 0 + liftS fold x ≤ lv.getD pr.toNat 0 := by
  unfold fitLit liftS
  rw [hh]
  cases strictB fold x <;> simp <;> omega
theorem fits_iff {p : Prg} {lv : List Int} : fitsB p lv = true ↔ FitE p.arity.length (edgP p) lv := by
  unfold fitsB
  rw [Bool.and_eq_true, Bool.and_eq_true, decide_eq_true_iff, List.all_eq_true, List.all_eq_true]
  constructor
  · rintro ⟨⟨h1, h2⟩, h3⟩
    refine ⟨h1, fun i => ?_, fun e he => ?_⟩
    · by_cases hi : i < lv.length
      · rw [List.getD, List.getElem?_eq_getElem hi]
        exact of_decide_eq_true (h2 _ (List.getElem_mem hi))
      · rw [List.getD, List.getElem?_eq_none (by omega)]; exact Int.le_refl _
    · obtain ⟨r, hr, he⟩ := List.mem_flatMap.1 he
      obtain ⟨x, hx, rfl⟩ := List.mem_map.1 he
      obtain ⟨hx, hh⟩ := List.mem_filter.1 hx
      have h4 := h3 r hr
      unfold fitRul at h4
      rw [List.all_eq_true] at h4
      exact (fitLit_iff hh).1 (h4 x hx)
  · rintro ⟨h1, h2, h3⟩
    refine ⟨⟨h1, fun v hv => ?_⟩, fun r hr => ?_⟩
    · obtain ⟨i, hi, rfl⟩ := List.mem_iff_getElem.1 hv
      have := h2 i
      rw [List.getD, List.getElem?_eq_getElem hi] at this
      exact decide_eq_true this
    · unfold fitRul
      rw [List.all_eq_true]
      intro x hx
      cases hh : hangsB x with
      | false => unfold fitLit; rw [hh]; rfl
      | true => exact (fitLit_iff hh).2 (h3 ⟨r.pred.toNat, x.pred.toNat, liftS r.fold x⟩ (List.mem_flatMap.2 ⟨r, hr, List.mem_map.2 ⟨x, List.mem_filter.2 ⟨hx, hh⟩, rfl⟩⟩))
theorem doc_rest {p : Prg} (h : PrgOk p) (ho : docOk p = true) : docLv p = L0 (edgP p) p.arity.length p.arity.length ∧ FitE p.arity.length (edgP p) (docLv p) := by
  rw [docOk_eq p h] at ho
  have hr := of_decide_eq_true ho
  rw [docLv_eq p h, hr]
  exact ⟨rfl, fit_of_rest (edgP_ok h) hr⟩
theorem doc_fits {p : Prg} (h : PrgOk p) (ho : docOk p = true) : fitsB p (docLv p) = true := fits_iff.2 (doc_rest h ho).2
theorem doc_below {p : Prg} (h : PrgOk p) (ho : docOk p = true) {lv : List Int} (hf : fitsB p lv = true) (i : Nat) : (docLv p).getD i 0 ≤ lv.getD i 0 := by
  rw [(doc_rest h ho).1]
  exact L0_below (edgP_ok h) (fits_iff.1 hf) _ _
theorem doc_none {p : Prg} (h : PrgOk p) (ho : docOk p = false) (lv : List Int) : fitsB p lv = false := by
  refine Bool.eq_false_iff.2 fun hf => ?_
  have h1 := rest_of_fit (least_fit (edgP_ok h) (fits_iff.1 hf))
  rw [docOk_eq p h] at ho
  exact of_decide_eq_false ho h1

set_option maxHeartbeats 8000000 in
theorem fits_fn (p : Prg) (lv : List Int) (hok : PrgOk p) : Fn 39 [elPrg p, .d (.slice 1 (lv.map encI))] (fun res => res = .d (.bool (fitsB p lv))) := by
  refine fnp_enter' _ Try.func39 rfl rfl (by kernel_rfl) ?_
  intro O w0 E0 β0
  have la : (p.arity.map encI).length = p.arity.length := List.length_map _
  have lr : (p.rules.map encRul).length = p.rules.length := List.length_map _
  have ll : (lv.map encI).length = lv.length := List.length_map _
  have h10 := hok.preds
  have h12 := hok.rules
  by_cases hlen : lv.length = p.arity.length
  · unfold fitsB
    rw [decide_eq_true hlen, Bool.true_and]
    repeat' (first | (apply ds_evC; exact rfl; (with_reducible exact trivial); (with_reducible exact rfl); exact rfl; exact rfl; exact rfl) | apply ds_nil | apply dw_seq2 | (apply ds_region; exact rfl) | apply dw_block | apply dw_skip | apply dw_ret | apply thenD_n | apply thenD_r | (apply ds_newC; exact rfl; (with_reducible exact trivial); exact rfl; exact rfl; exact rfl) | (apply dw_condP; exact rfl; all_goals intro hg))
    all_goals try (exfalso; omega)
    refine ds_loop (ι := Nat) (fun i => ⟨1, [(1, .d (.slice 1 (lv.map encI))), (2, .loc 0 0), (5, .d (.int .i64 i))], [(0, prgBk p)]⟩)
      (fun i => i ≤ lv.length ∧ lv.all (fun v => decide (0 ≤ v)) = (lv.drop i).all (fun v => decide (0 ≤ v))) (fun i => lv.length - i) 0 ⟨Nat.zero_le _, rfl⟩ (ent_ren id ⟨rfl, rfl, rfl, trivial⟩ ⟨rfl, trivial⟩ rfl rfl rfl rfl rfl rfl) ?_
    rintro i ⟨g1, g2⟩
    by_cases hi : i < lv.length
    · rw [List.drop_eq_getElem_cons hi, List.all_cons] at g2
      cases hv : decide (0 ≤ lv[i]) with
      | false =>
        rw [hv, Bool.false_and] at g2
        have hv := of_decide_eq_false hv
        repeat' (first | (apply ds_evC; exact rfl; (first | (with_reducible exact trivial) | omega); (first | ((with_reducible apply hv_row); (exact rfl); (omega)) | (with_reducible exact rfl)); exact rfl; exact rfl; exact rfl) | apply ds_nil | apply dw_seq2 | (apply ds_region; exact rfl) | apply dw_block | apply dw_skip | apply dw_exit | apply dw_ret | apply thenD_n | apply thenD_e | apply thenD_r | apply inB_n | apply inB_r | (apply inB_e; exact rfl) | (apply dw_condP; exact rfl; all_goals intro hg))
        all_goals try (exfalso; omega)
        exact ⟨.inl rfl, _, rfl, rfl, by rw [g2]; rfl⟩
      | true =>
        rw [hv, Bool.true_and] at g2
        have hv := of_decide_eq_true hv
        repeat' (first | (apply ds_evC; exact rfl; (first | (with_reducible exact trivial) | omega); (first | ((with_reducible apply hv_row); (exact rfl); (omega)) | (with_reducible exact rfl)); exact rfl; exact rfl; exact rfl) | apply ds_nil | apply dw_seq2 | (apply ds_region; exact rfl) | apply dw_block | apply dw_skip | apply dw_exit | apply dw_ret | apply thenD_n | apply thenD_e | apply thenD_r | apply inB_n | apply inB_r | (apply inB_e; exact rfl) | (apply dw_condP; exact rfl; all_goals intro hg))
        all_goals try (exfalso; omega)
        exact ⟨i + 1, ⟨by omega, g2⟩, ent_ren id ⟨rfl, rfl, rfl, trivial⟩ ⟨rfl, trivial⟩ rfl rfl rfl rfl rfl rfl, by show lv.length - (i + 1) < lv.length - i; omega⟩
    · rw [List.drop_of_length_le (by omega), List.all_nil] at g2
      rw [g2, Bool.true_and]
      clear g2
      repeat' (first | (apply ds_evC; exact rfl; (first | (with_reducible exact trivial) | omega); (first | ((with_reducible apply hv_row); (exact rfl); (omega)) | (with_reducible exact rfl)); exact rfl; exact rfl; exact rfl) | apply ds_nil | apply dw_seq2 | (apply ds_region; exact rfl) | apply dw_block | apply dw_skip | apply dw_exit | apply dw_ret | apply thenD_n | apply thenD_e | apply thenD_r | apply inB_n | apply inB_r | (apply inB_e; exact rfl) | (apply dw_condP; exact rfl; all_goals intro hg))
      all_goals try (exfalso; omega)
      refine ds_loop (ι := Nat) (fun i => ⟨1, [(1, .d (.slice 1 (lv.map encI))), (2, .loc 0 0), (6, .d (.int .i64 i))], [(0, prgBk p)]⟩)
        (fun i => i ≤ p.rules.length ∧ p.rules.all (fitRul lv) = (p.rules.drop i).all (fitRul lv)) (fun i => p.rules.length - i) 0 ⟨Nat.zero_le _, rfl⟩ (ent_ren id ⟨rfl, rfl, rfl, trivial⟩ ⟨rfl, trivial⟩ rfl rfl rfl rfl rfl rfl) ?_
      rintro j ⟨f1, f2⟩
      by_cases hj : j < p.rules.length
      · rw [List.drop_eq_getElem_cons hj, List.all_cons] at f2
        have hm := List.getElem_mem hj
        have hrk := hok.each _ hm
        repeat' (first | (apply ds_evC; exact rfl; (first | (with_reducible exact trivial) | omega); (first | ((with_reducible apply hv_row); (exact rfl); (omega)) | (with_reducible exact rfl)); exact rfl; exact rfl; exact rfl) | apply ds_nil | apply dw_seq2 | (apply ds_region; exact rfl) | apply dw_block | apply dw_skip | apply dw_exit | apply dw_ret | apply thenD_n | apply thenD_e | (apply inB_e; exact rfl) | (apply ds_newC; exact rfl; (with_reducible exact trivial); exact rfl; exact rfl; exact rfl) | (apply ds_setC; exact rfl; exact rfl; exact rfl; exact rfl) | (apply dw_condP; exact rfl; all_goals intro hg))
        all_goals try (exfalso; omega)
        generalize p.rules[j] = r at hrk f2 ⊢
        have hp1 := hrk.pred
        have hlt := hrk.lits
        have hb4 := hrk.body
        have lb : (r.body.map encLtl).length = r.body.length := List.length_map _
        refine ds_loop (ι := Nat) (fun k => ⟨2, [(1, .d (.slice 1 (lv.map encI))), (2, .loc 0 0), (6, .d (.int .i64 j)), (7, .loc 1 0), (8, .d (.int .i64 k))], [(0, prgBk p), (1, ruleB r)]⟩)
          (fun k => k ≤ r.body.length ∧ fitRul lv r = (r.body.drop k).all (fitLit lv r.pred r.fold)) (fun k => r.body.length - k) 0 ⟨Nat.zero_le _, rfl⟩ (ent_ren id ⟨rfl, rfl, rfl, rfl, rfl, trivial⟩ ⟨rfl, rfl, trivial⟩ rfl rfl rfl rfl rfl rfl) ?_
        rintro k ⟨e1, e2⟩
        by_cases hk : k < r.body.length
        · rw [List.drop_eq_getElem_cons hk, List.all_cons] at e2
          have hxm := List.getElem_mem hk
          obtain ⟨⟨k1, k2⟩, kp⟩ := hlt _ hxm
          have hfl : fitLit lv r.pred r.fold r.body[k] = (!hangsB r.body[k] || !(decide (lv.getD r.pred.toNat 0 < lv.getD r.body[k].pred.toNat 0) || (decide (lv.getD r.pred.toNat 0 = lv.getD r.body[k].pred.toNat 0) && strictB r.fold r.body[k]))) := rfl
          cases hh : hangsB r.body[k] with
          | false =>
            rw [hh] at hfl
            rw [show fitLit lv r.pred r.fold r.body[k] = true from hfl, Bool.true_and] at e2
            have hk3 := (hangs_kind k1).2 hh
            repeat' (first | (apply ds_evC; exact rfl; (first | (with_reducible exact trivial) | omega); (first | ((with_reducible apply hv_row); (exact rfl); (omega)) | (with_reducible exact rfl)); exact rfl; exact rfl; exact rfl) | (apply ds_skip; exact rfl; exact rfl) | apply ds_nil | (apply dt_ev; exact rfl; exact rfl; (first | (with_reducible exact trivial) | omega); (first | ((with_reducible apply hv_row); (exact (Int.toNat_of_nonneg (by omega)).symm); (omega)) | (with_reducible exact rfl)); exact rfl; exact rfl; exact rfl; exact rfl) | (apply dt_skipD; exact rfl; exact rfl; exact rfl) | (apply dt_nil0; exact rfl; exact rfl; exact rfl; exact rfl) | apply dw_seq2 | (apply ds_region; exact rfl) | (apply dw_any; kernel_rfl; kernel_rfl; exact rfl; exact rfl) | apply dw_block | apply dw_skip | apply dw_exit | apply dw_ret | (apply dw_condT; exact rfl) | (apply dw_condF; exact rfl) | apply thenD_n | apply thenD_e | apply thenD_r | apply inB_n | apply inB_r | (apply inB_e; exact rfl) | (apply ds_newC; exact rfl; (with_reducible exact trivial); exact rfl; exact rfl; exact rfl) | (apply ds_setC; exact rfl; exact rfl; exact rfl; exact rfl) | (apply dw_condP; exact rfl; all_goals intro hg) | ((fail_if_success (apply ds_known; exact rfl)); apply ds_guardP; exact rfl; exact rfl; exact rfl; all_goals intro hg) | ((fail_if_success (apply dt_known; exact rfl)); apply dt_guardP; exact rfl; exact rfl; exact rfl; all_goals intro hg))
            all_goals try (exfalso; omega)
            exact ⟨k + 1, ⟨by omega, e2⟩, ent_ren id ⟨rfl, rfl, rfl, rfl, rfl, trivial⟩ ⟨rfl, rfl, trivial⟩ rfl rfl rfl rfl rfl rfl, by show r.body.length - (k + 1) < r.body.length - k; omega⟩
          | true =>
            obtain ⟨q1, q2⟩ := kp hh
            have hret : fitLit lv r.pred r.fold r.body[k] = false → p.rules.all (fitRul lv) = false := fun h => by rw [f2, e2, h]; rfl
            have hnext : fitLit lv r.pred r.fold r.body[k] = true → fitRul lv r = (r.body.drop (k + 1)).all (fitLit lv r.pred r.fold) := fun h => by rw [e2, h, Bool.true_and]
            have hk3 : r.body[k].kind ≤ 2 := Classical.byContradiction fun hn => by have := (hangs_kind k1).1 (by omega); rw [hh] at this; cases this
            clear e2 f2
            have e1 : lv.getD r.pred.toNat 0 = lv[r.pred.toNat]'(by omega) := by rw [List.getD, List.getElem?_eq_getElem (by omega)]; rfl
            have e2 : lv.getD r.body[k].pred.toNat 0 = lv[r.body[k].pred.toNat]'(by omega) := by rw [List.getD, List.getElem?_eq_getElem (by omega)]; rfl
            rw [hh, e1, e2] at hfl
            repeat' (first | (apply ds_evC; exact rfl; (first | (with_reducible exact trivial) | omega); (first | ((with_reducible apply hv_row); (exact rfl); (omega)) | (with_reducible exact rfl)); exact rfl; exact rfl; exact rfl) | (apply ds_skip; exact rfl; exact rfl) | apply ds_nil | (apply dt_ev; exact rfl; exact rfl; (first | (with_reducible exact trivial) | omega); (first | ((with_reducible apply hv_row); (exact (Int.toNat_of_nonneg (by omega)).symm); (omega)) | (with_reducible exact rfl)); exact rfl; exact rfl; exact rfl; exact rfl) | (apply dt_skipD; exact rfl; exact rfl; exact rfl) | (apply dt_nil0; exact rfl; exact rfl; exact rfl; exact rfl) | apply dw_seq2 | (apply ds_region; exact rfl) | (apply dw_any; kernel_rfl; kernel_rfl; exact rfl; exact rfl) | apply dw_block | apply dw_skip | apply dw_exit | apply dw_ret | (apply dw_condT; exact rfl) | (apply dw_condF; exact rfl) | apply thenD_n | apply thenD_e | apply thenD_r | apply inB_n | apply inB_r | (apply inB_e; exact rfl) | (apply ds_newC; exact rfl; (with_reducible exact trivial); exact rfl; exact rfl; exact rfl) | (apply ds_setC; exact rfl; exact rfl; exact rfl; exact rfl) | (apply dw_condP; exact rfl; all_goals intro hg) | ((fail_if_success (apply ds_known; exact rfl)); apply ds_guardP; exact rfl; exact rfl; exact rfl; all_goals intro hg) | ((fail_if_success (apply dt_known; exact rfl)); apply dt_guardP; exact rfl; exact rfl; exact rfl; all_goals intro hg))
            all_goals try (exfalso; omega)
            all_goals first
              | exact ⟨.inl rfl, _, rfl, rfl, by rw [hret (by rw [hfl]; simp [strictB]; omega)]; rfl⟩
              | exact ⟨k + 1, ⟨by omega, hnext (by rw [hfl]; simp [strictB]; omega)⟩, ent_ren id ⟨rfl, rfl, rfl, rfl, rfl, trivial⟩ ⟨rfl, rfl, trivial⟩ rfl rfl rfl rfl rfl rfl, by show r.body.length - (k + 1) < r.body.length - k; omega⟩
        · rw [List.drop_of_length_le (by omega), List.all_nil] at e2
          rw [e2, Bool.true_and] at f2
          repeat' (first | (apply ds_evC; exact rfl; (first | (with_reducible exact trivial) | omega); (first | ((with_reducible apply hv_row); (exact rfl); (omega)) | (with_reducible exact rfl)); exact rfl; exact rfl; exact rfl) | (apply ds_skip; exact rfl; exact rfl) | apply ds_nil | (apply dt_ev; exact rfl; exact rfl; (first | (with_reducible exact trivial) | omega); (first | ((with_reducible apply hv_row); (exact (Int.toNat_of_nonneg (by omega)).symm); (omega)) | (with_reducible exact rfl)); exact rfl; exact rfl; exact rfl; exact rfl) | (apply dt_skipD; exact rfl; exact rfl; exact rfl) | (apply dt_nil0; exact rfl; exact rfl; exact rfl; exact rfl) | apply dw_seq2 | (apply ds_region; exact rfl) | (apply dw_any; kernel_rfl; kernel_rfl; exact rfl; exact rfl) | apply dw_block | apply dw_skip | apply dw_exit | apply dw_ret | (apply dw_condT; exact rfl) | (apply dw_condF; exact rfl) | apply thenD_n | apply thenD_e | apply thenD_r | apply inB_n | apply inB_r | (apply inB_e; exact rfl) | (apply ds_newC; exact rfl; (with_reducible exact trivial); exact rfl; exact rfl; exact rfl) | (apply ds_setC; exact rfl; exact rfl; exact rfl; exact rfl) | (apply dw_condP; exact rfl; all_goals intro hg) | ((fail_if_success (apply ds_known; exact rfl)); apply ds_guardP; exact rfl; exact rfl; exact rfl; all_goals intro hg) | ((fail_if_success (apply dt_known; exact rfl)); apply dt_guardP; exact rfl; exact rfl; exact rfl; all_goals intro hg))
          all_goals try (exfalso; omega)
          exact ⟨j + 1, ⟨by omega, f2⟩, ent_ren id ⟨rfl, rfl, rfl, trivial⟩ ⟨rfl, trivial⟩ rfl rfl rfl rfl rfl rfl, by show p.rules.length - (j + 1) < p.rules.length - j; omega⟩
      · rw [List.drop_of_length_le (by omega), List.all_nil] at f2
        repeat' (first | (apply ds_evC; exact rfl; (first | (with_reducible exact trivial) | omega); (first | ((with_reducible apply hv_row); (exact rfl); (omega)) | (with_reducible exact rfl)); exact rfl; exact rfl; exact rfl) | apply ds_nil | apply dw_seq2 | (apply ds_region; exact rfl) | apply dw_block | apply dw_skip | apply dw_exit | apply dw_ret | apply thenD_n | apply thenD_e | (apply inB_e; exact rfl) | (apply ds_newC; exact rfl; (with_reducible exact trivial); exact rfl; exact rfl; exact rfl) | (apply ds_setC; exact rfl; exact rfl; exact rfl; exact rfl) | (apply dw_condP; exact rfl; all_goals intro hg))
        all_goals try (exfalso; omega)
        exact ⟨.inl rfl, _, rfl, rfl, by rw [f2]; rfl⟩
  · have hf : fitsB p lv = false := by unfold fitsB; rw [decide_eq_false hlen]; rfl
    rw [hf]
    repeat' (first | (apply ds_evC; exact rfl; (with_reducible exact trivial); (with_reducible exact rfl); exact rfl; exact rfl; exact rfl) | apply ds_nil | apply dw_seq2 | (apply ds_region; exact rfl) | apply dw_block | apply dw_skip | apply dw_ret | apply thenD_n | apply thenD_r | (apply ds_newC; exact rfl; (with_reducible exact trivial); exact rfl; exact rfl; exact rfl) | (apply dw_condP; exact rfl; all_goals intro hg))
    all_goals try (exfalso; omega)
    exact ⟨.inl rfl, _, rfl, rfl, rfl⟩
end Go.Proofs.Ytapciiffpnociaa

/- The document's SameProgram at a program and itself; the law's small program. Condition: none. -/
namespace Go.Proofs.Ytapciiffpnociaa
open Go Go.RowKit
attribute [local irreducible] DW DS DL DQ Ev FnOk FnP thenD inBlockD DWr
def smallP : Prg := ⟨[2, 2], [⟨#[113]⟩, ⟨#[112]⟩], [⟨1, [⟨0, 0⟩, ⟨1, 0⟩], 0, [⟨1, 0, 0, [⟨0, 0⟩, ⟨1, 0⟩]⟩], 2⟩, ⟨1, [⟨0, 0⟩, ⟨2, 0⟩], 0, [⟨1, 0, 1, [⟨0, 0⟩, ⟨1, 0⟩]⟩, ⟨1, 0, 0, [⟨1, 0⟩, ⟨2, 0⟩]⟩], 3⟩]⟩
set_option maxHeartbeats 8000000 in
theorem lsmall_fn : Fn 112 [] (fun res => res = elPrg smallP) := by
  refine fnp_enter' _ Try.func112 rfl rfl (by kernel_rfl) ?_
  intro O w0 E0 β0
  repeat' (first | (apply ds_evC; exact rfl; (with_reducible exact trivial); (with_reducible exact rfl); exact rfl; exact rfl; exact rfl) | apply ds_nil | apply dw_seq2 | (apply ds_region; exact rfl) | apply dw_ret | apply thenD_n | (apply ds_newC; exact rfl; (with_reducible exact trivial); exact rfl; exact rfl; exact rfl) | (apply ds_setC; exact rfl; exact rfl; exact rfl; exact rfl) | (apply ds_bsC; exact rfl; exact rfl; exact rfl; exact rfl))
  exact ⟨.inl rfl, _, rfl, rfl, rfl⟩
set_option maxHeartbeats 8000000 in
theorem same_fn (p : Prg) (h10 : p.names.length ≤ 10) (h12 : p.rules.length ≤ 12) (h4 : ∀ r ∈ p.rules, r.body.length ≤ 4) : Fn 38 [elPrg p, elPrg p] (fun res => res = .d (.bool true)) := by
  refine fnp_enter' _ Try.func38 rfl rfl (by kernel_rfl) ?_
  intro O w0 E0 β0
  have la : (p.arity.map encI).length = p.arity.length := List.length_map _
  have ln : (p.names.map encT).length = p.names.length := List.length_map _
  have lr : (p.rules.map encRul).length = p.rules.length := List.length_map _
  have hr := sameInts_fn p.arity p.arity
  rw [sameL_refl (p := sameI) (fun x => decide_eq_true rfl)] at hr
  repeat' (first | (apply ds_evC; exact rfl; (with_reducible exact trivial); (with_reducible exact rfl); exact rfl; exact rfl; exact rfl) | (apply ds_skip; exact rfl; exact rfl) | apply ds_nil | apply dw_seq2 | (apply ds_region; exact rfl) | apply dw_block | apply dw_skip | apply dw_ret | (apply dw_condT; exact rfl) | apply thenD_n | apply thenD_r | (apply ds_call; exact rfl; exact rfl; apply hr; exact rfl; (exact rfl); exact rfl; rintro _ rfl) | (apply ds_newC; exact rfl; (with_reducible exact trivial); exact rfl; exact rfl; exact rfl) | (apply dw_condP; exact rfl; all_goals intro hg) | ((fail_if_success (apply ds_known; exact rfl)); apply ds_guardP; exact rfl; exact rfl; exact rfl; all_goals intro hg))
  all_goals try (exfalso; omega)
  refine ds_loop (ι := Nat) (fun i => ⟨2, [(2, .loc 0 0), (3, .loc 1 0), (5, .d (.int .i64 i))], [(0, prgBk p), (1, prgBk p)]⟩)
    (fun i => i ≤ p.names.length) (fun i => p.names.length - i) 0 (Nat.zero_le _) (ent_ren id ⟨rfl, rfl, rfl, trivial⟩ ⟨rfl, rfl, trivial⟩ rfl rfl rfl rfl rfl rfl) ?_
  intro i hi
  by_cases hi2 : i < p.names.length
  · repeat' (first | (apply ds_evC; exact rfl; (first | (with_reducible exact trivial) | omega); (with_reducible exact rfl); exact rfl; exact rfl; exact rfl) | apply ds_nil | (apply dt_ev; exact rfl; exact rfl; (first | (with_reducible exact trivial) | omega); (first | ((with_reducible apply hv_row); (exact rfl); (omega)) | (with_reducible exact rfl)); exact rfl; exact rfl; exact rfl; exact rfl) | (apply dt_nil0; exact rfl; exact rfl; exact rfl; exact rfl) | apply dw_seq2 | (apply ds_region; exact rfl) | (apply dw_any; kernel_rfl; kernel_rfl; exact rfl; exact rfl) | apply dw_block | apply dw_skip | apply dw_exit | apply dw_ret | apply thenD_n | apply thenD_e | apply thenD_r | apply inB_n | apply inB_r | (apply inB_e; exact rfl) | (apply dw_condP; exact rfl; all_goals intro hg))
    all_goals try (exfalso; omega)
    all_goals first
      | exact absurd rfl hg
      | exact ⟨i + 1, hi2, ent_ren id ⟨rfl, rfl, rfl, trivial⟩ ⟨rfl, rfl, trivial⟩ rfl rfl rfl rfl rfl rfl, by show p.names.length - (i + 1) < p.names.length - i; omega⟩
  · repeat' (first | (apply ds_evC; exact rfl; (first | (with_reducible exact trivial) | omega); (with_reducible exact rfl); exact rfl; exact rfl; exact rfl) | apply ds_nil | (apply dt_ev; exact rfl; exact rfl; (first | (with_reducible exact trivial) | omega); (first | ((with_reducible apply hv_row); (exact rfl); (omega)) | (with_reducible exact rfl)); exact rfl; exact rfl; exact rfl; exact rfl) | (apply dt_nil0; exact rfl; exact rfl; exact rfl; exact rfl) | apply dw_seq2 | (apply ds_region; exact rfl) | (apply dw_any; kernel_rfl; kernel_rfl; exact rfl; exact rfl) | apply dw_block | apply dw_skip | apply dw_exit | apply dw_ret | apply thenD_n | apply thenD_e | apply thenD_r | apply inB_n | apply inB_r | (apply inB_e; exact rfl) | (apply dw_condP; exact rfl; all_goals intro hg))
    all_goals try (exfalso; omega)
    refine ds_loop (ι := Nat) (fun i => ⟨2, [(2, .loc 0 0), (3, .loc 1 0), (6, .d (.int .i64 i))], [(0, prgBk p), (1, prgBk p)]⟩)
      (fun i => i ≤ p.rules.length) (fun i => p.rules.length - i) 0 (Nat.zero_le _) (ent_ren id ⟨rfl, rfl, rfl, trivial⟩ ⟨rfl, rfl, trivial⟩ rfl rfl rfl rfl rfl rfl) ?_
    intro j hj
    by_cases hj2 : j < p.rules.length
    · have ht := sameTerms_fn p.rules[j].terms p.rules[j].terms
      rw [sameL_refl (p := sameTrm) (fun x => by simp [sameTrm])] at ht
      have hlt : ∀ x ∈ p.rules[j].body, Fn 113 [.d (.slice 2 (x.terms.map encTrm)), .d (.slice 2 (x.terms.map encTrm))] (fun res => res = .d (.bool true)) := by
        intro x _
        have h := sameTerms_fn x.terms x.terms
        rwa [sameL_refl (p := sameTrm) (fun x => by simp [sameTrm])] at h
      have hb4 := h4 _ (List.getElem_mem hj2)
      have lb : (p.rules[j].body.map encLtl).length = p.rules[j].body.length := List.length_map _
      repeat' (first | (apply ds_evC; exact rfl; (with_reducible exact trivial); (with_reducible exact rfl); exact rfl; exact rfl; exact rfl) | (apply ds_skip; exact rfl; exact rfl) | apply ds_nil | (apply dt_ev; exact rfl; exact rfl; (first | (with_reducible exact trivial) | omega); (first | ((with_reducible apply hv_row); (exact rfl); (omega)) | (with_reducible exact rfl)); exact rfl; exact rfl; exact rfl; exact rfl) | (apply dt_set; exact rfl; exact rfl; (with_reducible exact trivial); exact rfl; exact rfl; exact rfl; exact rfl) | (apply dt_new; exact rfl; exact rfl; exact rfl; (with_reducible exact trivial); exact rfl; exact rfl; exact rfl; exact rfl; exact rfl) | (apply dt_nil; exact rfl) | apply dw_seq2 | (apply ds_region; exact rfl) | (apply dw_any; kernel_rfl; kernel_rfl; exact rfl; exact rfl) | apply dw_block | apply dw_skip | apply dw_exit | apply dw_ret | (apply dw_condT; exact rfl) | apply thenD_n | apply thenD_e | apply thenD_r | apply inB_r | (apply inB_e; exact rfl) | (apply ds_call; exact rfl; exact rfl; apply ht; exact rfl; (exact rfl); exact rfl; rintro _ rfl) | (apply dw_condP; exact rfl; all_goals intro hg) | ((fail_if_success (apply ds_known; exact rfl)); apply ds_guardP; exact rfl; exact rfl; exact rfl; all_goals intro hg))
      all_goals try (exfalso; omega)
      refine ds_loop (ι := Nat) (fun k => ⟨4, [(2, .loc 0 0), (3, .loc 1 0), (6, .d (.int .i64 j)), (7, .loc 2 0), (8, .loc 3 0), (9, .d (.int .i64 k))], [(0, prgBk p), (1, prgBk p), (2, ruleB p.rules[j]), (3, ruleB p.rules[j])]⟩)
        (fun k => k ≤ p.rules[j].body.length) (fun k => p.rules[j].body.length - k) 0 (Nat.zero_le _) (ent_ren (fun j => match j with | 2 => 12 | 3 => 13 | j => j) ⟨rfl, rfl, rfl, rfl, rfl, rfl, trivial⟩ ⟨rfl, rfl, rfl, rfl, trivial⟩ rfl rfl rfl rfl rfl rfl) ?_
      intro k hk
      by_cases hk2 : k < p.rules[j].body.length
      · have hx := hlt _ (List.getElem_mem hk2)
        repeat' (first | (apply ds_evC; exact rfl; (first | (with_reducible exact trivial) | omega); (with_reducible exact rfl); exact rfl; exact rfl; exact rfl) | (apply ds_skip; exact rfl; exact rfl) | apply ds_nil | (apply dt_ev; exact rfl; exact rfl; (first | (with_reducible exact trivial) | omega); (first | ((with_reducible apply hv_row); (exact rfl); (omega)) | (with_reducible exact rfl)); exact rfl; exact rfl; exact rfl; exact rfl) | (apply dt_set; exact rfl; exact rfl; (with_reducible exact trivial); exact rfl; exact rfl; exact rfl; exact rfl) | (apply dt_new; exact rfl; exact rfl; exact rfl; (with_reducible exact trivial); exact rfl; exact rfl; exact rfl; exact rfl; exact rfl) | (apply dt_nil; exact rfl) | apply dw_seq2 | (apply ds_region; exact rfl) | (apply dw_any; kernel_rfl; kernel_rfl; exact rfl; exact rfl) | apply dw_block | apply dw_skip | apply dw_exit | apply dw_ret | (apply dw_condT; exact rfl) | (apply dw_condF; exact rfl) | apply thenD_n | apply thenD_e | apply thenD_r | apply inB_n | apply inB_r | (apply inB_e; exact rfl) | (apply ds_call; exact rfl; exact rfl; apply hx; exact rfl; (exact rfl); exact rfl; rintro _ rfl) | (apply dw_condP; exact rfl; all_goals intro hg) | ((fail_if_success (apply ds_known; exact rfl)); apply ds_guardP; exact rfl; exact rfl; exact rfl; all_goals intro hg))
        all_goals try (exfalso; omega)
        exact ⟨k + 1, hk2, ent_ren id ⟨rfl, rfl, rfl, rfl, rfl, rfl, trivial⟩ ⟨rfl, rfl, rfl, rfl, trivial⟩ rfl rfl rfl rfl rfl rfl, by show p.rules[j].body.length - (k + 1) < p.rules[j].body.length - k; omega⟩
      · repeat' (first | (apply ds_evC; exact rfl; (first | (with_reducible exact trivial) | omega); (with_reducible exact rfl); exact rfl; exact rfl; exact rfl) | (apply ds_skip; exact rfl; exact rfl) | apply ds_nil | (apply dt_ev; exact rfl; exact rfl; (first | (with_reducible exact trivial) | omega); (first | ((with_reducible apply hv_row); (exact rfl); (omega)) | (with_reducible exact rfl)); exact rfl; exact rfl; exact rfl; exact rfl) | (apply dt_set; exact rfl; exact rfl; (with_reducible exact trivial); exact rfl; exact rfl; exact rfl; exact rfl) | (apply dt_new; exact rfl; exact rfl; exact rfl; (with_reducible exact trivial); exact rfl; exact rfl; exact rfl; exact rfl; exact rfl) | (apply dt_nil; exact rfl) | apply dw_seq2 | (apply ds_region; exact rfl) | (apply dw_any; kernel_rfl; kernel_rfl; exact rfl; exact rfl) | apply dw_block | apply dw_skip | apply dw_exit | apply dw_ret | (apply dw_condT; exact rfl) | apply thenD_n | apply thenD_e | apply thenD_r | apply inB_n | apply inB_r | (apply inB_e; exact rfl) | (apply dw_condP; exact rfl; all_goals intro hg) | ((fail_if_success (apply ds_known; exact rfl)); apply ds_guardP; exact rfl; exact rfl; exact rfl; all_goals intro hg))
        all_goals try (exfalso; omega)
        exact ⟨j + 1, hj2, ent_ren id ⟨rfl, rfl, rfl, trivial⟩ ⟨rfl, rfl, trivial⟩ rfl rfl rfl rfl rfl rfl, by show p.rules.length - (j + 1) < p.rules.length - j; omega⟩
    · repeat' (first | (apply ds_evC; exact rfl; (with_reducible exact trivial); (with_reducible exact rfl); exact rfl; exact rfl; exact rfl) | (apply ds_skip; exact rfl; exact rfl) | apply ds_nil | (apply dt_ev; exact rfl; exact rfl; (first | (with_reducible exact trivial) | omega); (first | ((with_reducible apply hv_row); (exact rfl); (omega)) | (with_reducible exact rfl)); exact rfl; exact rfl; exact rfl; exact rfl) | (apply dt_set; exact rfl; exact rfl; (with_reducible exact trivial); exact rfl; exact rfl; exact rfl; exact rfl) | (apply dt_new; exact rfl; exact rfl; exact rfl; (with_reducible exact trivial); exact rfl; exact rfl; exact rfl; exact rfl; exact rfl) | (apply dt_nil; exact rfl) | apply dw_seq2 | (apply ds_region; exact rfl) | (apply dw_any; kernel_rfl; kernel_rfl; exact rfl; exact rfl) | apply dw_block | apply dw_skip | apply dw_exit | apply dw_ret | (apply dw_condT; exact rfl) | apply thenD_n | apply thenD_e | apply thenD_r | apply inB_r | (apply inB_e; exact rfl) | (apply dw_condP; exact rfl; all_goals intro hg) | ((fail_if_success (apply ds_known; exact rfl)); apply ds_guardP; exact rfl; exact rfl; exact rfl; all_goals intro hg))
      all_goals try (exfalso; omega)
      exact ⟨.inl rfl, _, rfl, rfl, rfl⟩
end Go.Proofs.Ytapciiffpnociaa

/- The law's own small run. Condition: none. -/
namespace Go.Proofs.Ytapciiffpnociaa
open Go Go.RowKit
attribute [local irreducible] DW DS DL DQ Ev FnOk FnP thenD inBlockD DWr
theorem small_levE : levE smallP = 0 := by kernel_rfl
theorem small_levL : levL smallP = [0, 0] := by kernel_rfl
theorem small_r1 : readyE smallP 1 = 0 := by kernel_rfl
theorem small_r0 : readyE smallP 0 = 0 := by kernel_rfl
theorem small_n1 : needsL smallP 1 = [true, true] := by kernel_rfl
theorem small_f0 : focusP smallP 0 = ⟨[2, 2], [⟨#[113]⟩, ⟨#[112]⟩], []⟩ := by kernel_rfl
set_option maxHeartbeats 8000000 in
theorem begun_fn : Fn 35 [] (fun res => res = .d (.bool true)) := by
  refine fnp_enter' _ Try.func35 rfl rfl (by kernel_rfl) ?_
  intro O w0 E0 β0
  have h1 := lsmall_fn
  have h2 := levels_fn smallP
  rw [small_levE, small_levL] at h2
  have h3 := pneeds_fn smallP 1
  rw [small_r1, if_pos rfl, small_n1] at h3
  have h4 := focus_fn smallP 0
  rw [small_r0, small_f0] at h4
  have h5 := sameInts_fn [0, 0] [0, 0]
  repeat' (first | (apply ds_evC; exact rfl; (first | (with_reducible exact trivial) | (simp <;> omega)); (with_reducible exact rfl); exact rfl; exact rfl; exact rfl) | apply ds_nil | apply dw_seq2 | (apply ds_region; exact rfl) | apply dw_ret | apply thenD_n | (apply ds_call; exact rfl; exact rfl; apply h1; exact rfl; (exact rfl); exact rfl; rintro _ rfl) | (apply ds_call; exact rfl; exact rfl; apply h2; exact rfl; (exact rfl); exact rfl; rintro _ rfl) | (apply ds_call; exact rfl; exact rfl; apply h3; exact rfl; (exact rfl); exact rfl; rintro _ rfl) | (apply ds_call; exact rfl; exact rfl; apply h4; exact rfl; (exact rfl); exact rfl; rintro _ rfl) | (apply ds_call; exact rfl; exact rfl; apply h5; exact rfl; (exact rfl); exact rfl; rintro _ rfl) | (apply ds_newC; exact rfl; (with_reducible exact trivial); exact rfl; exact rfl; exact rfl) | (apply ds_setC; exact rfl; exact rfl; exact rfl; exact rfl) | (apply ds_bsC; exact rfl; exact rfl; exact rfl; exact rfl))
  exact ⟨.inl rfl, _, rfl, rfl, rfl⟩
end Go.Proofs.Ytapciiffpnociaa

/- StrataTells walked. Condition: none. -/
namespace Go.Proofs.Ytapciiffpnociaa
open Go Go.RowKit
attribute [local irreducible] DW DS DL DQ Ev FnOk FnP thenD inBlockD DWr
theorem same0 : Fn 38 [elPrg ⟨[], [], []⟩, elPrg ⟨[], [], []⟩] (fun res => res = .d (.bool true)) := same_fn _ (by simp) (by simp) (fun r h => nomatch h)
set_option maxHeartbeats 8000000 in
theorem strataTells_fn (p : Prg) (pred : Int) : Fn 9 [elPrg p, .d (.int .i64 pred)] (fun res => res = .d (.bool true)) := by
  refine fnp_enter' _ Try.func9 rfl rfl (by kernel_rfl) ?_
  intro O w0 E0 β0
  have hl := levels_fn p
  have hn := pneeds_fn p pred
  have hf := focus_fn p pred
  have hc := rcheck_fn p
  have hb := begun_fn
  have la : (p.arity.map encI).length = p.arity.length := List.length_map _
  by_cases h0 : progE nameR p = 0
  · have hok := progE_ok h0
    rw [h0] at hc
    have hn10 := hok.names
    have ha10 := hok.preds
    cases hdoc : docOk p with
    | false =>
      have e1 : levE p = 4 := by unfold levE; rw [if_neg (by rw [h0]; simp), if_neg (by rw [hdoc]; simp)]
      have e2 : levL p = [] := if_neg (fun h => by rw [hdoc] at h; cases h.2)
      have hd := levelsOf_fn p hok
      rw [e1, e2] at hl
      rw [hdoc] at hd
      have i1 := sameInts_fn [] []
      by_cases hr : 0 ≤ pred ∧ pred < p.arity.length
      · have e3 : readyE p pred = 0 := by unfold readyE; rw [if_neg (by rw [h0]; simp), if_pos hr]
        have hm := needsOf_fn p pred hok hr
        have hq := focusOf_fn p pred hok hr
        have ef : focusP p pred = ⟨p.arity, p.names, focusL (docNeeds p pred) p.rules⟩ := by unfold focusP; rw [if_pos e3, needs_same hok hr]
        have ho2 := progE_ok (focus_progE h0 (docNeeds p pred))
        rw [e3, if_pos rfl, needs_same hok hr] at hn
        rw [e3, ef] at hf
        have i2 := sameBools_fn (docNeeds p pred) (docNeeds p pred)
        rw [sameL_refl (p := sameBl) (fun x => by cases x <;> rfl)] at i2
        have i3 := same_fn ⟨p.arity, p.names, focusL (docNeeds p pred) p.rules⟩ (by dsimp only; omega) ho2.rules (fun r hr => (ho2.each r hr).body)
        repeat' (first | (apply ds_evC; exact rfl; (with_reducible exact trivial); (with_reducible exact rfl); exact rfl; exact rfl; exact rfl) | (apply ds_skip; exact rfl; exact rfl) | apply ds_nil | (apply dt_ev; exact rfl; exact rfl; (with_reducible exact trivial); (with_reducible exact rfl); exact rfl; exact rfl; exact rfl; exact rfl) | (apply dt_set; exact rfl; exact rfl; (with_reducible exact trivial); exact rfl; exact rfl; exact rfl; exact rfl) | (apply dt_nil0; exact rfl; exact rfl; exact rfl; exact rfl) | apply dw_seq2 | (apply ds_region; exact rfl) | (apply dw_any; kernel_rfl; kernel_rfl; exact rfl; exact rfl) | apply dw_skip | (apply dw_condT; exact rfl) | (apply dw_condF; exact rfl) | apply thenD_n | (apply ds_call; exact rfl; exact rfl; apply hl; exact rfl; (exact rfl); exact rfl; rintro _ rfl) | (apply ds_call; exact rfl; exact rfl; apply hn; exact rfl; (exact rfl); exact rfl; rintro _ rfl) | (apply ds_call; exact rfl; exact rfl; apply hf; exact rfl; (exact rfl); exact rfl; rintro _ rfl) | (apply ds_call; exact rfl; exact rfl; apply hc; exact rfl; (exact rfl); exact rfl; rintro _ rfl) | (apply ds_call; exact rfl; exact rfl; apply hb; exact rfl; (exact rfl); exact rfl; rintro _ rfl) | (apply ds_call; exact rfl; exact rfl; apply hd; exact rfl; (exact rfl); exact rfl; rintro _ rfl) | (apply dt_call; exact rfl; exact rfl; apply hm; exact rfl; (exact rfl); exact rfl; exact rfl; exact ⟨_, rfl⟩; rintro _ rfl) | (apply dt_call; exact rfl; exact rfl; apply hq; exact rfl; (exact rfl); exact rfl; exact rfl; exact ⟨_, rfl⟩; rintro _ rfl) | (apply ds_newC; exact rfl; (with_reducible exact trivial); exact rfl; exact rfl; exact rfl) | (apply ds_setC; exact rfl; exact rfl; exact rfl; exact rfl) | (apply dw_condP; exact rfl; all_goals intro hg) | ((fail_if_success (apply ds_known; exact rfl)); apply ds_guardP; exact rfl; exact rfl; exact rfl; all_goals intro hg))
        all_goals try (exfalso; omega)
        refine ds_ent (ent_nild 76 1 rfl) ?_
        repeat' (first | (apply ds_evC; exact rfl; (with_reducible exact trivial); (with_reducible exact rfl); exact rfl; exact rfl; exact rfl) | apply ds_nil | apply dw_ret | apply thenD_n | (apply ds_call; exact rfl; exact rfl; apply i1; exact rfl; (exact rfl); exact rfl; rintro _ rfl) | (apply ds_call; exact rfl; exact rfl; apply i2; exact rfl; (exact rfl); exact rfl; rintro _ rfl) | (apply ds_call; exact rfl; exact rfl; apply i3; exact rfl; (exact rfl); exact rfl; rintro _ rfl))
        all_goals exact ⟨.inl rfl, _, rfl, rfl, rfl⟩
      · have e3 : readyE p pred = 5 := by unfold readyE; rw [if_neg (by rw [h0]; simp), if_neg hr]
        have e4 : focusP p pred = ⟨[], [], []⟩ := if_neg (by rw [e3]; simp)
        rw [e3, if_neg (by simp)] at hn
        rw [e3, e4] at hf
        have i2 := sameBools_fn [] []
        have i3 := same0
        repeat' (first | (apply ds_evC; exact rfl; (with_reducible exact trivial); (with_reducible exact rfl); exact rfl; exact rfl; exact rfl) | (apply ds_skip; exact rfl; exact rfl) | apply ds_nil | (apply dt_ev; exact rfl; exact rfl; (with_reducible exact trivial); (with_reducible exact rfl); exact rfl; exact rfl; exact rfl; exact rfl) | apply dw_seq2 | (apply ds_region; exact rfl) | (apply dw_any; kernel_rfl; kernel_rfl; exact rfl; exact rfl) | apply dw_skip | (apply dw_condT; exact rfl) | (apply dw_condF; exact rfl) | apply thenD_n | (apply ds_call; exact rfl; exact rfl; apply hl; exact rfl; (exact rfl); exact rfl; rintro _ rfl) | (apply ds_call; exact rfl; exact rfl; apply hn; exact rfl; (exact rfl); exact rfl; rintro _ rfl) | (apply ds_call; exact rfl; exact rfl; apply hf; exact rfl; (exact rfl); exact rfl; rintro _ rfl) | (apply ds_call; exact rfl; exact rfl; apply hc; exact rfl; (exact rfl); exact rfl; rintro _ rfl) | (apply ds_call; exact rfl; exact rfl; apply hb; exact rfl; (exact rfl); exact rfl; rintro _ rfl) | (apply ds_call; exact rfl; exact rfl; apply hd; exact rfl; (exact rfl); exact rfl; rintro _ rfl) | (apply ds_newC; exact rfl; (with_reducible exact trivial); exact rfl; exact rfl; exact rfl) | (apply ds_setC; exact rfl; exact rfl; exact rfl; exact rfl) | (apply dw_condP; exact rfl; all_goals intro hg) | ((fail_if_success (apply ds_known; exact rfl)); apply ds_guardP; exact rfl; exact rfl; exact rfl; all_goals intro hg))
        all_goals try (exfalso; omega)
        all_goals refine ds_ent (ent_trans (ent_nild 76 1 rfl) (ent_trans (ent_nild 16 1 rfl) (ent_trans (ent_cellnil 2 0 1 rfl rfl rfl) (ent_trans (ent_cellnil 2 1 1 rfl rfl rfl) (ent_cellnil 2 2 5 rfl rfl rfl))))) ?_
        all_goals repeat' (first | (apply ds_evC; exact rfl; (with_reducible exact trivial); (with_reducible exact rfl); exact rfl; exact rfl; exact rfl) | apply ds_nil | apply dw_ret | apply thenD_n | (apply ds_call; exact rfl; exact rfl; apply i1; exact rfl; (exact rfl); exact rfl; rintro _ rfl) | (apply ds_call; exact rfl; exact rfl; apply i2; exact rfl; (exact rfl); exact rfl; rintro _ rfl) | (apply ds_call; exact rfl; exact rfl; apply i3; exact rfl; (exact rfl); exact rfl; rintro _ rfl))
        all_goals exact ⟨.inl rfl, _, rfl, rfl, rfl⟩
    | true =>
      have e1 : levE p = 0 := by unfold levE; rw [if_neg (by rw [h0]; simp), if_pos hdoc]
      have e2 : levL p = docLv p := if_pos ⟨h0, hdoc⟩
      have hd := levelsOf_fn p hok
      rw [e1, e2] at hl
      rw [hdoc] at hd
      have i1 := sameInts_fn (docLv p) (docLv p)
      rw [sameL_refl (p := sameI) (fun x => decide_eq_true rfl)] at i1
      by_cases hr : 0 ≤ pred ∧ pred < p.arity.length
      · have e3 : readyE p pred = 0 := by unfold readyE; rw [if_neg (by rw [h0]; simp), if_pos hr]
        have hm := needsOf_fn p pred hok hr
        have hq := focusOf_fn p pred hok hr
        have ef : focusP p pred = ⟨p.arity, p.names, focusL (docNeeds p pred) p.rules⟩ := by unfold focusP; rw [if_pos e3, needs_same hok hr]
        have ho2 := progE_ok (focus_progE h0 (docNeeds p pred))
        rw [e3, if_pos rfl, needs_same hok hr] at hn
        rw [e3, ef] at hf
        have i2 := sameBools_fn (docNeeds p pred) (docNeeds p pred)
        rw [sameL_refl (p := sameBl) (fun x => by cases x <;> rfl)] at i2
        have i3 := same_fn ⟨p.arity, p.names, focusL (docNeeds p pred) p.rules⟩ (by dsimp only; omega) ho2.rules (fun r hr => (ho2.each r hr).body)
        repeat' (first | (apply ds_evC; exact rfl; (with_reducible exact trivial); (with_reducible exact rfl); exact rfl; exact rfl; exact rfl) | (apply ds_skip; exact rfl; exact rfl) | apply ds_nil | (apply dt_ev; exact rfl; exact rfl; (with_reducible exact trivial); (with_reducible exact rfl); exact rfl; exact rfl; exact rfl; exact rfl) | (apply dt_set; exact rfl; exact rfl; (with_reducible exact trivial); exact rfl; exact rfl; exact rfl; exact rfl) | (apply dt_nil0; exact rfl; exact rfl; exact rfl; exact rfl) | apply dw_seq2 | (apply ds_region; exact rfl) | (apply dw_any; kernel_rfl; kernel_rfl; exact rfl; exact rfl) | apply dw_skip | (apply dw_condT; exact rfl) | (apply dw_condF; exact rfl) | apply thenD_n | (apply ds_call; exact rfl; exact rfl; apply hl; exact rfl; (exact rfl); exact rfl; rintro _ rfl) | (apply ds_call; exact rfl; exact rfl; apply hn; exact rfl; (exact rfl); exact rfl; rintro _ rfl) | (apply ds_call; exact rfl; exact rfl; apply hf; exact rfl; (exact rfl); exact rfl; rintro _ rfl) | (apply ds_call; exact rfl; exact rfl; apply hc; exact rfl; (exact rfl); exact rfl; rintro _ rfl) | (apply ds_call; exact rfl; exact rfl; apply hb; exact rfl; (exact rfl); exact rfl; rintro _ rfl) | (apply ds_call; exact rfl; exact rfl; apply hd; exact rfl; (exact rfl); exact rfl; rintro _ rfl) | (apply dt_call; exact rfl; exact rfl; apply hm; exact rfl; (exact rfl); exact rfl; exact rfl; exact ⟨_, rfl⟩; rintro _ rfl) | (apply dt_call; exact rfl; exact rfl; apply hq; exact rfl; (exact rfl); exact rfl; exact rfl; exact ⟨_, rfl⟩; rintro _ rfl) | (apply ds_call; exact rfl; exact rfl; apply i1; exact rfl; (exact rfl); exact rfl; rintro _ rfl) | (apply ds_call; exact rfl; exact rfl; apply i2; exact rfl; (exact rfl); exact rfl; rintro _ rfl) | (apply ds_call; exact rfl; exact rfl; apply i3; exact rfl; (exact rfl); exact rfl; rintro _ rfl) | (apply ds_newC; exact rfl; (with_reducible exact trivial); exact rfl; exact rfl; exact rfl) | (apply ds_setC; exact rfl; exact rfl; exact rfl; exact rfl) | (apply dw_condP; exact rfl; all_goals intro hg) | ((fail_if_success (apply ds_known; exact rfl)); apply ds_guardP; exact rfl; exact rfl; exact rfl; all_goals intro hg))
        all_goals try (exfalso; omega)
        all_goals repeat' (apply dw_ret)
        all_goals exact ⟨.inl rfl, _, rfl, rfl, rfl⟩
      · have e3 : readyE p pred = 5 := by unfold readyE; rw [if_neg (by rw [h0]; simp), if_neg hr]
        have e4 : focusP p pred = ⟨[], [], []⟩ := if_neg (by rw [e3]; simp)
        rw [e3, if_neg (by simp)] at hn
        rw [e3, e4] at hf
        have i2 := sameBools_fn [] []
        have i3 := same0
        repeat' (first | (apply ds_evC; exact rfl; (with_reducible exact trivial); (with_reducible exact rfl); exact rfl; exact rfl; exact rfl) | (apply ds_skip; exact rfl; exact rfl) | apply ds_nil | (apply dt_ev; exact rfl; exact rfl; (with_reducible exact trivial); (with_reducible exact rfl); exact rfl; exact rfl; exact rfl; exact rfl) | apply dw_seq2 | (apply ds_region; exact rfl) | (apply dw_any; kernel_rfl; kernel_rfl; exact rfl; exact rfl) | apply dw_skip | (apply dw_condT; exact rfl) | (apply dw_condF; exact rfl) | apply thenD_n | (apply ds_call; exact rfl; exact rfl; apply hl; exact rfl; (exact rfl); exact rfl; rintro _ rfl) | (apply ds_call; exact rfl; exact rfl; apply hn; exact rfl; (exact rfl); exact rfl; rintro _ rfl) | (apply ds_call; exact rfl; exact rfl; apply hf; exact rfl; (exact rfl); exact rfl; rintro _ rfl) | (apply ds_call; exact rfl; exact rfl; apply hc; exact rfl; (exact rfl); exact rfl; rintro _ rfl) | (apply ds_call; exact rfl; exact rfl; apply hb; exact rfl; (exact rfl); exact rfl; rintro _ rfl) | (apply ds_call; exact rfl; exact rfl; apply hd; exact rfl; (exact rfl); exact rfl; rintro _ rfl) | (apply ds_call; exact rfl; exact rfl; apply i1; exact rfl; (exact rfl); exact rfl; rintro _ rfl) | (apply ds_newC; exact rfl; (with_reducible exact trivial); exact rfl; exact rfl; exact rfl) | (apply ds_setC; exact rfl; exact rfl; exact rfl; exact rfl) | (apply dw_condP; exact rfl; all_goals intro hg) | ((fail_if_success (apply ds_known; exact rfl)); apply ds_guardP; exact rfl; exact rfl; exact rfl; all_goals intro hg))
        all_goals try (exfalso; omega)
        all_goals refine ds_ent (ent_trans (ent_nild 86 1 rfl) (ent_trans (ent_cellnil 2 0 1 rfl rfl rfl) (ent_trans (ent_cellnil 2 1 1 rfl rfl rfl) (ent_cellnil 2 2 5 rfl rfl rfl)))) ?_
        all_goals repeat' (first | (apply ds_evC; exact rfl; (with_reducible exact trivial); (with_reducible exact rfl); exact rfl; exact rfl; exact rfl) | apply ds_nil | apply dw_ret | apply thenD_n | (apply ds_call; exact rfl; exact rfl; apply i2; exact rfl; (exact rfl); exact rfl; rintro _ rfl) | (apply ds_call; exact rfl; exact rfl; apply i3; exact rfl; (exact rfl); exact rfl; rintro _ rfl))
        all_goals exact ⟨.inl rfl, _, rfl, rfl, rfl⟩
  · have e1 : levE p = progE nameR p := if_pos h0
    have e2 : levL p = [] := if_neg (fun h => h0 h.1)
    have e3 : readyE p pred = progE nameR p := if_pos h0
    have e4 : focusP p pred = ⟨[], [], []⟩ := if_neg (by rw [e3]; exact h0)
    rw [e1, e2] at hl
    rw [e3, if_neg h0] at hn
    rw [e3, e4] at hf
    have i1 := sameInts_fn [] []
    have i2 := sameBools_fn [] []
    have i3 := same0
    generalize progE nameR p = e at *
    repeat' (first | (apply ds_evC; exact rfl; (with_reducible exact trivial); (with_reducible exact rfl); exact rfl; exact rfl; exact rfl) | (apply ds_skip; exact rfl; exact rfl) | apply ds_nil | (apply dt_ev; exact rfl; exact rfl; (with_reducible exact trivial); (with_reducible exact rfl); exact rfl; exact rfl; exact rfl; exact rfl) | apply dw_seq2 | (apply ds_region; exact rfl) | (apply dw_any; kernel_rfl; kernel_rfl; exact rfl; exact rfl) | apply dw_skip | (apply dw_condT; exact rfl) | (apply dw_condF; exact rfl) | apply thenD_n | (apply ds_call; exact rfl; exact rfl; apply hl; exact rfl; (exact rfl); exact rfl; rintro _ rfl) | (apply ds_call; exact rfl; exact rfl; apply hn; exact rfl; (exact rfl); exact rfl; rintro _ rfl) | (apply ds_call; exact rfl; exact rfl; apply hf; exact rfl; (exact rfl); exact rfl; rintro _ rfl) | (apply ds_call; exact rfl; exact rfl; apply hc; exact rfl; (exact rfl); exact rfl; rintro _ rfl) | (apply ds_call; exact rfl; exact rfl; apply hb; exact rfl; (exact rfl); exact rfl; rintro _ rfl) | (apply ds_newC; exact rfl; (with_reducible exact trivial); exact rfl; exact rfl; exact rfl) | (apply ds_setC; exact rfl; exact rfl; exact rfl; exact rfl) | (apply dw_condP; exact rfl; all_goals intro hg) | ((fail_if_success (apply ds_known; exact rfl)); apply ds_guardP; exact rfl; exact rfl; exact rfl; all_goals intro hg))
    all_goals try (exfalso; omega)
    refine ds_ent (ent_trans (ent_nild 76 1 rfl) (ent_trans (ent_nild 16 1 rfl) (ent_trans (ent_cellnil 2 0 1 rfl rfl rfl) (ent_trans (ent_cellnil 2 1 1 rfl rfl rfl) (ent_cellnil 2 2 5 rfl rfl rfl))))) ?_
    repeat' (first | (apply ds_evC; exact rfl; (with_reducible exact trivial); (with_reducible exact rfl); exact rfl; exact rfl; exact rfl) | (apply ds_skip; exact rfl; exact rfl) | apply ds_nil | apply dw_ret | apply thenD_n | (apply ds_call; exact rfl; exact rfl; apply i1; exact rfl; (exact rfl); exact rfl; rintro _ rfl) | (apply ds_call; exact rfl; exact rfl; apply i2; exact rfl; (exact rfl); exact rfl; rintro _ rfl) | (apply ds_call; exact rfl; exact rfl; apply i3; exact rfl; (exact rfl); exact rfl; rintro _ rfl) | ((fail_if_success (apply ds_known; exact rfl)); apply ds_guardP; exact rfl; exact rfl; exact rfl; all_goals intro hg))
    all_goals try (exfalso; omega)
    all_goals exact ⟨.inl rfl, _, rfl, rfl, rfl⟩
end Go.Proofs.Ytapciiffpnociaa

/- A plain logic over the walk: what comes in, read as data. No program is named here. Condition: none. -/
namespace Go.Proofs.Ytapciiffpnociaa
open Go Go.RowKit

/-- What data there is in a type, in short: how many cells and bytes an element has. -/
inductive RT where
  | bool
  | int (k : IntKind)
  | str
  | slice (cells bytes : Nat) (e : RT)
  | struct (fs : List RT)

mutual
def RT.size : RT → Nat
  | .struct fs => RT.sizeL fs
  | .bool => 1
  | .int _ => 1
  | .str => 1
  | .slice _ _ _ => 1
def RT.sizeL : List RT → Nat
  | [] => 0
  | r :: rs => r.size + RT.sizeL rs
end

mutual
def rtB (P : Program) : RT → TypeId → Bool
  | .bool, t => match P.underlying t with | some .bool => true | _ => false
  | .int k, t => match P.underlying t with | some (.int k') => sameK k k' | _ => false
  | .str, t => match P.underlying t with | some .string => true | _ => false
  | .slice c b e, t => match P.underlying t with
    | some (.slice te) => Nat.beq (P.cellsOf te) c && (Nat.beq (P.bytesOf te) b && (Nat.blt 0 c && (Nat.beq e.size c && rtB P e te)))
    | _ => false
  | .struct fs, t => match P.underlying t with
    | some (.struct fl) => rtL P fs fl.toList 0 && Nat.beq (P.cellsOf t) (RT.sizeL fs)
    | _ => false
def rtL (P : Program) : List RT → List Field → Nat → Bool
  | [], [], _ => true
  | r :: rs, f :: fl, o => Nat.beq f.offset o && (Nat.beq (P.cellsOf f.type) r.size && (rtB P r f.type && rtL P rs fl (o + r.size)))
  | _, _, _ => false
end

mutual
/-- Data of a type. -/
def TyD : RT → List D → Prop
  | .bool, xs => ∃ b, xs = [.bool b]
  | .int k, xs => ∃ n, (Lit.int k n).wf = true ∧ xs = [.int k n]
  | .str, xs => ∃ s : ByteArray, s.size ≤ reachBytes ∧ xs = [.str s]
  | .slice c b e, xs => ∃ l : List (List D), l.length * b ≤ reachBytes ∧ l.length ≤ maxLen ∧ xs = [.slice c l] ∧ ∀ x ∈ l, TyD e x
  | .struct fs, xs => TyF fs xs
def TyF : List RT → List D → Prop
  | [], xs => xs = []
  | r :: rs, xs => ∃ a b, xs = a ++ b ∧ TyD r a ∧ TyF rs b
end

section
variable {H : Type} {enc : TypeId × Value → H} {P : Program} {w : World}

theorem cells?_spec {base : Nat} {a : Addr} {n : Nat} {vs : List Value} (h : w.cells? base a n = some vs) : vs.length = n ∧ ∀ j, j < n → ∃ v, vs[j]? = some v ∧ w.cell? (a.add j) = some v := by
  unfold World.cells? at h
  split at h
  · have key : ∀ (l : List Nat) (vs : List Value), (l.mapM fun i => w.cell? (a.add i)) = some vs → vs.length = l.length ∧ ∀ (j i : Nat), l[j]? = some i → ∃ v, vs[j]? = some v ∧ w.cell? (a.add i) = some v := by
      intro l
      induction l with
      | nil => intro vs h; simp at h; subst h; exact ⟨rfl, fun j i hj => by simp at hj⟩
      | cons x l ih =>
        intro vs h
        rw [List.mapM_cons] at h
        cases hx : w.cell? (a.add x) with
        | none => simp [hx] at h
        | some v =>
          cases hl : (l.mapM fun i => w.cell? (a.add i)) with
          | none => simp [hx, hl] at h
          | some us =>
            simp [hx, hl] at h
            subst h
            obtain ⟨h1, h2⟩ := ih us hl
            refine ⟨by simp [h1], fun j i hj => ?_⟩
            cases j with
            | zero => simp at hj; subst hj; exact ⟨v, rfl, hx⟩
            | succ j => simpa using h2 j i (by simpa using hj)
    obtain ⟨h1, h2⟩ := key _ _ h
    exact ⟨by simpa using h1, fun j hj => h2 j j (by simp [hj])⟩
  · cases h

theorem cell?_addr {a : Addr} {v : Value} (h : w.cell? a = some v) : a.spot = none ∧ a.block < w.heap.size := by
  unfold World.cell? at h
  split at h
  · rename_i hb
    split at h
    · cases h
    · rename_i hs
      exact ⟨by simpa using hs, (Array.getElem?_eq_some_iff.1 hb).1⟩
  · cases h

theorem addr_00 (a : Addr) : (a.add 0).add 0 = a := by simp [Go.Addr.add]

/-- Cells as data. -/
def RepL (w : World) (cs : List Value) (xs : List D) : Prop := cs.length = xs.length ∧ ∀ (j : Nat) (u : Value), cs[j]? = some u → ∃ x, xs[j]? = some x ∧ RepC (fun _ => False) w u x

theorem RepL.append {cs cs' : List Value} {xs xs' : List D} (h : RepL w cs xs) (h' : RepL w cs' xs') : RepL w (cs ++ cs') (xs ++ xs') := by
  obtain ⟨h1, h2⟩ := h
  obtain ⟨g1, g2⟩ := h'
  refine ⟨by simp [h1, g1], fun j u hj => ?_⟩
  by_cases hlt : j < cs.length
  · rw [List.getElem?_append_left hlt] at hj
    obtain ⟨x, e1, e2⟩ := h2 j u hj
    exact ⟨x, by rw [List.getElem?_append_left (by omega)]; exact e1, e2⟩
  · rw [List.getElem?_append_right (by omega)] at hj
    obtain ⟨x, e1, e2⟩ := g2 _ u hj
    exact ⟨x, by rw [List.getElem?_append_right (by omega), ← h1]; exact e1, e2⟩

theorem weightsAll_mem {e : TypeId} : ∀ {l : List (DataW H)} {d : DataW H}, d ∈ l → ∀ n ∈ d.weights P e, n ∈ DataW.weightsAll P e l
  | [], _, h, _, _ => by simp at h
  | x :: l, d, h, n, hn => by
    simp only [DataW.weightsAll, List.mem_append]
    rcases List.mem_cons.1 h with rfl | h
    · exact .inl hn
    · exact .inr (weightsAll_mem h n hn)

mutual
theorem open_rt : ∀ (r : RT) (t : TypeId) (fuel : Nat) (cs : List Value) (x : DataW H × List MemPlace), rtB P r t = true → DataW.trod enc P w 0 (fun _ => true) true fuel t cs = some x → (∀ n ∈ x.1.weights P t, n ≤ reachBytes) →
    ∃ xs, TyD r xs ∧ RepL w cs xs
  | .bool, t, fuel, cs, x, hb, h, _ => by
    have ht : P.underlying t = some .bool := by
      unfold rtB at hb; split at hb <;> first | assumption | cases hb
    obtain ⟨b, rfl, rfl⟩ := DataW.trod_bool ht h
    refine ⟨[.bool b], ⟨b, rfl⟩, rfl, fun j u hj => ?_⟩
    cases j with
    | zero => simp at hj; subst hj; exact ⟨_, rfl, .bool⟩
    | succ j => simp at hj
  | .int k, t, fuel, cs, x, hb, h, _ => by
    have ht : P.underlying t = some (.int k) := by
      unfold rtB at hb
      split at hb
      · rename_i k' hk; rw [hk, sameK_spec hb]
      · cases hb
    obtain ⟨n, rfl, rfl, hw⟩ := DataW.trod_int ht h
    refine ⟨[.int k n], ⟨n, hw, rfl⟩, rfl, fun j u hj => ?_⟩
    cases j with
    | zero => simp at hj; subst hj; exact ⟨_, rfl, .int hw⟩
    | succ j => simp at hj
  | .str, t, fuel, cs, x, hb, h, hw => by
    have ht : P.underlying t = some .string := by
      unfold rtB at hb; split at hb <;> first | assumption | cases hb
    obtain ⟨s, rfl, rfl, hs⟩ := DataW.trod_string ht h
    have hr : s.size ≤ reachBytes := by
      have := hw s.data.toList.length (by simp [DataW.weights])
      simpa using this
    refine ⟨[.str s], ⟨s, hr, rfl⟩, rfl, fun j u hj => ?_⟩
    cases j with
    | zero => simp at hj; subst hj; exact ⟨_, rfl, .str hs⟩
    | succ j => simp at hj
  | .slice c b e, t, fuel, cs, x, hb, h, hw => by
    obtain ⟨te, ht, hc, hby, hpos, hes, hre⟩ : ∃ te, P.underlying t = some (.slice te) ∧ P.cellsOf te = c ∧ P.bytesOf te = b ∧ 0 < c ∧ e.size = c ∧ rtB P e te = true := by
      unfold rtB at hb
      split at hb
      · rename_i te ht
        simp only [Bool.and_eq_true] at hb
        exact ⟨te, ht, Nat.eq_of_beq_eq_true hb.1, Nat.eq_of_beq_eq_true hb.2.1, Nat.le_of_ble_eq_true hb.2.2.1, Nat.eq_of_beq_eq_true hb.2.2.2.1, hb.2.2.2.2⟩
      · cases hb
    rcases DataW.trod_slice ht h with ⟨rfl, rfl⟩ | ⟨a, len, cap, elems, rest, n, _, rfl, rfl, _, hlc, hcm, hlen, hel, hsp, _⟩
    · refine ⟨[.slice c []], ⟨[], by simp, by simp, rfl, by simp⟩, rfl, fun j u hj => ?_⟩
      cases j with
      | zero => simp at hj; subst hj; exact ⟨_, rfl, .nil⟩
      | succ j => simp at hj
    · obtain ⟨hrl, hrest⟩ := hsp rfl
      have hcell0 : ∀ i, i < cap → ∃ ci y, w.cells? 0 (a.add (i * c)) c = some ci ∧ DataW.trod enc P w 0 (fun _ => true) true n te ci = some y ∧ (∀ hi : i < len, elems[i]? = some y) := by
        intro i hi
        by_cases hil : i < len
        · have h1 := hel i hil
          have h2 : elems[i]? = some (elems[i]'(by omega)) := List.getElem?_eq_getElem (by omega)
          rw [hc, h2, Option.bind_eq_some_iff] at h1
          obtain ⟨ci, g1, g2⟩ := h1
          exact ⟨ci, _, g1, g2, fun _ => h2⟩
        · have h1 := hrest (i - len) (by omega)
          have h2 : rest[i - len]? = some (rest[i - len]'(by omega)) := List.getElem?_eq_getElem (by omega)
          rw [show len + (i - len) = i by omega, hc, h2, Option.bind_eq_some_iff] at h1
          obtain ⟨ci, g1, g2⟩ := h1
          exact ⟨ci, _, g1, g2, fun h => absurd h hil⟩
      have hlist : ∀ m, m ≤ len → ∃ l : List (List D), l.length = m ∧ (∀ x ∈ l, TyD e x) ∧ ∀ i (hi : i < m), ∃ ci xi, w.cells? 0 (a.add (i * c)) c = some ci ∧ l[i]? = some xi ∧ RepL w ci xi := by
        intro m
        induction m with
        | zero => intro _; exact ⟨[], rfl, by simp, fun i hi => by omega⟩
        | succ m ih =>
          intro hm
          obtain ⟨l, l1, l2, l3⟩ := ih (by omega)
          obtain ⟨ci, y, g1, g2, g3⟩ := hcell0 m (by omega)
          have hy := g3 (by omega)
          have hmem : y.1 ∈ elems.map (·.1) := List.mem_map.2 ⟨y, List.mem_of_getElem? hy, rfl⟩
          obtain ⟨xi, t1, t2⟩ := open_rt e te n ci y hre g2 fun k hk => hw k (by
            simp only [DataW.weights, ht, List.mem_cons, List.mem_append]
            exact .inr (.inl (weightsAll_mem hmem k hk)))
          refine ⟨l ++ [xi], by simp [l1], fun x hx => ?_, fun i hi => ?_⟩
          · rcases List.mem_append.1 hx with hx | hx
            · exact l2 x hx
            · simp at hx; subst hx; exact t1
          · by_cases him : i < m
            · obtain ⟨ci', xi', q1, q2, q3⟩ := l3 i him
              exact ⟨ci', xi', q1, by rw [List.getElem?_append_left (by omega)]; exact q2, q3⟩
            · have : i = m := by omega
              subst this
              exact ⟨ci, xi, g1, by rw [List.getElem?_append_right (by omega), l1]; simp, t2⟩
      obtain ⟨l, l1, l2, l3⟩ := hlist len (Nat.le_refl _)
      have hwt : l.length * b ≤ reachBytes := by
        have := hw ((elems.length + rest.length) * P.bytesOf te) (by
          simp only [DataW.weights, ht, List.length_map, List.mem_cons, true_or])
        rw [hby] at this
        refine Nat.le_trans (Nat.mul_le_mul_right b ?_) this
        omega
      refine ⟨[.slice c l], ⟨l, hwt, by omega, rfl, l2⟩, rfl, fun j u hj => ?_⟩
      cases j with
      | succ j => simp at hj
      | zero =>
        simp at hj
        subst hj
        refine ⟨_, rfl, ?_⟩
        by_cases hcap : cap = 0
        · have h0 : len = 0 := by omega
          subst hcap; subst h0
          have : l = [] := List.eq_nil_of_length_eq_zero l1
          subst this
          exact .zero
        · obtain ⟨c0, y0, g1, _, _⟩ := hcell0 0 (by omega)
          obtain ⟨v0, _, hv0⟩ := (cells?_spec g1).2 0 hpos
          rw [Nat.zero_mul, addr_00] at hv0
          obtain ⟨s5, s2⟩ := cell?_addr hv0
          obtain ⟨ab, ao, asp⟩ := a
          simp only at s5 s2
          subst s5
          have hl3 : ∀ i (hi : i < l.length), (l[i]'hi).length = c ∧ ∀ j (hj : j < (l[i]'hi).length), ∃ v, w.cell? ⟨ab, ao + i * c + j, none⟩ = some v ∧ RepC (fun _ => False) w v ((l[i]'hi)[j]'hj) := by
            intro i hi
            obtain ⟨ci, xi, q1, q2, q3, q4⟩ := l3 i (by omega)
            have hxi : l[i]'hi = xi := by rw [List.getElem?_eq_getElem hi] at q2; exact Option.some.inj q2
            subst hxi
            obtain ⟨r1, r2⟩ := cells?_spec q1
            refine ⟨by omega, fun j hj => ?_⟩
            obtain ⟨v, v1, v2⟩ := r2 j (by omega)
            obtain ⟨xx, x1, x2⟩ := q4 j v v1
            rw [Addr.add_at, Addr.add_at] at v2
            have hxx : (l[i]'hi)[j]'hj = xx := by rw [List.getElem?_eq_getElem hj] at x1; exact Option.some.inj x1
            exact ⟨v, v2, hxx ▸ x2⟩
          refine .slice (fun i j => (w.cell? ⟨ab, ao + i * c + j, none⟩).getD undef) l1.symm hlc hcm (fun h => h) s2 (fun i hi => (hl3 i hi).1) (fun i hi j hj => ?_) (fun i hi j hj => ?_)
          · obtain ⟨v, v1, _⟩ := (hl3 i hi).2 j hj
            rw [v1]; rfl
          · obtain ⟨v, v1, v2⟩ := (hl3 i hi).2 j hj
            rw [v1]; exact v2
  | .struct fs, t, fuel, cs, x, hb, h, hw => by
    obtain ⟨fl, ht, hf, hc⟩ : ∃ fl, P.underlying t = some (.struct fl) ∧ rtL P fs fl.toList 0 = true ∧ P.cellsOf t = RT.sizeL fs := by
      unfold rtB at hb
      split at hb
      · rename_i fl ht
        simp only [Bool.and_eq_true] at hb
        exact ⟨fl, ht, hb.1, Nat.eq_of_beq_eq_true hb.2⟩
      · cases hb
    obtain ⟨xs, n, _, rfl, hcl, hxl, hx⟩ := DataW.trod_struct ht h
    obtain ⟨ys, y1, y2⟩ := open_rts fs fl.toList 0 n cs xs hf (fun i f hi => hx i f (by simpa using hi)) (by simpa using hxl) (by rw [hcl, hc]; omega) (fun k hk => hw k (by
      simp only [DataW.weights, ht]; exact hk))
    exact ⟨ys, y1, by simpa using y2⟩
theorem open_rts : ∀ (rs : List RT) (fl : List Field) (o n : Nat) (cs : List Value) (xs : List (DataW H × List MemPlace)), rtL P rs fl o = true →
    (∀ (i : Nat) (f : Field), fl[i]? = some f → DataW.trod enc P w 0 (fun _ => true) true n f.type ((cs.drop f.offset).take (P.cellsOf f.type)) = xs[i]?) → xs.length = fl.length → cs.length = o + RT.sizeL rs →
    (∀ k ∈ DataW.weightsEach P (fl.map (·.type)) (xs.map (·.1)), k ≤ reachBytes) → ∃ ys, TyF rs ys ∧ RepL w (cs.drop o) ys
  | [], fl, o, n, cs, xs, hb, _, _, hl, _ => by
    refine ⟨[], rfl, ?_, fun j u hj => ?_⟩
    · simp [RT.sizeL] at hl ⊢; omega
    · rw [List.drop_eq_nil_of_le (by simp [RT.sizeL] at hl; omega)] at hj; simp at hj
  | r :: rs, [], o, n, cs, xs, hb, _, _, _, _ => by simp [rtL] at hb
  | r :: rs, f :: fl, o, n, cs, xs, hb, hx, hxl, hl, hw => by
    simp only [rtL, Bool.and_eq_true] at hb
    obtain ⟨b1, b2, b3, b4⟩ := hb
    have b1 := Nat.eq_of_beq_eq_true b1
    have b2 := Nat.eq_of_beq_eq_true b2
    cases xs with
    | nil => simp at hxl
    | cons y ys =>
      have h0 := hx 0 f rfl
      simp only [List.getElem?_cons_zero] at h0
      rw [b1, b2] at h0
      simp only [RT.sizeL] at hl
      obtain ⟨az, a1, a2⟩ := open_rt r f.type n _ y b3 h0 fun k hk => hw k (by
        simp only [List.map_cons, DataW.weightsEach, List.mem_append]
        exact .inl hk)
      obtain ⟨bs, c1, c2⟩ := open_rts rs fl (o + r.size) n cs ys b4 (fun i g hi => by simpa using hx (i + 1) g (by simpa using hi)) (by simpa using hxl) (by omega) (fun k hk => hw k (by
        simp only [List.map_cons, DataW.weightsEach, List.mem_append]
        exact .inr hk))
      refine ⟨az ++ bs, ⟨az, bs, rfl, a1, c1⟩, ?_⟩
      have := a2.append c2
      have hd : (cs.drop o).take r.size ++ cs.drop (o + r.size) = cs.drop o := by
        rw [← List.drop_drop]
        exact List.take_append_drop _ _
      rw [hd] at this
      exact this
end
end
end Go.Proofs.Ytapciiffpnociaa
