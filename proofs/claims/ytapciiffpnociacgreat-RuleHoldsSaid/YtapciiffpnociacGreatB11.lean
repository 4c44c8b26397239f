/- Several texts in one: ScoD ScoF WirA WirB WirC RelP RelA GxTail GxOrd RelO GxNil StrA. Condition: none. -/
import Derived.Test.YtapciiffpnociacGreatB10
import Derived.Test.YtapciiffpnociacGreatB09
import Derived.Test.YtapciiffpnociacGreatB08
import Derived.Sort.Statements
import Derived.Shelf.SlSortCmp.Insertion
import Derived.Lib.SliceRun

/- scope's rule and Check. Condition: none. -/
namespace Go.Proofs.YtapciiffpnociacGreat
open Go Go.RowKit
attribute [local irreducible] DW DS DL DQ Ev FnOk FnP thenD inBlockD DT
theorem firstL_zero {α : Type} {f : α → Int} : ∀ {l : List α}, firstL f l = 0 → ∀ x ∈ l, f x = 0
  | [], _, x, hx => by simp at hx
  | y :: l, h, x, hx => by
    unfold firstL at h
    split at h
    · rename_i hn; exact absurd h hn
    · rename_i hn
      rcases List.mem_cons.1 hx with rfl | hx
      · exact Decidable.not_not.1 hn
      · exact firstL_zero h x hx
theorem termE_ok {vars : Int} {t : Trm} (h0 : 0 ≤ vars) (h : termE vars t = 0) : okT vars.toNat t := by
  unfold termE at h
  split at h
  · cases h
  · rename_i hn
    rw [Bool.not_eq_false] at hn
    have := inR_spec hn
    unfold okT
    omega
theorem litE_ok {ar : List Int} {vars : Int} {l : Ltl} (h0 : 0 ≤ vars) (h : litE ar vars l = 0) : (∀ t ∈ l.terms, okT vars.toNat t) ∧ (l.kind = 4 → l.terms.length = 3) := by
  have ht : termsE vars l.terms = 0 → ∀ t ∈ l.terms, okT vars.toNat t := fun h t ht => termE_ok h0 (firstL_zero h t ht)
  unfold litE at h
  split at h
  · cases h
  split at h
  · cases h
  split at h
  · split at h
    · cases h
    split at h
    · cases h
    exact ⟨ht h, fun hk => by omega⟩
  · split at h
    · cases h
    exact ⟨ht h, fun hk => by omega⟩
theorem any_false (l : List Bool) : (l.any fun x => eqB x false) = !l.all id := by
  induction l with
  | nil => rfl
  | cons b l ih => rw [List.any_cons, List.all_cons, ih]; cases b <;> rfl
abbrev prgB (p : Prg) : HB := .blk 26 [.d (.slice 1 (p.arity.map encI)), .d (.slice 1 (p.names.map encT)), .d (.slice 5 (p.rules.map encRul))]
set_option maxHeartbeats 8000000 in
theorem rule_fn (p : Prg) (r : Rul) : Fn 123 [elPrg p, elRul r] (fun x => x = .d (.int .i64 (ruleE p.arity r))) := by
  refine fnp_enter' _ Tryz.func123 rfl rfl (by kernel_rfl) ?_
  intro O w0 E0 β0
  have la : (p.arity.map encI).length = p.arity.length := List.length_map _
  have lb : (r.terms.map encTrm).length = r.terms.length := List.length_map _
  have lc : (r.body.map encLtl).length = r.body.length := List.length_map _
  refine dw_lenA 0 0 rfl rfl (fun hk => ?_)
  refine dw_lenA 1 1 rfl rfl (fun hk2 => ?_)
  refine dw_lenA 1 3 rfl rfl (fun hk3 => ?_)
  have w1 := swithin_fn r.pred 0 (((p.arity.map encI).length : Int) - 1)
  have w2 := swithin_fn r.vars 0 8
  have w3 := swithin_fn r.fold 0 4
  unfold ruleE
  rw [← la, ← lb, ← lc]
  by_cases hp : inR r.pred 0 (((p.arity.map encI).length : Int) - 1) = true
  · have hp' := inR_spec hp
    have hA := arity_at (p := p) (n := r.pred) (by omega) (by omega)
    rw [hp] at w1 ⊢
    rw [if_neg (show ¬ (true = false) by decide), hA]
    by_cases hv : inR r.vars 0 8 = true
    · have hv' := inR_spec hv
      rw [hv] at w2 ⊢
      rw [if_neg (show ¬ (true = false) by decide)]
      have w4 := terms_fn r.terms r.vars hv'.1 hv'.2
      clear hv hp hA
      have w5 := fun l => lit_fn p l r.vars hv'.1 hv'.2
      generalize termsE r.vars r.terms = te at w4 ⊢
      generalize inR r.fold 0 4 = fo at w3 ⊢
      repeat' (first | (apply ds_evC; exact rfl; (first | (with_reducible exact trivial) | omega); (with_reducible exact rfl); exact rfl; exact rfl; exact rfl) | (apply ds_skip; exact rfl; exact rfl) | apply ds_nil | (apply dt_ev; exact rfl; exact rfl; (first | (with_reducible exact trivial) | omega); (first | ((with_reducible apply hv_row); (exact (Int.toNat_of_nonneg (by omega)).symm); (omega)) | (with_reducible exact rfl)); exact rfl; exact rfl; exact rfl; exact rfl) | (apply dt_nil0; exact rfl; exact rfl; exact rfl; exact rfl) | apply dw_seq2 | (apply ds_region; exact rfl) | (apply dw_any; kernel_rfl; kernel_rfl; exact rfl; exact rfl) | apply dw_block | apply dw_skip | apply dw_ret | (apply dw_condT; exact rfl) | (apply dw_condF; exact rfl) | apply thenD_n | apply thenD_r | apply inB_n | apply inB_r | (apply ds_call; exact rfl; exact rfl; apply w1; exact rfl; (exact rfl); exact rfl; rintro _ rfl) | (apply ds_call; exact rfl; exact rfl; apply w2; exact rfl; (exact rfl); exact rfl; rintro _ rfl) | (apply ds_call; exact rfl; exact rfl; apply w3; exact rfl; (exact rfl); exact rfl; rintro _ rfl) | (apply ds_call; exact rfl; exact rfl; apply w4; exact rfl; (exact rfl); exact rfl; rintro _ rfl) | (apply ds_newC; exact rfl; (with_reducible exact trivial); exact rfl; exact rfl; exact rfl) | (apply dw_condP; exact rfl; all_goals intro hg) | (apply dw_cond; exact rfl; all_goals intro hg) | ((fail_if_success (apply ds_known; exact rfl)); apply ds_guardP; exact rfl; exact rfl; exact rfl; all_goals intro hg))
      all_goals try (refine ret_i rfl ?_; (repeat' split) <;> (first | rfl | (exfalso; omega) | (exfalso; simp_all; done)))
      all_goals
        have hfin : ∀ e, firstL (litE p.arity r.vars) r.body = e → (if (((r.terms.map encTrm).length : Nat) : Int) ≠ p.arity[r.pred.toNat]'(by omega) then 1 else if te ≠ 0 then te else if fo = false then 7 else if r.fold ≠ 0 ∧ ((r.terms.map encTrm).length = 0 ∨ (r.body.map encLtl).length = 0) then 1 else if 4 < (r.body.map encLtl).length then 2 else if firstL (litE p.arity r.vars) r.body ≠ 0 then firstL (litE p.arity r.vars) r.body else if safeB r = false then 4 else 0) = if e ≠ 0 then e else if safeB r = false then 4 else 0 := by
          rintro e rfl
          (repeat' split) <;> (first | rfl | (exfalso; omega) | (exfalso; simp_all; done))
        generalize (if (((r.terms.map encTrm).length : Nat) : Int) ≠ p.arity[r.pred.toNat]'(by omega) then 1 else if te ≠ 0 then te else if fo = false then 7 else if r.fold ≠ 0 ∧ ((r.terms.map encTrm).length = 0 ∨ (r.body.map encLtl).length = 0) then 1 else if 4 < (r.body.map encLtl).length then 2 else if firstL (litE p.arity r.vars) r.body ≠ 0 then firstL (litE p.arity r.vars) r.body else if safeB r = false then 4 else 0) = res at hfin ⊢
        refine ds_loop (ι := Nat) (fun i => ⟨2, [(2, .loc 0 0), (3, .loc 1 0), (4, .d (.int .i64 0)), (69, .d (.slice 4 (r.body.map encLtl))), (70, .d (.int .i64 (r.body.map encLtl).length)), (71, .d (.int .i64 i))], [(0, prgB p), (1, ruleB r)]⟩)
          (fun i => i ≤ r.body.length ∧ firstL (litE p.arity r.vars) r.body = firstL (litE p.arity r.vars) (r.body.drop i)) (fun i => r.body.length - i) 0 ⟨Nat.zero_le _, rfl⟩ (ent_ren id ⟨rfl, rfl, rfl, rfl, rfl, rfl, trivial⟩ ⟨rfl, rfl, trivial⟩ rfl rfl rfl rfl rfl rfl) ?_
        rintro i ⟨g1, g2⟩
        by_cases hi : i < r.body.length
        · rw [firstL_step hi] at g2
          have w6 := w5 r.body[i]
          generalize litE p.arity r.vars r.body[i] = le at w6 g2
          repeat' (first | (apply ds_evC; exact rfl; (first | (with_reducible exact trivial) | omega); (first | ((with_reducible apply hv_row); (exact rfl); (omega)) | (with_reducible exact rfl)); exact rfl; exact rfl; exact rfl) | apply ds_nil | apply dw_seq2 | (apply ds_region; exact rfl) | apply dw_block | apply dw_skip | apply dw_exit | apply dw_ret | apply thenD_n | apply thenD_e | apply thenD_r | apply inB_n | apply inB_r | (apply inB_e; exact rfl) | (apply ds_call; exact rfl; exact rfl; apply w6; exact rfl; (exact rfl); exact rfl; rintro _ rfl) | (apply ds_newC; exact rfl; (with_reducible exact trivial); exact rfl; exact rfl; exact rfl) | (apply ds_setC; exact rfl; exact rfl; exact rfl; exact rfl) | (apply dw_condP; exact rfl; all_goals intro hg))
          all_goals first
            | (exfalso; omega)
            | (refine ret_i rfl ?_; rw [hfin le (by rw [g2, if_pos (by assumption)]), if_pos (by assumption)]; done)
            | exact ⟨i + 1, ⟨by omega, by rw [g2, if_neg (by assumption)]⟩, ent_ren id ⟨rfl, rfl, rfl, rfl, rfl, rfl, trivial⟩ ⟨rfl, rfl, trivial⟩ rfl rfl rfl rfl rfl rfl, by show r.body.length - (i + 1) < r.body.length - i; omega⟩
        · rw [firstL_end (by omega)] at g2
          have hall := firstL_zero g2
          have w7 := bound_fn r hv'.1 hv'.2 (fun l hl => (litE_ok hv'.1 (hall l hl)).1) (fun l hl => (litE_ok hv'.1 (hall l hl)).2)
          have w8 := containsB_fn false (boundL r)
          rw [any_false] at w8
          rw [hfin 0 g2, if_neg (by decide)]
          unfold safeB
          generalize (boundL r).all id = sb at w8 ⊢
          repeat' (first | (apply ds_evC; exact rfl; (first | (with_reducible exact trivial) | omega); (first | ((with_reducible apply hv_row); (exact rfl); (omega)) | (with_reducible exact rfl)); exact rfl; exact rfl; exact rfl) | apply ds_nil | apply dw_seq2 | (apply ds_region; exact rfl) | apply dw_block | apply dw_skip | apply dw_exit | apply dw_ret | apply thenD_n | apply thenD_e | apply thenD_r | (apply inB_e; exact rfl) | (apply ds_call; exact rfl; exact rfl; apply w7; exact rfl; (exact rfl); exact rfl; rintro _ rfl) | (apply ds_call; exact rfl; exact rfl; apply w8; exact rfl; (exact rfl); exact rfl; rintro _ rfl) | (apply ds_newC; exact rfl; (with_reducible exact trivial); exact rfl; exact rfl; exact rfl) | (apply ds_setC; exact rfl; exact rfl; exact rfl; exact rfl) | (apply dw_condP; exact rfl; all_goals intro hg) | (apply dw_cond; exact rfl; all_goals intro hg))
          all_goals first
            | (exfalso; omega)
            | (refine ret_i rfl ?_; simp_all; done)
    · rw [Bool.not_eq_true] at hv
      rw [hv] at w2 ⊢
      repeat' (first | (apply ds_evC; exact rfl; (first | (with_reducible exact trivial) | omega); (with_reducible exact rfl); exact rfl; exact rfl; exact rfl) | apply ds_nil | (apply dt_ev; exact rfl; exact rfl; (first | (with_reducible exact trivial) | omega); (first | ((with_reducible apply hv_row); (exact (Int.toNat_of_nonneg (by omega)).symm); (omega)) | (with_reducible exact rfl)); exact rfl; exact rfl; exact rfl; exact rfl) | (apply dt_nil0; exact rfl; exact rfl; exact rfl; exact rfl) | apply dw_seq2 | (apply ds_region; exact rfl) | (apply dw_any; kernel_rfl; kernel_rfl; exact rfl; exact rfl) | apply dw_block | apply dw_ret | (apply dw_condT; exact rfl) | (apply dw_condF; exact rfl) | apply thenD_n | apply thenD_r | apply inB_r | (apply ds_call; exact rfl; exact rfl; apply w1; exact rfl; (exact rfl); exact rfl; rintro _ rfl) | (apply ds_call; exact rfl; exact rfl; apply w2; exact rfl; (exact rfl); exact rfl; rintro _ rfl) | (apply ds_newC; exact rfl; (with_reducible exact trivial); exact rfl; exact rfl; exact rfl) | (apply dw_condP; exact rfl; all_goals intro hg))
      all_goals exact ret_i rfl (by simp_all)
  · rw [Bool.not_eq_true] at hp
    rw [hp] at w1 ⊢
    rw [if_pos rfl]
    repeat' (first | (apply ds_evC; exact rfl; (first | (with_reducible exact trivial) | omega); (with_reducible exact rfl); exact rfl; exact rfl; exact rfl) | apply ds_nil | apply dw_seq2 | (apply ds_region; exact rfl) | apply dw_block | apply dw_ret | (apply dw_condT; exact rfl) | apply thenD_n | apply thenD_r | apply inB_r | (apply ds_call; exact rfl; exact rfl; apply w1; exact rfl; (exact rfl); exact rfl; rintro _ rfl) | (apply ds_newC; exact rfl; (with_reducible exact trivial); exact rfl; exact rfl; exact rfl))
    all_goals exact ret_i rfl rfl
set_option maxHeartbeats 8000000 in
theorem check_fn (p : Prg) : Fn 85 [elPrg p] (fun x => x = .d (.int .i64 (progE nameS p))) := by
  refine fnp_enter' _ Tryz.func85 rfl rfl (by kernel_rfl) ?_
  intro O w0 E0 β0
  have la : (p.arity.map encI).length = p.arity.length := List.length_map _
  have lb : (p.names.map encT).length = p.names.length := List.length_map _
  have lc : (p.rules.map encRul).length = p.rules.length := List.length_map _
  refine dw_lenA 0 0 rfl rfl (fun hk => ?_)
  refine dw_lenA 0 2 rfl rfl (fun hk2 => ?_)
  unfold progE
  by_cases h1 : 10 < p.arity.length ∨ 12 < p.rules.length
  · rw [if_pos h1]
    repeat' (first | (apply ds_evC; exact rfl; (with_reducible exact trivial); (with_reducible exact rfl); exact rfl; exact rfl; exact rfl) | (apply ds_skip; exact rfl; exact rfl) | apply ds_nil | apply dw_seq2 | (apply ds_region; exact rfl) | apply dw_block | apply dw_skip | apply dw_ret | (apply dw_condT; exact rfl) | apply thenD_n | apply thenD_r | apply inB_n | apply inB_r | (apply ds_newC; exact rfl; (with_reducible exact trivial); exact rfl; exact rfl; exact rfl) | (apply dw_condP; exact rfl; all_goals intro hg) | ((fail_if_success (apply ds_known; exact rfl)); apply ds_guardP; exact rfl; exact rfl; exact rfl; all_goals intro hg))
    all_goals first
      | (exfalso; omega)
      | exact ret_i rfl rfl
  · rw [if_neg h1]
    by_cases h2 : p.names.length ≠ p.arity.length
    · rw [if_pos h2]
      repeat' (first | (apply ds_evC; exact rfl; (with_reducible exact trivial); (with_reducible exact rfl); exact rfl; exact rfl; exact rfl) | (apply ds_skip; exact rfl; exact rfl) | apply ds_nil | apply dw_seq2 | (apply ds_region; exact rfl) | apply dw_block | apply dw_skip | apply dw_ret | (apply dw_condT; exact rfl) | apply thenD_n | apply thenD_r | apply inB_n | apply inB_r | (apply ds_newC; exact rfl; (with_reducible exact trivial); exact rfl; exact rfl; exact rfl) | (apply dw_condP; exact rfl; all_goals intro hg) | ((fail_if_success (apply ds_known; exact rfl)); apply ds_guardP; exact rfl; exact rfl; exact rfl; all_goals intro hg))
      all_goals first
        | (exfalso; omega)
        | exact ret_i rfl rfl
    · rw [if_neg h2]
      have w1 := preds_fn p (by omega)
      generalize firstI (nameE nameS p) 0 p.names.length = ne at w1 ⊢
      repeat' (first | (apply ds_evC; exact rfl; (with_reducible exact trivial); (with_reducible exact rfl); exact rfl; exact rfl; exact rfl) | (apply ds_skip; exact rfl; exact rfl) | apply ds_nil | apply dw_seq2 | (apply ds_region; exact rfl) | apply dw_block | apply dw_skip | apply dw_ret | (apply dw_condT; exact rfl) | apply thenD_n | apply thenD_r | apply inB_n | apply inB_r | (apply ds_call; exact rfl; exact rfl; apply w1; exact rfl; (exact rfl); exact rfl; rintro _ rfl) | (apply ds_newC; exact rfl; (with_reducible exact trivial); exact rfl; exact rfl; exact rfl) | (apply dw_condP; exact rfl; all_goals intro hg) | ((fail_if_success (apply ds_known; exact rfl)); apply ds_guardP; exact rfl; exact rfl; exact rfl; all_goals intro hg))
      all_goals try (exfalso; omega)
      · exact ret_i rfl (by rw [if_pos hg])
      rw [if_neg hg]
      refine ds_loop (ι := Nat) (fun i => ⟨1, [(1, .loc 0 0), (2, .d (.int .i64 0)), (32, .d (.slice 5 (p.rules.map encRul))), (33, .d (.int .i64 (p.rules.map encRul).length)), (34, .d (.int .i64 i))], [(0, prgB p)]⟩)
        (fun i => i ≤ p.rules.length ∧ firstL (ruleE p.arity) p.rules = firstL (ruleE p.arity) (p.rules.drop i)) (fun i => p.rules.length - i) 0 ⟨Nat.zero_le _, rfl⟩ (ent_ren id ⟨rfl, rfl, rfl, rfl, rfl, trivial⟩ ⟨rfl, trivial⟩ rfl rfl rfl rfl rfl rfl) ?_
      rintro i ⟨g1, g2⟩
      by_cases hi : i < p.rules.length
      · rw [firstL_step hi] at g2
        have w6 := rule_fn p p.rules[i]
        generalize ruleE p.arity p.rules[i] = le at w6 g2
        repeat' (first | (apply ds_evC; exact rfl; (first | (with_reducible exact trivial) | omega); (first | ((with_reducible apply hv_row); (exact rfl); (omega)) | (with_reducible exact rfl)); exact rfl; exact rfl; exact rfl) | apply ds_nil | apply dw_seq2 | (apply ds_region; exact rfl) | apply dw_block | apply dw_skip | apply dw_exit | apply dw_ret | apply thenD_n | apply thenD_e | apply thenD_r | apply inB_n | apply inB_r | (apply inB_e; exact rfl) | (apply ds_call; exact rfl; exact rfl; apply w6; exact rfl; (exact rfl); exact rfl; rintro _ rfl) | (apply ds_newC; exact rfl; (with_reducible exact trivial); exact rfl; exact rfl; exact rfl) | (apply ds_setC; exact rfl; exact rfl; exact rfl; exact rfl) | (apply dw_condP; exact rfl; all_goals intro hg))
        all_goals first
          | (exfalso; omega)
          | (refine ret_i rfl ?_; rw [g2, if_pos (by assumption)]; done)
          | exact ⟨i + 1, ⟨by omega, by rw [g2, if_neg (by assumption)]⟩, ent_ren id ⟨rfl, rfl, rfl, rfl, rfl, trivial⟩ ⟨rfl, trivial⟩ rfl rfl rfl rfl rfl rfl, by show p.rules.length - (i + 1) < p.rules.length - i; omega⟩
      · rw [firstL_end (by omega)] at g2
        repeat' (first | (apply ds_evC; exact rfl; (first | (with_reducible exact trivial) | omega); (first | ((with_reducible apply hv_row); (exact rfl); (omega)) | (with_reducible exact rfl)); exact rfl; exact rfl; exact rfl) | apply ds_nil | apply dw_seq2 | (apply ds_region; exact rfl) | apply dw_block | apply dw_skip | apply dw_exit | apply dw_ret | apply thenD_n | apply thenD_e | (apply inB_e; exact rfl) | (apply ds_newC; exact rfl; (with_reducible exact trivial); exact rfl; exact rfl; exact rfl) | (apply ds_setC; exact rfl; exact rfl; exact rfl; exact rfl) | (apply dw_condP; exact rfl; all_goals intro hg))
        all_goals first
          | (exfalso; omega)
          | exact ret_i rfl g2.symm
end Go.Proofs.YtapciiffpnociacGreat

/- The document's small words on programs; its IsSafe. Condition: none. -/
namespace Go.Proofs.YtapciiffpnociacGreat
open Go Go.RowKit
attribute [local irreducible] DW DS DL DQ Ev FnOk FnP thenD inBlockD DT
theorem sbetween_fn (n a b : Int) : Fn 53 [.d (.int .i64 n), .d (.int .i64 a), .d (.int .i64 b)] (fun r => r = .d (.bool (inR n a b))) := between_fn n a b
set_option maxHeartbeats 8000000 in
theorem sisNumber_fn (n : Int) : Fn 15 [.d (.int .i64 n)] (fun r => r = .d (.bool (numB n))) := by
  refine fnp_enter' _ Tryz.func15 rfl rfl (by kernel_rfl) ?_
  intro O w0 E0 β0
  unfold numB
  repeat' (first | (apply ds_evC; exact rfl; (with_reducible exact trivial); (with_reducible exact rfl); exact rfl; exact rfl; exact rfl) | apply ds_nil | apply dw_seq2 | (apply ds_region; exact rfl) | apply dw_ret | apply thenD_n | (apply ds_call; exact rfl; exact rfl; apply sbetween_fn; exact rfl; (exact rfl); exact rfl; rintro _ rfl))
  exact ret_b rfl rfl
def nameR (s : ByteArray) : Bool := isTok 1 s && !wordB s
abbrev litB (l : Ltl) : HB := .blk 40 [.d (.int .i64 l.kind), .d (.int .i64 l.op), .d (.int .i64 l.pred), .d (.slice 2 (l.terms.map encTrm))]
end Go.Proofs.YtapciiffpnociacGreat

/- The program's orders of ids and facts; whether lists rise. Condition: none. -/
namespace Go.Proofs.YtapciiffpnociacGreat
open Go Go.RowKit
attribute [local irreducible] DW DS DL DQ Ev FnOk FnP thenD inBlockD DT
set_option maxHeartbeats 8000000 in
theorem isNaN_fnD (dr : Bool) (a : Int) : FnD dr 139 [.d (.int .i64 a)] (fun r => r = .d (.bool false)) := by
  refine fnp_enter' _ Tryz.func139 rfl rfl (by kernel_rfl) ?_
  intro O w0 E0 β0
  repeat' (first | (apply ds_evC; exact rfl; (with_reducible exact trivial); (with_reducible exact rfl); exact rfl; exact rfl; exact rfl) | apply ds_nil | apply dw_seq2 | (apply ds_region; exact rfl) | apply dw_ret | apply thenD_n)
  exact ret_b rfl (by simp)
set_option maxHeartbeats 8000000 in
theorem compare_fnD (dr : Bool) (a b : Int) : FnD dr 100 [.d (.int .i64 a), .d (.int .i64 b)] (fun r => r = .d (.int .i64 (cmpI a b))) := by
  refine fnp_enter' _ Tryz.func100 rfl rfl (by kernel_rfl) ?_
  intro O w0 E0 β0
  repeat' (first | (apply ds_evC; exact rfl; (with_reducible exact trivial); (with_reducible exact rfl); exact rfl; exact rfl; exact rfl) | apply ds_nil | apply dw_seq2 | (apply ds_region; exact rfl) | apply dw_skip | apply dw_ret | (apply dw_condF; exact rfl) | apply thenD_n | apply thenD_r | (apply ds_call; exact rfl; exact rfl; apply isNaN_fnD; exact rfl; (exact rfl); exact rfl; rintro _ rfl) | (apply dw_condP; exact rfl; all_goals intro hg))
  all_goals exact ret_i rfl (by unfold cmpI; simp [*])
def orL : List Int → Int
  | [] => 0
  | a :: l => if a = 0 then orL l else a
set_option maxHeartbeats 8000000 in
theorem or_fnD (dr : Bool) (l : List Int) : FnD dr 99 [.d (.slice 1 (l.map encI))] (fun r => r = .d (.int .i64 (orL l))) := by
  refine fnp_enter' _ Tryz.func99 rfl rfl (by kernel_rfl) ?_
  intro O w0 E0 β0
  refine dw_len_map (t := 0) rfl fun hb => ?_
  repeat' (first | (apply ds_evC; exact rfl; (with_reducible exact trivial); (with_reducible exact rfl); exact rfl; exact rfl; exact rfl) | apply ds_nil | apply dw_seq2 | (apply ds_region; exact rfl) | apply dw_block | apply thenD_n)
  refine ds_loop (ι := Nat) (fun i => ⟨0, [(3, .d (.int .i64 0)), (6, .d (.slice 1 (l.map encI))), (7, .d (.int .i64 l.length)), (8, .d (.int .i64 i))], []⟩)
    (fun i => i ≤ l.length ∧ orL l = orL (l.drop i)) (fun i => l.length - i) 0 ⟨Nat.zero_le _, rfl⟩
    (ent_ren id ⟨rfl, rfl, by simp; rfl, rfl, trivial⟩ trivial rfl rfl rfl rfl rfl rfl) ?_
  rintro i ⟨h1, h2⟩
  repeat' (first | (apply ds_evC; exact rfl; (with_reducible exact trivial); (with_reducible exact rfl); exact rfl; exact rfl; exact rfl) | apply ds_nil | apply dw_seq2 | (apply ds_region; exact rfl) | apply thenD_n)
  refine dw_condP rfl (fun h => ?_) (fun h => ?_)
  · have hi : i < l.length := by omega
    have hd := List.drop_eq_getElem_cons hi
    repeat' (first | (apply ds_evC; exact rfl; (first | (with_reducible exact trivial) | (simp only [List.length_map]; omega)); (first | ((with_reducible apply hv_row); (exact rfl); (rw [List.length_map]; omega)) | (with_reducible exact rfl)); exact rfl; exact rfl; exact rfl) | apply ds_nil | apply dw_seq2 | (apply ds_region; exact rfl) | apply dw_block | apply dw_skip | apply thenD_n)
    refine dw_condP rfl (fun hb => ?_) (fun hb => ?_)
    · repeat' (first | (apply ds_evC; exact rfl; (with_reducible exact trivial); (with_reducible exact rfl); exact rfl; exact rfl; exact rfl) | apply ds_nil | apply dw_seq2 | (apply ds_region; exact rfl) | apply dw_ret | apply thenD_n | apply thenD_r | apply inB_r)
      exact ret_i rfl (by rw [h2, hd, orL, if_neg hb])
    · repeat' (first | (apply ds_evC; exact rfl; (first | (with_reducible exact trivial) | omega); (with_reducible exact rfl); exact rfl; exact rfl; exact rfl) | apply ds_nil | (apply ds_region; exact rfl) | apply dw_skip | apply thenD_n | apply inB_n)
      exact ⟨i + 1, ⟨hi, by rw [h2, hd, orL, if_pos (Decidable.not_not.1 hb)]⟩, ent_ren id ⟨rfl, rfl, rfl, rfl, trivial⟩ trivial rfl rfl rfl rfl rfl rfl, by omega⟩
  · repeat' (first | (apply ds_evC; exact rfl; (with_reducible exact trivial); (with_reducible exact rfl); exact rfl; exact rfl; exact rfl) | apply ds_nil | apply dw_seq2 | (apply ds_region; exact rfl) | apply dw_exit | apply dw_ret | apply thenD_n | apply thenD_e | (apply inB_e; exact rfl))
    exact ret_i rfl (by rw [h2, List.drop_of_length_le (by omega)]; rfl)
theorem ordL_step {l m : List Int} {i : Nat} (h1 : i < l.length) (h2 : i < m.length) : ordL (l.drop i) (m.drop i) = if cmpI l[i] m[i] = 0 then ordL (l.drop (i + 1)) (m.drop (i + 1)) else cmpI l[i] m[i] := by
  rw [List.drop_eq_getElem_cons h1, List.drop_eq_getElem_cons h2, ordL]
theorem ordL_more {l m : List Int} {i : Nat} (h1 : i < l.length) (h2 : m.length ≤ i) : ordL (l.drop i) (m.drop i) = 1 := by
  rw [List.drop_eq_getElem_cons h1, List.drop_of_length_le h2]; unfold ordL; rfl
theorem ordL_less {l m : List Int} {i : Nat} (h1 : l.length ≤ i) (h2 : i < m.length) : ordL (l.drop i) (m.drop i) = -1 := by
  rw [List.drop_eq_getElem_cons h2, List.drop_of_length_le h1]; unfold ordL; rfl
theorem ordL_end {l m : List Int} {i : Nat} (h1 : l.length ≤ i) (h2 : m.length ≤ i) : ordL (l.drop i) (m.drop i) = 0 := by
  rw [List.drop_of_length_le h1, List.drop_of_length_le h2]; unfold ordL; rfl
set_option maxHeartbeats 8000000 in
theorem compareInts_fnD (dr : Bool) (l m : List Int) : FnD dr 88 [.d (.slice 1 (l.map encI)), .d (.slice 1 (m.map encI))] (fun r => r = .d (.int .i64 (ordL l m))) := by
  refine fnp_enter' _ Tryz.func88 rfl rfl (by kernel_rfl) ?_
  intro O w0 E0 β0
  refine dw_len_map (t := 0) rfl fun hb => ?_
  refine dw_len_map (t := 1) rfl fun hb2 => ?_
  repeat' (first | (apply ds_evC; exact rfl; (with_reducible exact trivial); (with_reducible exact rfl); exact rfl; exact rfl; exact rfl) | apply ds_nil | apply dw_seq2 | (apply ds_region; exact rfl) | apply dw_block | apply thenD_n)
  refine ds_loop (ι := Nat) (fun i => ⟨0, [(0, .d (.slice 1 (l.map encI))), (1, .d (.slice 1 (m.map encI))), (9, .d (.slice 1 (l.map encI))), (10, .d (.int .i64 l.length)), (11, .d (.int .i64 i))], []⟩)
    (fun i => i ≤ l.length ∧ i ≤ m.length ∧ ordL l m = ordL (l.drop i) (m.drop i)) (fun i => l.length - i) 0 ⟨Nat.zero_le _, Nat.zero_le _, rfl⟩
    (ent_ren id ⟨rfl, rfl, rfl, by simp; rfl, rfl, trivial⟩ trivial rfl rfl rfl rfl rfl rfl) ?_
  rintro i ⟨h1, h2, h3⟩
  repeat' (first | (apply ds_evC; exact rfl; (with_reducible exact trivial); (with_reducible exact rfl); exact rfl; exact rfl; exact rfl) | apply ds_nil | apply dw_seq2 | (apply ds_region; exact rfl) | apply thenD_n)
  refine dw_condP rfl (fun h => ?_) (fun h => ?_)
  · have hi : i < l.length := by omega
    repeat' (first | (apply ds_evC; exact rfl; (first | (with_reducible exact trivial) | (simp only [List.length_map]; omega)); (first | ((with_reducible apply hv_row); (exact rfl); (rw [List.length_map]; omega)) | (with_reducible exact rfl)); exact rfl; exact rfl; exact rfl) | apply ds_nil | apply dw_seq2 | (apply ds_region; exact rfl) | apply dw_block | apply dw_skip | apply thenD_n)
    refine dw_condP rfl (fun hb => ?_) (fun hb => ?_)
    · repeat' (first | (apply ds_evC; exact rfl; (with_reducible exact trivial); (with_reducible exact rfl); exact rfl; exact rfl; exact rfl) | apply ds_nil | apply dw_seq2 | (apply ds_region; exact rfl) | apply dw_ret | apply thenD_n | apply thenD_r | apply inB_r)
      exact ret_i rfl (by rw [h3, ordL_more hi (by rw [List.length_map] at hb; omega)])
    · have hm : i < m.length := by rw [List.length_map] at hb; omega
      have hs := ordL_step hi hm
      repeat' (first | (apply ds_evC; exact rfl; (first | (with_reducible exact trivial) | omega); (first | ((with_reducible apply hv_row); (exact rfl); (omega)) | (with_reducible exact rfl)); exact rfl; exact rfl; exact rfl) | apply ds_nil | apply dw_seq2 | (apply ds_region; exact rfl) | apply dw_skip | apply thenD_n | (apply ds_call; exact rfl; exact rfl; apply compare_fnD; exact rfl; (exact rfl); exact rfl; rintro _ rfl))
      refine dw_condP rfl (fun hc => ?_) (fun hc => ?_)
      · repeat' (first | (apply ds_evC; exact rfl; (with_reducible exact trivial); (with_reducible exact rfl); exact rfl; exact rfl; exact rfl) | apply ds_nil | apply dw_seq2 | (apply ds_region; exact rfl) | apply dw_ret | apply thenD_n | apply thenD_r | apply inB_r)
        exact ret_i rfl (by rw [h3, hs, if_neg hc])
      · repeat' (first | (apply ds_evC; exact rfl; (first | (with_reducible exact trivial) | omega); (with_reducible exact rfl); exact rfl; exact rfl; exact rfl) | apply ds_nil | (apply ds_region; exact rfl) | apply dw_skip | apply thenD_n | apply inB_n)
        exact ⟨i + 1, ⟨hi, hm, by rw [h3, hs, if_pos (Decidable.not_not.1 hc)]⟩, ent_ren id ⟨rfl, rfl, rfl, rfl, rfl, trivial⟩ trivial rfl rfl rfl rfl rfl rfl, by omega⟩
  · repeat' (first | (apply ds_evC; exact rfl; (with_reducible exact trivial); (with_reducible exact rfl); exact rfl; exact rfl; exact rfl) | apply ds_nil | apply dw_seq2 | (apply ds_region; exact rfl) | apply dw_exit | apply thenD_n | apply thenD_e | (apply inB_e; exact rfl))
    refine dw_condP rfl (fun hb => ?_) (fun hb => ?_)
    · repeat' (first | (apply ds_evC; exact rfl; (with_reducible exact trivial); (with_reducible exact rfl); exact rfl; exact rfl; exact rfl) | apply ds_nil | apply dw_seq2 | (apply ds_region; exact rfl) | apply dw_ret | apply thenD_n | apply thenD_r)
      exact ret_i rfl (by rw [h3, ordL_less (by omega) (by rw [List.length_map, List.length_map] at hb; omega)])
    · repeat' (first | (apply ds_evC; exact rfl; (with_reducible exact trivial); (with_reducible exact rfl); exact rfl; exact rfl; exact rfl) | apply ds_nil | apply dw_seq2 | (apply ds_region; exact rfl) | apply dw_skip | apply dw_ret | apply thenD_n)
      exact ret_i rfl (by rw [h3, ordL_end (by omega) (by rw [List.length_map, List.length_map] at hb; omega)])
theorem ordF_or (a b : Fct) : ordF a b = orL [cmpI a.pred b.pred, ordL a.args b.args] := by
  unfold ordF
  simp only [orL]
  split
  · split
    · assumption
    · rfl
  · rfl
set_option maxHeartbeats 8000000 in
theorem orderF_fnD (dr : Bool) (a b : Fct) : FnD dr 63 [elFct a, elFct b] (fun r => r = .d (.int .i64 (ordF a b))) := by
  refine fnp_enter' _ Tryz.func63 rfl rfl (by kernel_rfl) ?_
  intro O w0 E0 β0
  have ho := or_fnD dr [cmpI a.pred b.pred, ordL a.args b.args]
  repeat' (first | (apply ds_evC; exact rfl; (with_reducible exact trivial); (with_reducible exact rfl); exact rfl; exact rfl; exact rfl) | apply ds_nil | (apply dt_ev; exact rfl; exact rfl; (with_reducible exact trivial); (with_reducible exact rfl); exact rfl; exact rfl; exact rfl; exact rfl) | (apply dt_nil0; exact rfl; exact rfl; exact rfl; exact rfl) | apply dw_seq2 | (apply ds_region; exact rfl) | (apply dw_any; kernel_rfl; kernel_rfl; exact rfl; exact rfl) | apply dw_ret | apply thenD_n | (apply dt_call; exact rfl; exact rfl; apply compare_fnD; exact rfl; (exact rfl); exact rfl; exact rfl; exact ⟨_, rfl⟩; rintro _ rfl) | (apply dt_call; exact rfl; exact rfl; apply compareInts_fnD; exact rfl; (exact rfl); exact rfl; exact rfl; exact ⟨_, rfl⟩; rintro _ rfl) | (apply dt_call; exact rfl; exact rfl; apply ho; exact rfl; (exact rfl); exact rfl; exact rfl; exact ⟨_, rfl⟩; rintro _ rfl) | (apply ds_newC; exact rfl; (with_reducible exact trivial); exact rfl; exact rfl; exact rfl))
  exact ret_i rfl (ordF_or a b).symm
theorem orderF_fn (a b : Fct) : Fn 63 [elFct a, elFct b] (fun r => r = .d (.int .i64 (ordF a b))) := orderF_fnD false a b
end Go.Proofs.YtapciiffpnociacGreat

/- The program's Check of updates. Condition: none. -/
namespace Go.Proofs.YtapciiffpnociacGreat
open Go Go.RowKit
attribute [local irreducible] DW DS DL DQ Ev FnOk FnP thenD inBlockD DT
end Go.Proofs.YtapciiffpnociacGreat

/- The document's CheckUpdate; what is the same. Condition: none. -/
namespace Go.Proofs.YtapciiffpnociacGreat
open Go Go.RowKit
attribute [local irreducible] DW DS DL DQ Ev FnOk FnP thenD inBlockD DT
theorem fct_not {x y : Fct} {b : Bool} (h : decide (ordF x y ≠ 0) = !b) : Fct.same x y = b := by
  unfold Fct.same
  cases b <;> simpa using h
theorem ordL_lt {l m : List Int} {i : Nat} (h1 : i < l.length) (h2 : i < m.length) (h : l[i] < m[i]) : ordL (l.drop i) (m.drop i) = -1 := by
  have e : cmpI l[i] m[i] = -1 := by unfold cmpI; rw [if_pos h]
  rw [ordL_step h1 h2, e]; rfl
theorem ordL_gt {l m : List Int} {i : Nat} (h1 : i < l.length) (h2 : i < m.length) (h : m[i] < l[i]) : ordL (l.drop i) (m.drop i) = 1 := by
  have e : cmpI l[i] m[i] = 1 := by unfold cmpI; rw [if_neg (by omega), if_pos h]
  rw [ordL_step h1 h2, e]; rfl
theorem ordL_eq {l m : List Int} {i : Nat} (h1 : i < l.length) (h2 : i < m.length) (h : l[i] = m[i]) : ordL (l.drop i) (m.drop i) = ordL (l.drop (i + 1)) (m.drop (i + 1)) := by
  rw [ordL_step h1 h2, h, if_pos (cmpI_self _)]
theorem cmpI_eq (a b : Int) : (cmpI a b = 0) = (a = b) := by unfold cmpI; rw [eq_iff_iff]; split <;> (try split) <;> simp <;> omega
set_option maxHeartbeats 8000000 in
theorem orderOf_fn (a b : Fct) : Fn 42 [elFct a, elFct b] (fun r => r = .d (.int .i64 (ordF a b))) := by
  refine fnp_enter' _ Tryz.func42 rfl rfl (by kernel_rfl) ?_
  intro O w0 E0 β0
  repeat' (first | (apply ds_evC; exact rfl; (with_reducible exact trivial); (with_reducible exact rfl); exact rfl; exact rfl; exact rfl) | apply ds_nil | apply dw_seq2 | (apply ds_region; exact rfl) | apply thenD_n | (apply ds_newC; exact rfl; (with_reducible exact trivial); exact rfl; exact rfl; exact rfl))
  refine dw_condP rfl (fun hp => ?_) (fun hp => ?_)
  · repeat' (first | (apply ds_evC; exact rfl; (with_reducible exact trivial); (with_reducible exact rfl); exact rfl; exact rfl; exact rfl) | apply ds_nil | apply dw_seq2 | (apply ds_region; exact rfl) | apply dw_skip | apply dw_ret | apply thenD_n | apply thenD_r | (apply dw_condP; exact rfl; all_goals intro hg))
    all_goals exact ret_i rfl (by unfold ordF; rw [if_neg (by rw [cmpI_eq]; exact hp)]; unfold cmpI; repeat' split; all_goals first | rfl | omega)
  · have hF : ordF a b = ordL a.args b.args := by unfold ordF; rw [if_pos (by rw [cmpI_eq]; exact Decidable.not_not.1 hp)]
    repeat' (first | (apply ds_evC; exact rfl; (with_reducible exact trivial); (with_reducible exact rfl); exact rfl; exact rfl; exact rfl) | apply ds_nil | apply dw_seq2 | (apply ds_region; exact rfl) | apply dw_block | apply dw_skip | apply thenD_n)
    refine ds_loop (ι := Nat) (fun i => ⟨2, [(2, .loc 0 0), (3, .loc 1 0), (5, .d (.int .i64 i))], [(0, .blk 48 [.d (.int .i64 a.pred), .d (.slice 1 (a.args.map encI))]), (1, .blk 48 [.d (.int .i64 b.pred), .d (.slice 1 (b.args.map encI))])]⟩)
      (fun i => i ≤ a.args.length ∧ i ≤ b.args.length ∧ ordF a b = ordL (a.args.drop i) (b.args.drop i)) (fun i => a.args.length - i) 0 ⟨Nat.zero_le _, Nat.zero_le _, hF⟩
      (ent_ren id ⟨rfl, rfl, rfl, trivial⟩ ⟨rfl, rfl, trivial⟩ rfl rfl rfl rfl rfl rfl) ?_
    rintro i ⟨h1, h2, h3⟩
    refine dw_lenC 0 1 rfl rfl fun hb => ?_
    have la : (a.args.map encI).length = a.args.length := List.length_map _
    have lb : (b.args.map encI).length = b.args.length := List.length_map _
    repeat' (first | (apply ds_evC; exact rfl; (first | (with_reducible exact trivial) | omega); (with_reducible exact rfl); exact rfl; exact rfl; exact rfl) | (apply ds_skip; exact rfl; exact rfl) | apply ds_nil | (apply dt_ev; exact rfl; exact rfl; (first | (with_reducible exact trivial) | omega); (first | ((with_reducible apply hv_row); (exact rfl); (omega)) | (with_reducible exact rfl)); exact rfl; exact rfl; exact rfl; exact rfl) | (apply dt_nil0; exact rfl; exact rfl; exact rfl; exact rfl) | apply dw_seq2 | (apply ds_region; exact rfl) | (apply dw_any; kernel_rfl; kernel_rfl; exact rfl; exact rfl) | apply dw_block | apply dw_skip | apply dw_exit | apply dw_ret | (apply dw_condF; exact rfl) | apply thenD_n | apply thenD_e | apply thenD_r | apply inB_n | apply inB_r | (apply inB_e; exact rfl) | (apply dw_condP; exact rfl; all_goals intro hg) | ((fail_if_success (apply ds_known; exact rfl)); apply ds_guardP; exact rfl; exact rfl; exact rfl; all_goals intro hg))
    all_goals first
      | (refine ret_i rfl (Eq.trans ?_ h3.symm); refine (ordL_lt ?_ ?_ ?_).symm <;> first | assumption | omega)
      | (refine ret_i rfl (Eq.trans ?_ h3.symm); refine (ordL_gt ?_ ?_ ?_).symm <;> first | assumption | omega)
      | (refine ret_i rfl (Eq.trans ?_ h3.symm); refine (ordL_less ?_ ?_).symm <;> omega)
      | (refine ret_i rfl (Eq.trans ?_ h3.symm); refine (ordL_more ?_ ?_).symm <;> omega)
      | (refine ret_i rfl (Eq.trans ?_ h3.symm); refine (ordL_end ?_ ?_).symm <;> omega)
      | (refine ⟨i + 1, ⟨?_, ?_, h3.trans (ordL_eq ?_ ?_ ?_)⟩, ent_ren id ⟨rfl, rfl, rfl, trivial⟩ ⟨rfl, rfl, trivial⟩ rfl rfl rfl rfl rfl rfl, ?_⟩ <;> omega)
set_option maxHeartbeats 8000000 in
theorem sameFacts_fn (l m : List (Fct)) : Fn 28 [.d (.slice 2 (l.map encFct)), .d (.slice 2 (m.map encFct))] (fun r => r = .d (.bool (sameL Fct.same l m))) := by
  refine fnp_enter' _ Tryz.func28 rfl rfl (by kernel_rfl) ?_
  intro O w0 E0 β0
  refine dw_len_map (t := 0) rfl fun hb => ?_
  repeat' (first | (apply ds_evC; exact rfl; (with_reducible exact trivial); (with_reducible exact rfl); exact rfl; exact rfl; exact rfl) | apply ds_nil | apply dw_seq2 | (apply ds_region; exact rfl) | apply thenD_n)
  refine dw_condP rfl (fun h => ?_) (fun h => ?_)
  · have hne : l.length ≠ m.length := by rw [List.length_map, List.length_map] at h; omega
    repeat' (first | (apply ds_evC; exact rfl; (with_reducible exact trivial); (with_reducible exact rfl); exact rfl; exact rfl; exact rfl) | apply ds_nil | apply dw_seq2 | (apply ds_region; exact rfl) | apply dw_ret | apply thenD_n | apply thenD_r)
    exact ret_b rfl (sameL_len _ _ _ hne).symm
  · have hlen : l.length = m.length := by rw [List.length_map, List.length_map] at h; omega
    repeat' (first | (apply ds_evC; exact rfl; (with_reducible exact trivial); (with_reducible exact rfl); exact rfl; exact rfl; exact rfl) | apply ds_nil | apply dw_seq2 | (apply ds_region; exact rfl) | apply dw_block | apply dw_skip | apply thenD_n)
    refine ds_loop (ι := Nat) (fun i => ⟨0, [(0, .d (.slice 2 (l.map encFct))), (1, .d (.slice 2 (m.map encFct))), (5, .d (.int .i64 i))], []⟩)
      (fun i => i ≤ l.length ∧ sameL Fct.same l m = sameL Fct.same (l.drop i) (m.drop i)) (fun i => l.length - i) 0 ⟨Nat.zero_le _, rfl⟩
      (ent_ren id ⟨rfl, rfl, rfl, trivial⟩ trivial rfl rfl rfl rfl rfl rfl) ?_
    rintro i ⟨h1, h2⟩
    repeat' (first | (apply ds_evC; exact rfl; (with_reducible exact trivial); (with_reducible exact rfl); exact rfl; exact rfl; exact rfl) | apply ds_nil | apply dw_seq2 | (apply ds_region; exact rfl) | apply thenD_n)
    refine dw_condP rfl (fun h => ?_) (fun h => ?_)
    · have hi : i < l.length := by rw [List.length_map] at h; omega
      have hm : i < m.length := by omega
      have hd := sameL_drop Fct.same l m i hi hm
      repeat' (first | (apply dt_ev; exact rfl; exact rfl; (first | (with_reducible exact trivial) | omega); (first | ((with_reducible apply hv_row); (exact rfl); (omega)) | (with_reducible exact rfl)); exact rfl; exact rfl; exact rfl; exact rfl) | (apply dt_nil0; exact rfl; exact rfl; exact rfl; exact rfl) | apply dw_seq2 | (apply dw_any; kernel_rfl; kernel_rfl; exact rfl; exact rfl) | apply dw_block | apply dw_skip | apply thenD_n | (apply dt_call; exact rfl; exact rfl; apply orderOf_fn; exact rfl; (exact rfl); exact rfl; exact rfl; exact ⟨_, rfl⟩; rintro _ rfl))
      refine dw_cond rfl (fun hb => ?_) (fun hb => ?_)
      · have hp : Fct.same l[i] m[i] = false := by exact fct_not hb
        repeat' (first | (apply ds_evC; exact rfl; (with_reducible exact trivial); (with_reducible exact rfl); exact rfl; exact rfl; exact rfl) | apply ds_nil | apply dw_seq2 | (apply ds_region; exact rfl) | apply dw_ret | apply thenD_n | apply thenD_r | apply inB_r)
        exact ret_b rfl (by rw [h2, hd, hp]; rfl)
      · have hp : Fct.same l[i] m[i] = true := by exact fct_not hb
        repeat' (first | (apply ds_evC; exact rfl; (first | (with_reducible exact trivial) | omega); (with_reducible exact rfl); exact rfl; exact rfl; exact rfl) | apply ds_nil | (apply ds_region; exact rfl) | apply dw_skip | apply thenD_n | apply inB_n)
        exact ⟨i + 1, ⟨hi, by rw [h2, hd, hp]; rfl⟩, ent_ren id ⟨rfl, rfl, rfl, trivial⟩ trivial rfl rfl rfl rfl rfl rfl, by omega⟩
    · repeat' (first | (apply ds_evC; exact rfl; (with_reducible exact trivial); (with_reducible exact rfl); exact rfl; exact rfl; exact rfl) | apply ds_nil | apply dw_seq2 | (apply ds_region; exact rfl) | apply dw_exit | apply dw_ret | apply thenD_n | apply thenD_e | (apply inB_e; exact rfl))
      exact ret_b rfl (by rw [h2, sameL_end _ _ _ _ (by rw [List.length_map] at h; omega) (by rw [List.length_map] at h; omega)])
end Go.Proofs.YtapciiffpnociacGreat

/- Plain words on sets of facts: no program is in sight. Condition: none. -/
namespace Go.Proofs.YtapciiffpnociacGreat
def hasF (l : List Fct) (f : Fct) : Bool := l.any fun x => decide (ordF x f = 0)
def kFrom (l : List Fct) (f : Fct) : Nat → Nat
  | 0 => 0
  | n + 1 => match l[n]? with
    | some x => if 0 < ordF x f then kFrom l f n else n + 1
    | none => n + 1
def insF (l : List Fct) (f : Fct) : List Fct := if hasF l f then l else l.take (kFrom l f l.length) ++ f :: l.drop (kFrom l f l.length)
def setF' (l : List Fct) : List Fct := l.foldl insF []
theorem kFrom_succ {l : List Fct} {f : Fct} {n : Nat} (h : n < l.length) : kFrom l f (n + 1) = if 0 < ordF l[n] f then kFrom l f n else n + 1 := by
  rw [kFrom, List.getElem?_eq_getElem h]
theorem insF_len (l : List Fct) (f : Fct) : (insF l f).length ≤ l.length + 1 := by
  unfold insF
  split
  · omega
  · simp; omega
theorem setF_len : ∀ (l o : List Fct), (l.foldl insF o).length ≤ l.length + o.length
  | [], o => by simp
  | x :: l, o => by
    have := setF_len l (insF o x)
    have := insF_len o x
    rw [List.foldl_cons, List.length_cons]
    omega
end Go.Proofs.YtapciiffpnociacGreat

/- The document's HasFact and SetOf. Condition: none. -/
namespace Go.Proofs.YtapciiffpnociacGreat
open Go Go.RowKit
attribute [local irreducible] DW DS DL DQ Ev FnOk FnP thenD inBlockD DT
set_option maxHeartbeats 8000000 in
theorem hasFact_fn (l : List Fct) (f : Fct) : Fn 19 [.d (.slice 2 (l.map encFct)), elFct f] (fun r => r = .d (.bool (hasF l f))) := by
  refine fnp_enter' _ Tryz.func19 rfl rfl (by kernel_rfl) ?_
  intro O w0 E0 β0
  have la : (l.map encFct).length = l.length := List.length_map _
  refine dw_len (t := 0) rfl (fun hk => ?_)
  unfold hasF
  repeat' (first | (apply ds_evC; exact rfl; (with_reducible exact trivial); (with_reducible exact rfl); exact rfl; exact rfl; exact rfl) | apply ds_nil | apply dw_seq2 | (apply ds_region; exact rfl) | apply dw_block | apply thenD_n | (apply ds_newC; exact rfl; (with_reducible exact trivial); exact rfl; exact rfl; exact rfl))
  refine ds_loop (ι := Nat) (fun i => ⟨1, [(0, .d (.slice 2 (l.map encFct))), (3, .loc 0 0), (4, .d (.bool false)), (5, .d (.int .i64 i))], [(0, .blk 48 [.d (.int .i64 f.pred), .d (.slice 1 (f.args.map encI))])]⟩)
    (fun i => i ≤ l.length ∧ (l.any fun x => decide (ordF x f = 0)) = ((l.drop i).any fun x => decide (ordF x f = 0))) (fun i => l.length - i) 0 ⟨Nat.zero_le _, rfl⟩ (ent_ren id ⟨rfl, rfl, rfl, rfl, trivial⟩ ⟨rfl, trivial⟩ rfl rfl rfl rfl rfl rfl) ?_
  rintro i ⟨g1, g2⟩
  by_cases hi : i < l.length
  · have w := orderOf_fn l[i] f
    rw [List.drop_eq_getElem_cons hi, List.any_cons] at g2
    generalize ordF l[i] f = q at w g2
    repeat' (first | (apply ds_evC; exact rfl; (first | (with_reducible exact trivial) | omega); (with_reducible exact rfl); exact rfl; exact rfl; exact rfl) | apply ds_nil | (apply dt_ev; exact rfl; exact rfl; (first | (with_reducible exact trivial) | omega); (first | ((with_reducible apply hv_row); (exact rfl); (omega)) | (with_reducible exact rfl)); exact rfl; exact rfl; exact rfl; exact rfl) | (apply dt_nil0; exact rfl; exact rfl; exact rfl; exact rfl) | apply dw_seq2 | (apply ds_region; exact rfl) | (apply dw_any; kernel_rfl; kernel_rfl; exact rfl; exact rfl) | apply dw_block | apply dw_skip | apply dw_exit | apply dw_ret | apply thenD_n | apply thenD_e | apply thenD_r | apply inB_n | apply inB_r | (apply inB_e; exact rfl) | (apply dt_call; exact rfl; exact rfl; apply w; exact rfl; (exact rfl); exact rfl; exact rfl; exact ⟨_, rfl⟩; rintro _ rfl) | (apply dw_condP; exact rfl; all_goals intro hg))
    all_goals first
      | (exfalso; omega)
      | (refine ret_b rfl ?_; rw [g2]; simp_all; done)
      | exact ⟨i + 1, ⟨by omega, by rw [g2]; simp_all⟩, ent_ren id ⟨rfl, rfl, rfl, rfl, trivial⟩ ⟨rfl, trivial⟩ rfl rfl rfl rfl rfl rfl, by show l.length - (i + 1) < l.length - i; omega⟩
  · rw [List.drop_of_length_le (by omega)] at g2
    repeat' (first | (apply ds_evC; exact rfl; (with_reducible exact trivial); (with_reducible exact rfl); exact rfl; exact rfl; exact rfl) | apply ds_nil | (apply dt_ev; exact rfl; exact rfl; (first | (with_reducible exact trivial) | omega); (first | ((with_reducible apply hv_row); (exact rfl); (omega)) | (with_reducible exact rfl)); exact rfl; exact rfl; exact rfl; exact rfl) | apply dw_seq2 | (apply ds_region; exact rfl) | (apply dw_any; kernel_rfl; kernel_rfl; exact rfl; exact rfl) | apply dw_block | apply dw_skip | apply dw_exit | apply dw_ret | apply thenD_n | apply thenD_e | (apply inB_e; exact rfl) | (apply dw_condP; exact rfl; all_goals intro hg))
    all_goals first
      | (exfalso; omega)
      | exact ret_b rfl g2.symm
end Go.Proofs.YtapciiffpnociacGreat

/- A plain logic over the walk: regions that draw their order, whose last operations can go in one order alone. No program is named here. Condition: none. -/
namespace Go.Proofs.YtapciiffpnociacGreat
open Go Go.RowKit
section
variable {Γ : Ctx} {l : List Oper} {κ c : Nat}
def tailB (l : List Oper) (c : Nat) : Bool := (enumO 0 l).all fun q => Nat.blt q.1 c || (List.range q.1).all fun i => reachB l l.length q.1 i
theorem tailB_spec (h : tailB l c = true) {j i : Nat} {o : Oper} (hj : l[j]? = some o) (hc : c ≤ j) (hi : i < j) : reachB l l.length j i = true := by
  unfold tailB at h
  rw [List.all_eq_true] at h
  have h1 := h (j, o) ((enumO_mem l 0 (j, o)).2 ⟨Nat.zero_le _, by simpa using hj⟩)
  rw [Bool.or_eq_true] at h1
  rcases h1 with h1 | h1
  · have : j < c := Nat.le_of_ble_eq_true h1
    omega
  · exact List.all_eq_true.1 h1 i (List.mem_range.2 hi)
theorem enumO_app : ∀ (a b : List Oper) (n : Nat), enumO n (a ++ b) = enumO n a ++ enumO (n + a.length) b
  | [], b, n => rfl
  | o :: a, b, n => by
    rw [List.cons_append, enumO, enumO, enumO_app a b (n + 1), List.cons_append, List.length_cons, show n + 1 + a.length = n + (a.length + 1) by omega]
theorem down_spec (hdown : regDownB l = true) : ∀ j o, l[j]? = some o → ∀ e ∈ o.after, Region.binds .any e = true → e.on < j := by
  intro j o hj e he hb
  unfold regDownB at hdown
  rw [List.all_eq_true] at hdown
  have h1 := hdown (j, o) ((enumO_mem l 0 (j, o)).2 ⟨Nat.zero_le _, by simpa using hj⟩)
  rw [List.all_eq_true] at h1
  have h2 := h1 e (by simpa using he)
  simp only [hb, Bool.not_true, Bool.false_or] at h2
  exact Nat.le_of_ble_eq_true h2
theorem first_ready (hdown : regDownB l = true) {listed : Array Bool} {q : Nat × Oper} {rem' : List (Nat × Oper)} (g : Going l listed (q :: rem')) : q.1 ∈ Region.ready .any l.toArray listed := by
  obtain ⟨h1, h2⟩ := (g.left q).1 (List.mem_cons_self ..)
  refine mem_ready.2 ⟨h2, q.2, by simpa using h1, fun e' he hb => ?_⟩
  have hlt := down_spec hdown q.1 q.2 h1 e' he hb
  have hln : e'.on < listed.size := by rw [g.size]; have := lt_of_some h1; omega
  cases hx : listed.getD e'.on false with
  | true => rfl
  | false =>
    exfalso
    have hx' : listed.getD e'.on true = false := (getD_flip hln).trans hx
    have hlen' : e'.on < l.length := by rw [← g.size]; exact hln
    have hm := (g.left (e'.on, l[e'.on])).2 ⟨by simp [hlen'], hx'⟩
    rcases List.mem_cons.1 hm with h | h
    · have : e'.on = q.1 := by rw [← h]
      omega
    · have := (List.pairwise_cons.1 g.sorted).1 _ h
      simp at this
      omega
theorem tail_run (hdown : regDownB l = true) (hT : tailB l c = true) {Q : Exit → Act → World → Prop} : ∀ (m : Nat) (listed : Array Bool) (a : Act) (w : World), Going l listed (enumO (l.length - m) (l.drop (l.length - m))) → m ≤ l.length - c → wpList Γ.P l.toArray Q (l.drop (l.length - m)) a w → wpAny Γ.P .any l.toArray Q m listed a w
  | 0, listed, a, w, g, _, h => by
    have hn : l.drop (l.length - 0) = [] := List.drop_eq_nil_of_le (by omega)
    rw [hn] at g h
    refine ⟨?_, h⟩
    apply List.eq_nil_iff_forall_not_mem.2
    intro j hj
    obtain ⟨h1, o, ho, _⟩ := mem_ready.1 hj
    have := (g.left (j, o)).2 ⟨by simpa using ho, h1⟩
    simp [enumO] at this
  | m + 1, listed, a, w, g, hm, h => by
    have hj : l.length - (m + 1) < l.length := by omega
    have hd : l.drop (l.length - (m + 1)) = l[l.length - (m + 1)] :: l.drop (l.length - m) := by
      rw [List.drop_eq_getElem_cons hj]
      congr 2
      omega
    have hen : enumO (l.length - (m + 1)) (l.drop (l.length - (m + 1))) = (l.length - (m + 1), l[l.length - (m + 1)]) :: enumO (l.length - m) (l.drop (l.length - m)) := by
      rw [hd, enumO]
      congr 2
      omega
    rw [hen] at g
    rw [hd] at h
    generalize hJ : l.length - (m + 1) = J at *
    have hr := first_ready hdown g
    refine ⟨fun h0 => ?_, fun i hi => ?_⟩
    · rw [h0] at hr; simp at hr
    · obtain ⟨h1, o, ho, hall⟩ := mem_ready.1 hi
      have hio : l[i]? = some o := by simpa using ho
      have hij : i = J := by
        have hmem := (g.left (i, o)).2 ⟨hio, h1⟩
        rcases List.mem_cons.1 hmem with h | h
        · exact congrArg Prod.fst h
        · exfalso
          have hlt : J < i := by simpa using (List.pairwise_cons.1 g.sorted).1 _ h
          have := reach_done g l.length i o (tailB_spec hT hio (by omega) hlt) hio hall
          have h3 := ((g.left (J, l[J])).1 (List.mem_cons_self ..)).2
          have hJs : J < listed.size := by rw [g.size]; exact hj
          rw [getD_flip hJs] at h3
          rw [h3] at this
          cases this
      subst hij
      have g' := Going.rest (pre := []) (i := i) (o := l[i]) (post := enumO (l.length - m) (l.drop (l.length - m))) g hi rfl (by rw [List.getElem?_eq_getElem hj])
      unfold wpOp
      have hlk : l.toArray[i]? = some l[i] := by simp [hj]
      rw [hlk]
      unfold wpList at h
      split at h
      · rename_i hw
        simp only [hw, if_true]
        exact h.imp (fun h => Oper.wp_mono (fun a' w' hk => tail_run hdown hT m _ a' w' g' (by omega) hk) h) id
      · rename_i hw
        simp only [hw]
        exact tail_run hdown hT m _ _ w g' (by omega) h
theorem tail_sim (hB : regAnyB l = true) (hT : tailB l c = true) (hcl : c ≤ l.length) {K : FS → Prop} {Q : Exit → Act → World → Prop} (hQ : ∀ s e a w, K s → Rep Γ (lo (κ + c)) s e a w → wpList Γ.P l.toArray Q (l.drop c) a w) :
    ∀ (fuel : Nat) (listed : Array Bool) (a : Act) (w : World) (s : FS) (e : Env) (D : Nat → Prop) (rem : List (Nat × Oper)) (lg : Log), Going l listed (rem ++ enumO c (l.drop c)) → (∀ q ∈ rem, q.1 < c) → rem.length = fuel → Rep Γ D s e a w →
      (∀ x, D x → x < κ + c ∧ ∀ j, x = κ + j → listed.getD j false = true) → DR Γ l κ rem lg K s → wpAny Γ.P .any l.toArray Q (fuel + (l.length - c)) listed a w := by
  simp only [regAnyB, Bool.and_eq_true] at hB
  obtain ⟨hdown, hpair, hcall⟩ := hB
  intro fuel
  induction fuel with
  | zero =>
    intro listed a w s e D rem lg g hrc hlen hr hD hd
    have hrem : rem = [] := List.eq_nil_of_length_eq_zero hlen
    subst hrem
    rw [Nat.zero_add]
    have hcc : l.length - (l.length - c) = c := by omega
    refine tail_run hdown hT (l.length - c) listed a w (by rw [hcc]; exact g) (Nat.le_refl _) ?_
    rw [hcc]
    cases hd with
    | nil hk =>
      obtain ⟨L, H, m, hs⟩ := hr
      obtain ⟨e', m'⟩ := m.widenTo (k' := lo (κ + c)) fun x hx => (hD x hx).1
      exact hQ s e' a w hk ⟨L, H, m', hs⟩
  | succ fuel ih =>
    intro listed a w s e D rem lg g hrc hlen hr hD hd
    rw [show fuel + 1 + (l.length - c) = (fuel + (l.length - c)) + 1 by omega]
    obtain ⟨q0, rem0, hq0⟩ : ∃ q r, rem = q :: r := by
      cases rem with
      | nil => simp at hlen
      | cons q r => exact ⟨q, r, rfl⟩
    refine ⟨fun h0 => ?_, fun i hi => ?_⟩
    · exfalso
      have hg := g
      rw [hq0, List.cons_append] at hg
      have := first_ready hdown hg
      rw [h0] at this
      simp at this
    · obtain ⟨h1, o, ho, hall⟩ := mem_ready.1 hi
      have hio : l[i]? = some o := by simpa using ho
      have hic : i < c := by
        apply Classical.byContradiction
        intro hn
        have hq0c : q0.1 < c := hrc q0 (by rw [hq0]; exact List.mem_cons_self ..)
        have hrd := reach_done g l.length i o (tailB_spec hT hio (by omega) (show q0.1 < i by omega)) hio hall
        have h3 := (g.left q0).1 (List.mem_append_left _ (by rw [hq0]; exact List.mem_cons_self ..))
        have hs : q0.1 < listed.size := by rw [g.size]; exact lt_of_some h3.1
        have h4 := h3.2
        rw [getD_flip hs, hrd] at h4
        cases h4
      have hmem : (i, o) ∈ rem := by
        rcases List.mem_append.1 ((g.left (i, o)).2 ⟨hio, h1⟩) with h | h
        · exact h
        · exfalso
          have := ((enumO_mem _ _ _).1 h).1
          simp only at this
          omega
      obtain ⟨pre, post, hre⟩ := List.append_of_mem hmem
      have g0 := g
      rw [hre, List.append_assoc, List.cons_append] at g0
      have g' := g0.rest hi rfl hio
      rw [← List.append_assoc] at g'
      have hpull : DR Γ l κ ((i, o) :: (pre ++ post)) lg K s := by
        refine DR.pull pre lg s (fun q hq => ?_) (hre ▸ hd)
        have hqr : q ∈ rem ++ enumO c (l.drop c) := List.mem_append_left _ (by rw [hre]; exact List.mem_append_left _ hq)
        obtain ⟨hq1, hq2⟩ := (g.left q).1 hqr
        have hqi : q.1 < i := by
          have hs := g0.sorted
          rw [List.pairwise_append] at hs
          have := hs.2.2 q hq (i, o) (List.mem_cons_self ..)
          simpa using this
        have hqs : q.1 < listed.size := by rw [g.size]; exact lt_of_some hq1
        have hq2' : listed.getD q.1 false = false := (getD_flip hqs).symm.trans hq2
        have e0 : path2B l i q.1 = false := path2_false hio hall g.closed hq2'
        have e1 := path2_edge e0
        have e2 : edgeB l q.1 i = false := by
          cases hx : edgeB l q.1 i with
          | false => rfl
          | true =>
            obtain ⟨o', ho', e', he', hb', hon⟩ := edgeB_spec.1 hx
            have := down_spec hdown q.1 o' ho' e' he' hb'
            omega
        refine ⟨e0, e2, ?_, fun hcq => ?_⟩
        · unfold regPairB at hpair
          rw [List.all_eq_true] at hpair
          have p1 := hpair (i, o) ((enumO_mem l 0 (i, o)).2 ⟨Nat.zero_le _, by simpa using hio⟩)
          rw [List.all_eq_true] at p1
          have p2 := p1 q ((enumO_mem l 0 q).2 ⟨Nat.zero_le _, by simpa using hq1⟩)
          have hnb : Nat.ble i q.1 = false := by
            cases hb : Nat.ble i q.1 with
            | false => rfl
            | true => have := Nat.le_of_ble_eq_true hb; omega
          simp only [hnb, Bool.false_or, e1] at p2
          exact p2
        · cases hci : isCall o with
          | false => rfl
          | true =>
            have := calls_done g hcall hq1 hcq i o hio hci hqi hall
            rw [hq2'] at this
            cases this
      cases hpull with
      | cons cc S rd wr hm hl hne hn hk =>
        have hz : ¬ D (κ + i) := by
          intro hx
          have := (hD _ hx).2 i rfl
          have hin : i < listed.size := by rw [g.size]; exact lt_of_some hio
          rw [← getD_flip hin, h1] at this
          cases this
        refine Mv.sound hm hr ⟨κ + c, fun x hx => (hD x hx).1⟩ hz hio Q _ fun v u a' w' e' hv hr' => ?_
        refine ih (listed.setIfInBounds i true) a' w' _ e' _ (pre ++ post) _ g' (fun q hq => hrc q ?_) ?_ hr' (fun x hx => ?_) (hk v u hv)
        · rw [hre]; rcases List.mem_append.1 hq with h | h <;> simp [h]
        · rw [hre] at hlen
          simp only [List.length_append, List.length_cons] at hlen ⊢
          omega
        · have hin : i < listed.size := by rw [g.size]; exact lt_of_some hio
          rcases hx with hx | hx
          · refine ⟨(hD x hx).1, fun j hj => ?_⟩
            have := (hD x hx).2 j hj
            by_cases hij : i = j
            · subst hij; simp [hin]
            · rw [getD_set_ne false hij]; exact this
          · subst hx
            refine ⟨by omega, fun j hj => ?_⟩
            have : i = j := by omega
            subst this
            simp [hin]
theorem dw_tail {id k m : Nat} {L : Sl} {H : Hp} {Q : Post} (c : Nat) (hm : Γ.P.follows .mixedOrders = true) (hB : regAnyB l = true) (hT : tailB l c = true) (hcl : Nat.ble c l.length = true) (hnd : noDefer l = true) (hl : lenIs (l.take c) k m)
    (h : DT Γ l k (enumO 0 (l.take c)) [] (endK Γ m (fun k' L' H' => DS false Γ l (l.drop c) (Q .normal) k' L' H')) L H) : DW Γ (.region id l.toArray true) Q k L H := by
  have hcl := Nat.le_of_ble_eq_true hcl
  have hmc : k + c = m := by
    have := lenIs_spec (l.take c) k m hl
    rw [List.length_take] at this
    omega
  subst hmc
  intro e a w mm
  refine wpIn_mono (wpIn_region_any hm (wpAny_in (letsOut_lift (Γ := Γ) (K := Q .normal)) hnd _ _ _ _ ?_)) (lift_mono (fun ex k' L' H' (⟨h1, h2⟩ : onNormal (Q .normal) ex k' L' H') => h1 ▸ h2))
  have m0 := mm.below (w' := { w with drawn := w.drawn + 1 }) ((Beld.refl _ _ _).drew)
  have hsp : enumO 0 (l.take c) ++ enumO c (l.drop c) = enumO 0 l := by
    have := enumO_app (l.take c) (l.drop c) 0
    rw [List.take_append_drop, List.length_take, Nat.zero_add, Nat.min_eq_left hcl] at this
    exact this.symm
  have hg : Going l (Array.replicate l.length false) (enumO 0 l) := by
    refine ⟨by simp, fun j o hj hl => ?_, fun q => ?_, enumO_sorted l 0⟩
    · have hlt := lt_of_some hj
      simp [hlt] at hl
    · rw [enumO_mem l 0 q]
      simp only [Nat.zero_le, Nat.sub_zero, true_and]
      constructor
      · intro hq; exact ⟨hq, by have := lt_of_some hq; simp [this]⟩
      · exact fun h => h.1
  have hlenO : ∀ (l : List Oper) b, (enumO b l).length = l.length := by
    intro l
    induction l with
    | nil => intro b; rfl
    | cons o l ih => intro b; simp [enumO, ih]
  have hsize : l.toArray.size = c + (l.length - c) := by simp; omega
  rw [hsize]
  refine tail_sim hB hT hcl (K := endK Γ (k + c) (fun k' L' H' => DS false Γ l (l.drop c) (Q .normal) k' L' H')) (Q := lift Γ (onNormal (Q .normal))) (fun s e a w hk hr => ?_) c _ a _ (ofL L H) e (lo k) (enumO 0 (l.take c)) [] (by rw [hsp, ← hsize]; simpa using hg) (fun q hq => ?_) (by rw [hlenO, List.length_take]; omega) ⟨L, H, m0, rfl⟩ (fun x hx => ⟨Nat.lt_of_lt_of_le hx (Nat.le_add_right _ _), fun j hj => ?_⟩) h
  · obtain ⟨k', L', H', e', m', hq⟩ := hk e a w hr
    exact hq e' a w m'
  · have h2 := ((enumO_mem _ _ _).1 hq).2
    have := lt_of_some h2
    rw [List.length_take] at this
    omega
  · have : x < k := hx
    omega
theorem dw_stopT (id : Nat) {k : Nat} {L : Sl} {H : Hp} {ops : Array Oper} {b : Bool} {Q : Post} (h : DW Γ (.region id ops b) Q k L H) : DW Γ (.region id ops b) Q k L H := h
end
end Go.Proofs.YtapciiffpnociacGreat

/- A plain logic over the walk: regions that draw their order, gone through in an order that is told: first such as can go in many orders, then such as can go in one alone. No program is named here. Condition: none. -/
namespace Go.Proofs.YtapciiffpnociacGreat
open Go Go.RowKit
section
variable {Γ : Ctx} {l : List Oper} {κ : Nat}
structure GoO (l : List Oper) (listed : Array Bool) (rem : List (Nat × Oper)) : Prop where
  size : listed.size = l.length
  closed : ∀ j o, l[j]? = some o → listed.getD j false = true → ∀ e ∈ o.after, Region.binds .any e = true → listed.getD e.on false = true
  left : ∀ q, q ∈ rem ↔ l[q.1]? = some q.2 ∧ listed.getD q.1 true = false
  sorted : rem.Pairwise (fun p q => p.1 ≠ q.1 ∧ edgeB l p.1 q.1 = false)
theorem GoO.rest {listed : Array Bool} {rem pre post : List (Nat × Oper)} {i : Nat} {o : Oper} (g : GoO l listed rem) (hr : i ∈ Region.ready .any l.toArray listed) (he : rem = pre ++ (i, o) :: post) (hi : l[i]? = some o) : GoO l (listed.setIfInBounds i true) (pre ++ post) where
  size := by simp [g.size]
  closed j oj hj hl e he' hb := by
    have key : ∀ x, listed.getD x false = true → (listed.setIfInBounds i true).getD x false = true := by
      intro x hx
      by_cases hix : i = x
      · subst hix
        have : i < listed.size := by rw [g.size]; exact lt_of_some hi
        simp [this]
      · rw [getD_set_ne false hix]; exact hx
    by_cases hij : i = j
    · subst hij
      obtain ⟨_, o', ho', hall⟩ := mem_ready.1 hr
      have ho2 : l[i]? = some o' := by simpa using ho'
      rw [hj] at ho2
      cases ho2
      exact key _ (hall e he' hb)
    · rw [getD_set_ne false hij] at hl
      exact key _ (g.closed j oj hj hl e he' hb)
  left q := by
    have hs := g.sorted
    rw [he] at hs
    have hne : ∀ q ∈ pre ++ post, q.1 ≠ i := by
      intro q hq hqi
      rw [List.pairwise_append] at hs
      obtain ⟨_, h2, h3⟩ := hs
      rcases List.mem_append.1 hq with h | h
      · exact (h3 q h (i, o) (List.mem_cons_self ..)).1 hqi
      · exact ((List.pairwise_cons.1 h2).1 q h).1 hqi.symm
    constructor
    · intro hq
      have h1 : q ∈ rem := by rw [he]; rcases List.mem_append.1 hq with h | h <;> simp [h]
      obtain ⟨a, b⟩ := (g.left q).1 h1
      exact ⟨a, by rw [getD_set_ne true (Ne.symm (hne q hq))]; exact b⟩
    · rintro ⟨a, b⟩
      have hqi : i ≠ q.1 := by
        intro h
        have : i < listed.size := by rw [g.size]; exact lt_of_some hi
        rw [← h] at b
        simp [this] at b
      rw [getD_set_ne true hqi] at b
      have h1 := (g.left q).2 ⟨a, b⟩
      rw [he] at h1
      simp only [List.mem_append, List.mem_cons] at h1 ⊢
      rcases h1 with h | h | h
      · exact .inl h
      · exact absurd (by rw [h]) hqi
      · exact .inr h
  sorted := by
    have hs := g.sorted
    rw [he] at hs
    exact hs.sublist (List.Sublist.append (List.Sublist.refl _) (List.sublist_cons_self _ _))
end
end Go.Proofs.YtapciiffpnociacGreat

/- Plain words: the order of facts is one. Condition: none. -/
namespace Go.Proofs.YtapciiffpnociacGreat
theorem cmpI_anti (a b : Int) : cmpI a b = - cmpI b a := by unfold cmpI; split <;> split <;> (try split) <;> omega
theorem cmpI_lt {a b : Int} : cmpI a b < 0 ↔ a < b := by
  unfold cmpI
  split
  · rename_i h; simp [h]
  · rename_i h
    split <;> simp [h]
theorem ordL_anti : ∀ (l m : List Int), ordL l m = - ordL m l
  | [], [] => rfl
  | [], _ :: _ => rfl
  | _ :: _, [] => rfl
  | a :: l, b :: m => by
    unfold ordL
    rw [cmpI_anti a b]
    by_cases h : cmpI b a = 0
    · rw [h, if_pos (by omega), if_pos rfl]; exact ordL_anti l m
    · rw [if_neg (by omega), if_neg h]
theorem ordL_eq0 : ∀ {l m : List Int}, ordL l m = 0 → l = m
  | [], [], _ => rfl
  | [], _ :: _, h => by unfold ordL at h; omega
  | _ :: _, [], h => by unfold ordL at h; omega
  | a :: l, b :: m, h => by
    unfold ordL at h
    split at h
    · rename_i h1; rw [cmpI_zero h1, ordL_eq0 h]
    · rename_i h1; exact absurd h h1
theorem ordL_trans : ∀ {l m n : List Int}, ordL l m < 0 → ordL m n < 0 → ordL l n < 0
  | [], [], _, h, _ => by unfold ordL at h; omega
  | _ :: _, [], _, h, _ => by unfold ordL at h; omega
  | [], _ :: _, [], _, h => by unfold ordL at h; omega
  | [], _ :: _, _ :: _, _, _ => by unfold ordL; omega
  | _ :: _, _ :: _, [], _, h => by unfold ordL at h; omega
  | a :: l, b :: m, c :: n, h, g => by
    unfold ordL at h g ⊢
    by_cases h1 : cmpI a b = 0
    · have := cmpI_zero h1; subst this
      rw [if_pos h1] at h
      by_cases g1 : cmpI a c = 0
      · rw [if_pos g1] at g ⊢; exact ordL_trans h g
      · rw [if_neg g1] at g ⊢; exact g
    · rw [if_neg h1] at h
      by_cases g1 : cmpI b c = 0
      · have := cmpI_zero g1; subst this
        rw [if_neg h1]; exact h
      · rw [if_neg g1] at g
        have h2 := cmpI_lt.1 h
        have g2 := cmpI_lt.1 g
        have h3 : cmpI a c < 0 := cmpI_lt.2 (by omega)
        rw [if_neg (by omega)]; exact h3
theorem ordF_anti (a b : Fct) : ordF a b = - ordF b a := by
  unfold ordF
  rw [cmpI_anti a.pred b.pred]
  by_cases h : cmpI b.pred a.pred = 0
  · rw [h, if_pos (by omega), if_pos rfl]; exact ordL_anti _ _
  · rw [if_neg (by omega), if_neg h]
theorem ordF_eq0 {a b : Fct} (h : ordF a b = 0) : a = b := by
  unfold ordF at h
  split at h
  · rename_i h1
    cases a; cases b
    simp only at h h1 ⊢
    rw [cmpI_zero h1, ordL_eq0 h]
  · rename_i h1; exact absurd h h1
theorem ordF_trans {a b c : Fct} (h : ordF a b < 0) (g : ordF b c < 0) : ordF a c < 0 := by
  unfold ordF at h g ⊢
  by_cases h1 : cmpI a.pred b.pred = 0
  · rw [if_pos h1] at h
    rw [cmpI_zero h1]
    by_cases g1 : cmpI b.pred c.pred = 0
    · rw [if_pos g1] at g ⊢; exact ordL_trans h g
    · rw [if_neg g1] at g ⊢; exact g
  · rw [if_neg h1] at h
    by_cases g1 : cmpI b.pred c.pred = 0
    · rw [← cmpI_zero g1, if_neg h1]; exact h
    · rw [if_neg g1] at g
      have h2 := cmpI_lt.1 h
      have g2 := cmpI_lt.1 g
      have h3 : cmpI a.pred c.pred < 0 := cmpI_lt.2 (by omega)
      rw [if_neg (by omega)]; exact h3
theorem ordF_le {a b c : Fct} (h : 0 ≤ ordF a b) (g : 0 ≤ ordF b c) : 0 ≤ ordF a c := by
  by_cases h1 : ordF a b = 0
  · rw [ordF_eq0 h1]; exact g
  · by_cases g1 : ordF b c = 0
    · rw [← ordF_eq0 g1]; exact h
    · have h2 : ordF b a < 0 := by rw [ordF_anti]; omega
      have g2 : ordF c b < 0 := by rw [ordF_anti]; omega
      have := ordF_trans g2 h2
      rw [ordF_anti] at this
      omega
theorem swoF : Go.Sort.SWO (ltOf ordF) where
  irrefl x := by unfold ltOf; rw [ordF_self]; rfl
  trans x y z h g := decide_eq_true (ordF_trans (of_decide_eq_true h) (of_decide_eq_true g))
  ntrans x y z h g := by
    have h := of_decide_eq_false h
    have g := of_decide_eq_false g
    exact decide_eq_false (by have := ordF_le (a := x) (b := y) (c := z) (by omega) (by omega); omega)
end Go.Proofs.YtapciiffpnociacGreat

/- A plain logic over the walk: slices held against nil; the empty literal as an own row. No program is named here. Condition: none. -/
namespace Go.Proofs.YtapciiffpnociacGreat
open Go Go.RowKit
section
variable {Γ : Ctx} {k : Nat} {L : Sl} {H : Hp} {K : Next'} {ops : List Oper} {rest : List Oper} {t t' ty : TypeId} {x y : Operand}
theorem ds_bs0 {d te : TypeId} {pos : String} {af : Array Edge} {g : Option (Nat × Bool)} {es : Nat} (ht : (tiGet Γ.τ t).sh = .slice te) (hkn : (tiGet Γ.τ te).sh.known = true) (hes : (tiGet Γ.τ te).cells = es) (hpos : Nat.blt 0 es = true) (hz : zeroOk (tiGet Γ.τ te).zero = true) (hzl : Nat.beq (tiGet Γ.τ te).zero.length (tiGet Γ.τ te).cells = true) (hd : Nat.blt d Γ.n = true) (hw : wantedSV ops L g = some true)
    (hk : DS false Γ ops rest K (k + 1) ((d, .row k) :: L) ((k, .row te es []) :: H)) : DS false Γ ops (⟨some d, .buildSlice t 0 #[], ty, pos, af, g⟩ :: rest) K k L H :=
  dl_op hw ((op_bs0 (lo_not k) ht hkn hes hpos hz hzl hd).cast (with1_lo k)) hk
theorem ds_eqnil {d te : TypeId} {pos : String} {af : Array Edge} {g : Option (Nat × Bool)} {es : Nat} {xs : List (List D)} (hx : opSV L x = .d (.slice es xs)) (hy : opSV L y = .nils) (ht : (tiGet Γ.τ t).sh = .slice te) (hd : Nat.blt d Γ.n = true) (hw : wantedSV ops L g = some true)
    (h1 : xs = [] → DS false Γ ops rest K k ((d, .d (.bool true)) :: L) H) (h2 : DS false Γ ops rest K k ((d, .d (.bool false)) :: L) H) : DS false Γ ops (⟨some d, .binOp .eql t x y t', ty, pos, af, g⟩ :: rest) K k L H := by
  refine dl_run hw fun e a w m => ?_
  obtain ⟨ao, cap, hv, _, _, hnone⟩ := (evT m hx (cSV_slice · _ _)).slice_inv
  have hvy : a.eval y = .slice none 0 0 := by
    have hok : opOk y := by
      cases y with
      | const v => simp only [opSV] at hy; unfold cSV at hy; split at hy <;> simp_all [opOk, cOk]
      | _ => trivial
    have := m.op y hok
    rw [hy] at this; exact this
  have hrun : (execOp a.eval ⟨some d, .binOp .eql t x y t', ty, pos, af, g⟩).run Γ.P w = .ok (.value (.bool ao.isNone)) w := by
    simp [execOp, hv, hvy, eqGuard, Lib.run_eql_slice_nil w t te ao xs.length cap 0 0 (Ctx.slice ht)]
  unfold Oper.wp
  rw [hrun]
  cases ao with
  | none => exact ⟨k, _, H, e, m.put (s := .d (.bool true)) (v := .bool true) (Nat.le_of_ble_eq_true hd) .bool, h1 (hnone rfl)⟩
  | some ad => exact ⟨k, _, H, e, m.put (s := .d (.bool false)) (v := .bool false) (Nat.le_of_ble_eq_true hd) .bool, h2⟩
end
end Go.Proofs.YtapciiffpnociacGreat

/- Copies of lists. Condition: none. -/
namespace Go.Proofs.YtapciiffpnociacGreat
open Go Go.RowKit
attribute [local irreducible] DW DS DL DQ Ev FnOk FnP thenD inBlockD DT
set_option maxHeartbeats 8000000 in
theorem cloneI_fn (l : List (Int)) (hl : l.length ≤ 17592186044416) : Fn 81 [.d (.slice 1 (l.map encI))] (fun r => r = .d (.slice 1 (l.map encI))) := by
  refine fnp_enter' _ Tryz.func81 rfl rfl (by kernel_rfl) ?_
  intro O w0 E0 β0
  have la : (l.map encI).length = l.length := List.length_map _
  repeat' (first | (apply ds_evC; exact rfl; (with_reducible exact trivial); (with_reducible exact rfl); exact rfl; exact rfl; exact rfl) | apply ds_nil | apply dw_seq2 | (apply ds_region; exact rfl) | apply thenD_n)
  refine ds_eqnil rfl rfl rfl rfl rfl (fun h => ?_) ?_
  · have h0 : l = [] := List.map_eq_nil_iff.1 h
    subst h0
    repeat' (first | (apply ds_evC; exact rfl; (with_reducible exact trivial); (with_reducible exact rfl); exact rfl; exact rfl; exact rfl) | apply ds_nil | apply dw_seq2 | (apply ds_region; exact rfl) | (apply dw_condT; exact rfl) | apply thenD_n)
    refine dw_ent (ent_nild 2 1 rfl) ?_
    repeat' (first | apply dw_ret | apply thenD_r)
    exact ⟨.inl rfl, _, rfl, rfl, rfl⟩
  · repeat' (first | (apply ds_bs0; exact rfl; exact rfl; exact rfl; exact rfl; exact rfl; exact rfl; exact rfl; exact rfl) | (first | (apply ds_evC; exact rfl; (with_reducible exact trivial); (with_reducible exact rfl); exact rfl; exact rfl; exact rfl) | apply ds_nil | apply dw_seq2 | (apply ds_region; exact rfl) | apply dw_skip | (apply dw_condF; exact rfl) | apply thenD_n | (apply ds_tradeC; exact rfl; (unfold maxLen; simp <;> omega); exact rfl; exact rfl; exact rfl; exact rfl)))
    refine dw_ent (ent_seal 2 rfl rfl rfl) ?_
    repeat' (apply dw_ret)
    exact ⟨.inl rfl, _, rfl, rfl, rfl⟩
end Go.Proofs.YtapciiffpnociacGreat
