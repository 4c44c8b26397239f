/- Several texts in one: Small RelX RelB RelC RelM RelY RelT RelG RelH RuX RuY RuTa PrgIn. Condition: none. -/
import Derived.Test.YtapciiffpnociabGreatB10
import Derived.Test.YtapciiffpnociabGreatB14
import Derived.Test.YtapciiffpnociabGreatB09
import Derived.Test.YtapciiffpnociabGreatB13
import Derived.Test.YtapciiffpnociabGreatB23
import Derived.Test.YtapciiffpnociabGreatB15
import Derived.Test.YtapciiffpnociabGreatB24
import Derived.Test.YtapciiffpnociabGreatB22
import Derived.Test.YtapciiffpnociabGreatB25

/- The laws' own small program and facts. Condition: none. -/
namespace Go.Proofs.YtapciiffpnociabGreat
open Go Go.RowKit
def smallP : Prg := ⟨[2, 2], [⟨#[113]⟩, ⟨#[112]⟩], [⟨1, [⟨0, 0⟩, ⟨1, 0⟩], 0, [⟨1, 0, 0, [⟨0, 0⟩, ⟨1, 0⟩]⟩], 2⟩, ⟨1, [⟨0, 0⟩, ⟨2, 0⟩], 0, [⟨1, 0, 1, [⟨0, 0⟩, ⟨1, 0⟩]⟩, ⟨1, 0, 0, [⟨1, 0⟩, ⟨2, 0⟩]⟩], 3⟩]⟩
def fullF : List Fct := [⟨0, [1, 2]⟩, ⟨0, [2, 3]⟩, ⟨1, [1, 2]⟩, ⟨1, [1, 3]⟩, ⟨1, [2, 3]⟩]
attribute [local irreducible] DW DS DL DQ Ev FnOk FnP thenD inBlockD DT
set_option maxHeartbeats 8000000 in
theorem lsmall_fn : Fn 48 [] (fun res => res = elPrg smallP) := by
  refine fnp_enter' _ Tryz.func48 rfl rfl (by kernel_rfl) ?_
  intro O w0 E0 β0
  repeat' (first | (apply ds_evC; exact rfl; (with_reducible exact trivial); (with_reducible exact rfl); exact rfl; exact rfl; exact rfl) | apply ds_nil | apply dw_seq2 | (apply ds_region; exact rfl) | apply dw_ret | apply thenD_n | (apply ds_newC; exact rfl; (with_reducible exact trivial); exact rfl; exact rfl; exact rfl) | (apply ds_setC; exact rfl; exact rfl; exact rfl; exact rfl) | (apply ds_bsC; exact rfl; exact rfl; exact rfl; exact rfl))
  exact ⟨.inl rfl, _, rfl, rfl, rfl⟩
set_option maxHeartbeats 8000000 in
theorem rfact_fn (p : Int) (l : List Int) : Fn 47 [.d (.int .i64 p), .d (.slice 1 (l.map encI))] (fun r => r = elFct ⟨p, l⟩) := by
  refine fnp_enter' _ Tryz.func47 rfl rfl (by kernel_rfl) ?_
  intro O w0 E0 β0
  repeat' (first | (apply ds_evC; exact rfl; (with_reducible exact trivial); (with_reducible exact rfl); exact rfl; exact rfl; exact rfl) | apply ds_nil | apply dw_seq2 | (apply ds_region; exact rfl) | apply dw_ret | apply thenD_n | (apply ds_newC; exact rfl; (with_reducible exact trivial); exact rfl; exact rfl; exact rfl) | (apply ds_setC; exact rfl; exact rfl; exact rfl; exact rfl))
  exact ⟨.inl rfl, _, rfl, rfl, rfl⟩
set_option maxHeartbeats 8000000 in
theorem lfull_fn : Fn 49 [] (fun r => r = .d (.slice 2 (fullF.map encFct))) := by
  refine fnp_enter' _ Tryz.func49 rfl rfl (by kernel_rfl) ?_
  intro O w0 E0 β0
  have e1 := rfact_fn 0 [1, 2]
  have e2 := rfact_fn 0 [2, 3]
  have e3 := rfact_fn 1 [1, 2]
  have e4 := rfact_fn 1 [1, 3]
  have e5 := rfact_fn 1 [2, 3]
  repeat' (first | (apply ds_evC; exact rfl; (with_reducible exact trivial); (with_reducible exact rfl); exact rfl; exact rfl; exact rfl) | apply ds_nil | apply dw_seq2 | (apply ds_region; exact rfl) | apply dw_ret | apply thenD_n | (apply ds_call; exact rfl; exact rfl; apply e1; exact rfl; (exact rfl); exact rfl; rintro _ rfl) | (apply ds_call; exact rfl; exact rfl; apply e2; exact rfl; (exact rfl); exact rfl; rintro _ rfl) | (apply ds_call; exact rfl; exact rfl; apply e3; exact rfl; (exact rfl); exact rfl; rintro _ rfl) | (apply ds_call; exact rfl; exact rfl; apply e4; exact rfl; (exact rfl); exact rfl; rintro _ rfl) | (apply ds_call; exact rfl; exact rfl; apply e5; exact rfl; (exact rfl); exact rfl; rintro _ rfl) | (apply ds_bsC; exact rfl; exact rfl; exact rfl; exact rfl))
  exact ⟨.inl rfl, _, rfl, rfl, rfl⟩
end Go.Proofs.YtapciiffpnociabGreat

/- slices.Grow and slices.Concat over facts. Condition: none. -/
namespace Go.Proofs.YtapciiffpnociabGreat
open Go Go.RowKit
attribute [local irreducible] DW DS DL DQ Ev FnOk FnP thenD inBlockD DT
end Go.Proofs.YtapciiffpnociabGreat

/- The document's UnionOf and MinusOf. Condition: none. -/
namespace Go.Proofs.YtapciiffpnociabGreat
open Go Go.RowKit
attribute [local irreducible] DW DS DL DQ Ev FnOk FnP thenD inBlockD DT
end Go.Proofs.YtapciiffpnociabGreat

/- The document's MatchOf. Condition: none. -/
namespace Go.Proofs.YtapciiffpnociabGreat
open Go Go.RowKit
attribute [local irreducible] DW DS DL DQ Ev FnOk FnP thenD inBlockD DT
end Go.Proofs.YtapciiffpnociabGreat

/- relation.Match's own test of a fact. Condition: none. -/
namespace Go.Proofs.YtapciiffpnociabGreat
open Go Go.RowKit
attribute [local irreducible] DW DS DL DQ Ev FnOk FnP thenD inBlockD DT
end Go.Proofs.YtapciiffpnociabGreat

/- relation.Union, relation.Match. Condition: none. -/
namespace Go.Proofs.YtapciiffpnociabGreat
open Go Go.RowKit
attribute [local irreducible] DW DS DL DQ Ev FnOk FnP thenD inBlockD DT
end Go.Proofs.YtapciiffpnociabGreat

/- The law RelationTells. Condition: none. -/
namespace Go.Proofs.YtapciiffpnociabGreat
open Go Go.RowKit
attribute [local irreducible] DW DS DL DQ Ev FnOk FnP thenD inBlockD DT
end Go.Proofs.YtapciiffpnociabGreat

/- Plain words on unions and differences of sets of facts. Condition: none. -/
namespace Go.Proofs.YtapciiffpnociabGreat
theorem set_ext {l m : List Fct} (h : ∀ x, x ∈ l ↔ x ∈ m) : setF' l = setF' m :=
  strict_ext (setF_spec l).1 (setF_spec m).1 fun x => by rw [(setF_spec l).2, (setF_spec m).2, h]
theorem set_set (l : List Fct) : setF' (setF' l) = setF' l := set_ext fun x => (setF_spec l).2 x
end Go.Proofs.YtapciiffpnociabGreat

/- The law RelationHangs. Condition: none. -/
namespace Go.Proofs.YtapciiffpnociabGreat
open Go Go.RowKit
section
variable {Γ : Ctx} {k : Nat} {L : Sl} {H : Hp} {t ty : TypeId} {x : Operand}
end
attribute [local irreducible] DW DS DL DQ Ev FnOk FnP thenD inBlockD DT
end Go.Proofs.YtapciiffpnociabGreat

/- The program's rule.Heads; the law's begun run of rules. Condition: none. -/
namespace Go.Proofs.YtapciiffpnociabGreat
open Go Go.RowKit
def wayH (p : Prg) (n : Int) (l : List Fct) : List Fct := if wayE p n l = 0 then setF' (headsD (ruleAt p n) (wayL p n l)) else []
theorem wayE_ways {p : Prg} {n : Int} {l : List Fct} (h : wayE p n l = 0) : waysE p n l = 0 := by
  unfold wayE at h
  split at h
  · rename_i h1; exact absurd h h1
  · rename_i h1; simpa using h1
attribute [local irreducible] DW DS DL DQ Ev FnOk FnP thenD inBlockD DT
set_option maxHeartbeats 8000000 in
theorem heads_fn (p : Prg) (n : Int) (l : List Fct) (hmade : wayE p n l = 0 → Fn 98 [elRul (ruleAt p n), .d (.slice 1 ((wayL p n l).map encW))] (fun res => res = .d (.slice 2 ((setF' (headsD (ruleAt p n) (wayL p n l))).map encFct)))) :
    Fn 37 [elPrg p, .d (.int .i64 n), .d (.slice 2 (l.map encFct))] (fun r => r = .tup [.d (.slice 2 ((wayH p n l).map encFct)), .d (.int .i64 (wayE p n l))]) := by
  refine fnp_enter' _ Tryz.func37 rfl rfl (by kernel_rfl) ?_
  intro O w0 E0 β0
  have w1 := ways_fn p n l
  unfold wayH
  have lr : (p.rules.map encRul).length = p.rules.length := List.length_map _
  by_cases h0 : wayE p n l = 0
  · have hm := hmade h0
    have hw := wayOk (wayE_ways h0)
    have hlo := hw.lo
    have hhi := hw.hi
    rw [if_pos h0]
    rw [ruleAt_get hhi] at hm ⊢
    rw [h0] at w1 ⊢
    clear hmade hw
    repeat' (first | (apply ds_evC; exact rfl; (first | (with_reducible exact trivial) | omega); (first | ((with_reducible apply hv_row); (exact (Int.toNat_of_nonneg (by omega)).symm); (omega)) | (with_reducible exact rfl)); exact rfl; exact rfl; exact rfl) | apply ds_nil | apply dw_seq2 | (apply ds_region; exact rfl) | apply dw_skip | apply dw_ret | (apply dw_condF; exact rfl) | apply thenD_n | (apply ds_call; exact rfl; exact rfl; apply w1; exact rfl; (exact rfl); exact rfl; rintro _ rfl) | (apply ds_call; exact rfl; exact rfl; apply hm; exact rfl; (exact rfl); exact rfl; rintro _ rfl) | (apply ds_newC; exact rfl; (with_reducible exact trivial); exact rfl; exact rfl; exact rfl))
    all_goals try (exfalso; omega)
    exact ⟨.inl rfl, _, rfl, rfl, rfl⟩
  · rw [if_neg h0]
    clear hmade
    repeat' (first | (apply ds_evC; exact rfl; (first | (with_reducible exact trivial) | omega); (first | ((with_reducible apply hv_row); (exact (Int.toNat_of_nonneg (by omega)).symm); (omega)) | (with_reducible exact rfl)); exact rfl; exact rfl; exact rfl) | apply ds_nil | apply dw_seq2 | (apply ds_region; exact rfl) | apply dw_skip | apply thenD_n | (apply ds_call; exact rfl; exact rfl; apply w1; exact rfl; (exact rfl); exact rfl; rintro _ rfl) | (apply ds_newC; exact rfl; (with_reducible exact trivial); exact rfl; exact rfl; exact rfl) | (apply dw_condP; exact rfl; all_goals intro hg))
    all_goals try (exfalso; omega)
    refine dw_ent (ent_nild 6 2 rfl) ?_
    repeat' (first | apply dw_ret | apply thenD_r)
    exact ⟨.inl rfl, _, rfl, rfl, rfl⟩
set_option maxHeartbeats 8000000 in
theorem sameLists_fn (a b : List (List Int)) : Fn 42 [.d (.slice 1 (a.map encW)), .d (.slice 1 (b.map encW))] (fun r => r = .d (.bool (decide (a = b)))) := by
  refine fnp_enter' _ Tryz.func42 rfl rfl (by kernel_rfl) ?_
  intro O w0 E0 β0
  have la : (a.map encW).length = a.length := List.length_map _
  have lb : (b.map encW).length = b.length := List.length_map _
  refine dw_len (t := 0) rfl (fun hk => ?_)
  by_cases hl : a.length = b.length
  · repeat' (first | (apply ds_evC; exact rfl; (with_reducible exact trivial); (with_reducible exact rfl); exact rfl; exact rfl; exact rfl) | apply ds_nil | apply dw_seq2 | (apply ds_region; exact rfl) | apply dw_block | apply dw_skip | apply dw_ret | apply thenD_n | apply thenD_r | (apply dw_condP; exact rfl; all_goals intro hg))
    all_goals try (exfalso; omega)
    refine ds_loop (ι := Nat) (fun i => ⟨0, [(0, .d (.slice 1 (a.map encW))), (1, .d (.slice 1 (b.map encW))), (5, .d (.int .i64 i))], []⟩)
      (fun i => i ≤ a.length ∧ a.take i = b.take i) (fun i => a.length - i) 0 ⟨Nat.zero_le _, rfl⟩ (ent_ren id ⟨rfl, rfl, rfl, trivial⟩ trivial rfl rfl rfl rfl rfl rfl) ?_
    rintro i ⟨g1, g2⟩
    dsimp only at g1 g2 ⊢
    by_cases hi : i < a.length
    · have hb : i < b.length := by omega
      have w := sameInts_fn a[i] b[i]
      rw [sameI_eq] at w
      by_cases he : a[i] = b[i]
      · rw [decide_eq_true he] at w
        repeat' (first | (apply ds_evC; exact rfl; (first | (with_reducible exact trivial) | omega); (with_reducible exact rfl); exact rfl; exact rfl; exact rfl) | apply ds_nil | (apply dt_ev; exact rfl; exact rfl; (first | (with_reducible exact trivial) | omega); (first | ((with_reducible apply hv_row); (exact rfl); (omega)) | (with_reducible exact rfl)); exact rfl; exact rfl; exact rfl; exact rfl) | (apply dt_nil0; exact rfl; exact rfl; exact rfl; exact rfl) | apply dw_seq2 | (apply ds_region; exact rfl) | (apply dw_any; kernel_rfl; kernel_rfl; exact rfl; exact rfl) | apply dw_block | apply dw_skip | apply dw_exit | apply dw_ret | (apply dw_condF; exact rfl) | apply thenD_n | apply thenD_e | apply inB_n | (apply inB_e; exact rfl) | (apply dt_call; exact rfl; exact rfl; apply w; exact rfl; (exact rfl); exact rfl; exact rfl; exact ⟨_, rfl⟩; rintro _ rfl) | (apply dw_condP; exact rfl; all_goals intro hg))
        all_goals try (exfalso; omega)
        exact ⟨i + 1, ⟨hi, by rw [List.take_succ_eq_append_getElem hi, List.take_succ_eq_append_getElem hb, g2, he]⟩, ent_ren id ⟨rfl, rfl, rfl, trivial⟩ trivial rfl rfl rfl rfl rfl rfl, by omega⟩
      · have hne : a ≠ b := fun h => he (by subst h; rfl)
        rw [decide_eq_false he] at w
        rw [decide_eq_false hne]
        repeat' (first | (apply ds_evC; exact rfl; (with_reducible exact trivial); (with_reducible exact rfl); exact rfl; exact rfl; exact rfl) | apply ds_nil | (apply dt_ev; exact rfl; exact rfl; (first | (with_reducible exact trivial) | omega); (first | ((with_reducible apply hv_row); (exact rfl); (omega)) | (with_reducible exact rfl)); exact rfl; exact rfl; exact rfl; exact rfl) | (apply dt_nil0; exact rfl; exact rfl; exact rfl; exact rfl) | apply dw_seq2 | (apply ds_region; exact rfl) | (apply dw_any; kernel_rfl; kernel_rfl; exact rfl; exact rfl) | apply dw_block | apply dw_skip | apply dw_exit | apply dw_ret | (apply dw_condT; exact rfl) | apply thenD_n | apply thenD_e | apply thenD_r | apply inB_r | (apply inB_e; exact rfl) | (apply dt_call; exact rfl; exact rfl; apply w; exact rfl; (exact rfl); exact rfl; exact rfl; exact ⟨_, rfl⟩; rintro _ rfl) | (apply dw_condP; exact rfl; all_goals intro hg))
        all_goals try (exfalso; omega)
        all_goals exact ⟨.inl rfl, _, rfl, rfl, rfl⟩
    · rw [List.take_of_length_le (by omega), List.take_of_length_le (by omega)] at g2
      rw [decide_eq_true g2]
      repeat' (first | (apply ds_evC; exact rfl; (with_reducible exact trivial); (with_reducible exact rfl); exact rfl; exact rfl; exact rfl) | apply ds_nil | (apply dt_ev; exact rfl; exact rfl; (first | (with_reducible exact trivial) | omega); (first | ((with_reducible apply hv_row); (exact rfl); (omega)) | (with_reducible exact rfl)); exact rfl; exact rfl; exact rfl; exact rfl) | apply dw_seq2 | (apply ds_region; exact rfl) | (apply dw_any; kernel_rfl; kernel_rfl; exact rfl; exact rfl) | apply dw_block | apply dw_skip | apply dw_exit | apply dw_ret | apply thenD_n | apply thenD_e | (apply inB_e; exact rfl) | (apply dw_condP; exact rfl; all_goals intro hg))
      all_goals try (exfalso; omega)
      all_goals exact ⟨.inl rfl, _, rfl, rfl, rfl⟩
  · have hne : a ≠ b := fun h => hl (by rw [h])
    rw [decide_eq_false hne]
    repeat' (first | (apply ds_evC; exact rfl; (with_reducible exact trivial); (with_reducible exact rfl); exact rfl; exact rfl; exact rfl) | apply ds_nil | apply dw_seq2 | (apply ds_region; exact rfl) | apply dw_block | apply dw_skip | apply dw_ret | apply thenD_n | apply thenD_r | (apply dw_condP; exact rfl; all_goals intro hg))
    all_goals try (exfalso; omega)
    all_goals exact ⟨.inl rfl, _, rfl, rfl, rfl⟩
end Go.Proofs.YtapciiffpnociabGreat

/- The law's begun run of rules; the law RuleHolds. Condition: none. -/
namespace Go.Proofs.YtapciiffpnociabGreat
open Go Go.RowKit
theorem small_ways0 : waysE smallP 1 fullF = 0 := by kernel_rfl
def smallR : Rul := ⟨1, [⟨0, 0⟩, ⟨2, 0⟩], 0, [⟨1, 0, 1, [⟨0, 0⟩, ⟨1, 0⟩]⟩, ⟨1, 0, 0, [⟨1, 0⟩, ⟨2, 0⟩]⟩], 3⟩
theorem small_rule : ruleAt smallP 1 = smallR := rfl
theorem small_fullS : setF' fullF = fullF := by kernel_rfl
theorem small_from : fromE fullF smallR.body (yesOf smallR.body) (e0 3) = [[1, 2, 3]] := by kernel_rfl
theorem small_waysL : waysL fullF 3 smallR.body = [[1, 2, 3]] := (waysL_eq (o := [[1, 2, 3]]) (List.pairwise_singleton _ _) (by rw [small_from])).symm
theorem small_many : manyW fullF smallR = true := by unfold manyW; rw [show smallR.vars.toNat = 3 from rfl, small_waysL]; rfl
theorem small_wayE : wayE smallP 1 fullF = 0 := by
  unfold wayE
  rw [if_neg (by rw [small_ways0]; simp), small_rule, small_fullS, small_many, if_pos rfl]
theorem small_wayL : wayL smallP 1 fullF = [[1, 2, 3]] := by
  unfold wayL rawW
  rw [if_pos small_ways0, small_rule, small_fullS, small_many, if_pos rfl]
  exact small_waysL
theorem small_wayH : wayH smallP 1 fullF = [⟨1, [1, 3]⟩] := by
  unfold wayH
  rw [if_pos small_wayE, small_rule, small_wayL]
  kernel_rfl
attribute [local irreducible] DW DS DL DQ Ev FnOk FnP thenD inBlockD DT
set_option maxHeartbeats 8000000 in
theorem ruleBegun_fn : Fn 41 [] (fun r => r = .d (.bool true)) := by
  refine fnp_enter' _ Tryz.func41 rfl rfl (by kernel_rfl) ?_
  intro O w0 E0 β0
  have h1 := lsmall_fn
  have h2 := lfull_fn
  have h3 := ways_fn smallP 1 fullF
  have h4 := heads_fn smallP 1 fullF (fun _ => made0_fn _ _ _ (wayL_ok (wayOk small_ways0)) (by rw [small_rule]; rfl))
  rw [small_wayE, small_wayL] at h3
  rw [small_wayE, small_wayH] at h4
  have h5 := sameLists_fn [[1, 2, 3]] [[1, 2, 3]]
  rw [decide_eq_true rfl] at h5
  have h6 := rfact_fn 1 [1, 3]
  have h7 : Fn 43 [.d (.slice 2 ([(⟨1, [1, 3]⟩ : Fct)].map encFct)), .d (.slice 2 ([(⟨1, [1, 3]⟩ : Fct)].map encFct))] (fun r => r = .d (.bool true)) := by
    have h := sameFacts_fn [⟨1, [1, 3]⟩] [⟨1, [1, 3]⟩]
    rw [show sameL Fct.same [(⟨1, [1, 3]⟩ : Fct)] [⟨1, [1, 3]⟩] = true by decide] at h
    exact h
  repeat' (first | (apply ds_evC; exact rfl; (with_reducible exact trivial); (with_reducible exact rfl); exact rfl; exact rfl; exact rfl) | apply ds_nil | apply dw_seq2 | (apply ds_region; exact rfl) | apply dw_ret | apply thenD_n | (apply ds_call; exact rfl; exact rfl; apply h1; exact rfl; (exact rfl); exact rfl; rintro _ rfl) | (apply ds_call; exact rfl; exact rfl; apply h2; exact rfl; (exact rfl); exact rfl; rintro _ rfl) | (apply ds_call; exact rfl; exact rfl; apply h3; exact rfl; (exact rfl); exact rfl; rintro _ rfl) | (apply ds_call; exact rfl; exact rfl; apply h4; exact rfl; (exact rfl); exact rfl; rintro _ rfl) | (apply ds_call; exact rfl; exact rfl; apply h5; exact rfl; (exact rfl); exact rfl; rintro _ rfl) | (apply ds_call; exact rfl; exact rfl; apply h6; exact rfl; (exact rfl); exact rfl; rintro _ rfl) | (apply ds_call; exact rfl; exact rfl; apply h7; exact rfl; (exact rfl); exact rfl; rintro _ rfl) | (apply ds_bsC; exact rfl; exact rfl; exact rfl; exact rfl))
  exact ⟨.inl rfl, _, rfl, rfl, rfl⟩
end Go.Proofs.YtapciiffpnociabGreat

/- The program's Made, Heads, whatever is folded; the law RuleTells. Condition: none. -/
namespace Go.Proofs.YtapciiffpnociabGreat
open Go Go.RowKit
attribute [local irreducible] DW DS DL DQ Ev FnOk FnP thenD inBlockD DT
theorem made_fn (arity : List Int) (r : Rul) (ways : List (List Int)) (hok : HeadOk arity r ways) : Fn 98 [elRul r, .d (.slice 1 (ways.map encW))] (fun res => res = .d (.slice 2 ((setF' (headsD r ways)).map encFct))) := by
  by_cases h0 : r.fold = 0
  · exact made0_fn arity r ways hok h0
  · exact madeF_fn arity r ways hok h0
theorem headsA_fn (p : Prg) (n : Int) (l : List Fct) : Fn 37 [elPrg p, .d (.int .i64 n), .d (.slice 2 (l.map encFct))] (fun r => r = .tup [.d (.slice 2 ((wayH p n l).map encFct)), .d (.int .i64 (wayE p n l))]) :=
  heads_fn p n l fun h0 => made_fn p.arity _ _ (wayL_ok (wayOk (wayE_ways h0)))
theorem sameF_eq (a : List Fct) : sameL Fct.same a a = true := sameL_refl (fun x => by unfold Fct.same; simp [ordF_self]) a
set_option maxHeartbeats 8000000 in
theorem ruleTells_fn (p : Prg) (n : Int) (l : List Fct) : Fn 6 [elPrg p, .d (.int .i64 n), .d (.slice 2 (l.map encFct))] (fun r => r = .d (.bool true)) := by
  refine fnp_enter' _ Tryz.func6 rfl rfl (by kernel_rfl) ?_
  intro O w0 E0 β0
  have h1 := ways_fn p n l
  have h2 := headsA_fn p n l
  have h3 := checkWays_fn p n l
  have h4 := ruleBegun_fn
  have lr : (p.rules.map encRul).length = p.rules.length := List.length_map _
  by_cases hw0 : waysE p n l = 0
  · have hw := wayOk hw0
    have hlo := hw.lo
    have hhi := hw.hi
    have h5 := waysOf_fn l (ruleAt p n) hw.len hw.ruls
    have h6 := headsOf_fn p.arity (ruleAt p n) (wayL p n l) (wayL_ok hw)
    have hE : wayE p n l = if manyW (setF' l) p.rules[n.toNat] then 0 else 2 := by unfold wayE; rw [if_neg (by rw [hw0]; simp), ruleAt_get hhi]
    have hL : wayL p n l = rawW (setF' l) p.rules[n.toNat] := by unfold wayL; rw [if_pos hw0, ruleAt_get hhi]
    unfold wayH at h2
    rw [hE, hL, ruleAt_get hhi] at h2
    rw [hE, hL] at h1
    rw [ruleAt_get hhi] at h5 h6
    rw [hL] at h6
    rw [hw0] at h3
    clear hw
    cases hm : manyW (setF' l) p.rules[n.toNat] with
    | true =>
      rw [hm] at h1 h2 h5
      simp only [if_true] at h1 h2
      have h7 := sameLists_fn (rawW (setF' l) p.rules[n.toNat]) (rawW (setF' l) p.rules[n.toNat])
      rw [decide_eq_true rfl] at h7
      have h8 := sameFacts_fn (setF' (headsD p.rules[n.toNat] (rawW (setF' l) p.rules[n.toNat]))) (setF' (headsD p.rules[n.toNat] (rawW (setF' l) p.rules[n.toNat])))
      rw [sameF_eq] at h8
      generalize setF' (headsD p.rules[n.toNat] (rawW (setF' l) p.rules[n.toNat])) = hs at *
      generalize rawW (setF' l) p.rules[n.toNat] = ws at *
      repeat' ((fail_if_success (apply dw_stopS 6)); (first | (apply ds_evC; exact rfl; (with_reducible exact trivial); (with_reducible exact rfl); exact rfl; exact rfl; exact rfl) | apply ds_nil | apply dw_seq2 | (apply ds_region; exact rfl) | apply thenD_n | (apply ds_call; exact rfl; exact rfl; apply h1; exact rfl; (exact rfl); exact rfl; rintro _ rfl) | (apply ds_call; exact rfl; exact rfl; apply h2; exact rfl; (exact rfl); exact rfl; rintro _ rfl) | (apply ds_call; exact rfl; exact rfl; apply h3; exact rfl; (exact rfl); exact rfl; rintro _ rfl) | (apply ds_newC; exact rfl; (with_reducible exact trivial); exact rfl; exact rfl; exact rfl)))
      refine dw_ent (ent_nild 12 1 rfl) ?_
      refine dw_ent (ent_nild 13 2 rfl) ?_
      repeat' (first | (apply ds_evC; exact rfl; (first | (with_reducible exact trivial) | omega); (first | ((with_reducible apply hv_row); (exact (Int.toNat_of_nonneg (by omega)).symm); (omega)) | (with_reducible exact rfl)); exact rfl; exact rfl; exact rfl) | apply ds_nil | apply dw_seq2 | (apply ds_region; exact rfl) | apply dw_ret | (apply dw_condT; exact rfl) | apply thenD_n | (apply ds_call; exact rfl; exact rfl; apply h4; exact rfl; (exact rfl); exact rfl; rintro _ rfl) | (apply ds_call; exact rfl; exact rfl; apply h5; exact rfl; (exact rfl); exact rfl; rintro _ rfl) | (apply ds_call; exact rfl; exact rfl; apply h6; exact rfl; (exact rfl); exact rfl; rintro _ rfl) | (apply ds_call; exact rfl; exact rfl; apply h7; exact rfl; (exact rfl); exact rfl; rintro _ rfl) | (apply ds_call; exact rfl; exact rfl; apply h8; exact rfl; (exact rfl); exact rfl; rintro _ rfl))
      all_goals try (exfalso; omega)
      exact ⟨.inl rfl, _, rfl, rfl, rfl⟩
    | false =>
      rw [hm] at h1 h2 h5
      have hr : rawW (setF' l) p.rules[n.toNat] = [] := by unfold rawW; rw [hm]; rfl
      rw [hr] at h1 h5
      simp only [Bool.false_eq_true, if_false, show ¬ ((2 : Int) = 0) by omega] at h1 h2
      have h7 := sameLists_fn [] []
      rw [decide_eq_true rfl] at h7
      have h8 := sameFacts_fn [] []
      rw [sameF_eq] at h8
      clear h6
      repeat' ((fail_if_success (apply dw_stopS 6)); (first | (apply ds_evC; exact rfl; (with_reducible exact trivial); (with_reducible exact rfl); exact rfl; exact rfl; exact rfl) | apply ds_nil | apply dw_seq2 | (apply ds_region; exact rfl) | apply thenD_n | (apply ds_call; exact rfl; exact rfl; apply h1; exact rfl; (exact rfl); exact rfl; rintro _ rfl) | (apply ds_call; exact rfl; exact rfl; apply h2; exact rfl; (exact rfl); exact rfl; rintro _ rfl) | (apply ds_call; exact rfl; exact rfl; apply h3; exact rfl; (exact rfl); exact rfl; rintro _ rfl) | (apply ds_newC; exact rfl; (with_reducible exact trivial); exact rfl; exact rfl; exact rfl)))
      refine dw_ent (ent_nild 12 1 rfl) ?_
      refine dw_ent (ent_nild 13 2 rfl) ?_
      repeat' (first | (apply ds_evC; exact rfl; (first | (with_reducible exact trivial) | omega); (first | ((with_reducible apply hv_row); (exact (Int.toNat_of_nonneg (by omega)).symm); (omega)) | (with_reducible exact rfl)); exact rfl; exact rfl; exact rfl) | apply ds_nil | apply dw_seq2 | (apply ds_region; exact rfl) | apply dw_ret | (apply dw_condT; exact rfl) | (apply dw_condF; exact rfl) | apply thenD_n | (apply ds_call; exact rfl; exact rfl; apply h4; exact rfl; (exact rfl); exact rfl; rintro _ rfl) | (apply ds_call; exact rfl; exact rfl; apply h5; exact rfl; (exact rfl); exact rfl; rintro _ rfl) | (apply ds_call; exact rfl; exact rfl; apply h7; exact rfl; (exact rfl); exact rfl; rintro _ rfl) | (apply ds_call; exact rfl; exact rfl; apply h8; exact rfl; (exact rfl); exact rfl; rintro _ rfl))
      all_goals try (exfalso; omega)
      exact ⟨.inl rfl, _, rfl, rfl, rfl⟩
  · have hE : wayE p n l = waysE p n l := by unfold wayE; rw [if_pos hw0]
    have hL : wayL p n l = [] := by unfold wayL; rw [if_neg hw0]
    have hH : wayH p n l = [] := by unfold wayH; rw [hE, if_neg hw0]
    rw [hE, hL] at h1
    rw [hE, hH] at h2
    have h7 := sameLists_fn [] []
    rw [decide_eq_true rfl] at h7
    have h8 := sameFacts_fn [] []
    rw [sameF_eq] at h8
    generalize waysE p n l = e at *
    repeat' ((fail_if_success (apply dw_stopS 6)); (first | (apply ds_evC; exact rfl; (with_reducible exact trivial); (with_reducible exact rfl); exact rfl; exact rfl; exact rfl) | apply ds_nil | apply dw_seq2 | (apply ds_region; exact rfl) | apply thenD_n | (apply ds_call; exact rfl; exact rfl; apply h1; exact rfl; (exact rfl); exact rfl; rintro _ rfl) | (apply ds_call; exact rfl; exact rfl; apply h2; exact rfl; (exact rfl); exact rfl; rintro _ rfl) | (apply ds_call; exact rfl; exact rfl; apply h3; exact rfl; (exact rfl); exact rfl; rintro _ rfl) | (apply ds_newC; exact rfl; (with_reducible exact trivial); exact rfl; exact rfl; exact rfl)))
    refine dw_ent (ent_nild 12 1 rfl) ?_
    refine dw_ent (ent_nild 13 2 rfl) ?_
    repeat' (first | (apply ds_evC; exact rfl; (first | (with_reducible exact trivial) | omega); (first | ((with_reducible apply hv_row); (exact (Int.toNat_of_nonneg (by omega)).symm); (omega)) | (with_reducible exact rfl)); exact rfl; exact rfl; exact rfl) | (apply ds_skip; exact rfl; exact rfl) | apply ds_nil | apply dw_seq2 | (apply ds_region; exact rfl) | apply dw_skip | apply dw_ret | apply thenD_n | (apply ds_call; exact rfl; exact rfl; apply h4; exact rfl; (exact rfl); exact rfl; rintro _ rfl) | (apply ds_call; exact rfl; exact rfl; apply h7; exact rfl; (exact rfl); exact rfl; rintro _ rfl) | (apply ds_call; exact rfl; exact rfl; apply h8; exact rfl; (exact rfl); exact rfl; rintro _ rfl) | (apply dw_condP; exact rfl; all_goals intro hg) | ((fail_if_success (apply ds_known; exact rfl)); apply ds_guardP; exact rfl; exact rfl; exact rfl; all_goals intro hg))
    all_goals try (exfalso; omega)
    exact ⟨.inl rfl, _, rfl, rfl, rfl⟩
end Go.Proofs.YtapciiffpnociabGreat

/- Programs that are handed in, read as data. Condition: none. -/
namespace Go.Proofs.YtapciiffpnociabGreat
open Go Go.RowKit
theorem plistOf {α : Type} {e : RT} {enc : α → List D} (h : ∀ x, TyD e x → ∃ t, x = enc t) : ∀ (l : List (List D)), (∀ x ∈ l, TyD e x) → ∃ ts : List α, l = ts.map enc
  | [], _ => ⟨[], rfl⟩
  | x :: l, hl => by
    obtain ⟨t, rfl⟩ := h x (hl x (List.mem_cons_self ..))
    obtain ⟨ts, rfl⟩ := plistOf h l fun y hy => hl y (List.mem_cons_of_mem _ hy)
    exact ⟨t :: ts, rfl⟩
theorem psliceOf {α : Type} {c b : Nat} {e : RT} {enc : α → List D} (h : ∀ x, TyD e x → ∃ t, x = enc t) (x : List D) (hx : TyD (.slice c b e) x) : ∃ ts : List α, x = [.slice c (ts.map enc)] := by
  obtain ⟨l, _, _, rfl, h3⟩ := hx
  obtain ⟨ts, rfl⟩ := plistOf h l h3
  exact ⟨ts, rfl⟩
abbrev rtTrm : RT := .struct [.int .i64, .int .i64]
abbrev rtLtl : RT := .struct [.int .i64, .int .i64, .int .i64, .slice 2 16 rtTrm]
abbrev rtRul : RT := .struct [.int .i64, .slice 2 16 rtTrm, .int .i64, .slice 4 48 rtLtl, .int .i64]
abbrev rtPrg : RT := .struct [.slice 1 8 (.int .i64), .slice 1 16 .str, .slice 5 72 rtRul]
theorem pint_of (x : List D) (h : TyD (.int .i64) x) : ∃ n : Int, x = encI n := by
  obtain ⟨n, _, rfl⟩ := h
  exact ⟨n, rfl⟩
theorem pstr_of (x : List D) (h : TyD .str x) : ∃ n : ByteArray, x = encT n := by
  obtain ⟨n, _, rfl⟩ := h
  exact ⟨n, rfl⟩
theorem trm_of (x : List D) (h : TyD rtTrm x) : ∃ t : Trm, x = encTrm t := by
  obtain ⟨a, b, rfl, ⟨k, _, rfl⟩, c, d, rfl, ⟨p, _, rfl⟩, rfl⟩ := h
  exact ⟨⟨k, p⟩, rfl⟩
theorem ltl_of (x : List D) (h : TyD rtLtl x) : ∃ t : Ltl, x = encLtl t := by
  obtain ⟨a, b, rfl, ⟨k, _, rfl⟩, c, d, rfl, ⟨p, _, rfl⟩, e, f, rfl, ⟨q, _, rfl⟩, g, i, rfl, h4, rfl⟩ := h
  obtain ⟨l, rfl⟩ := psliceOf trm_of g h4
  exact ⟨⟨k, p, q, l⟩, rfl⟩
theorem rul_of (x : List D) (h : TyD rtRul x) : ∃ t : Rul, x = encRul t := by
  obtain ⟨a, b, rfl, ⟨k, _, rfl⟩, c, d, rfl, h2, e, f, rfl, ⟨q, _, rfl⟩, g, i, rfl, h4, j, m, rfl, ⟨v, _, rfl⟩, rfl⟩ := h
  obtain ⟨l, rfl⟩ := psliceOf trm_of c h2
  obtain ⟨n, rfl⟩ := psliceOf ltl_of g h4
  exact ⟨⟨k, l, q, n, v⟩, rfl⟩
theorem prg_arg (x : List D) (h : TyD rtPrg x) : ∃ p : Prg, RT.arg rtPrg x = elPrg p := by
  obtain ⟨c, d, rfl, h2, e, f, rfl, h3, g, h, rfl, h4, rfl⟩ := h
  obtain ⟨l, rfl⟩ := psliceOf pint_of c h2
  obtain ⟨m, rfl⟩ := psliceOf pstr_of e h3
  obtain ⟨n, rfl⟩ := psliceOf rul_of g h4
  exact ⟨⟨l, m, n⟩, rfl⟩
abbrev rtFct : RT := .struct [.int .i64, .slice 1 8 (.int .i64)]
theorem fct_of (x : List D) (h : TyD rtFct x) : ∃ t : Fct, x = encFct t := by
  obtain ⟨a, b, rfl, ⟨k, _, rfl⟩, c, d, rfl, h2, rfl⟩ := h
  obtain ⟨l, rfl⟩ := psliceOf pint_of c h2
  exact ⟨⟨k, l⟩, rfl⟩
theorem fcts_arg (x : List D) (h : TyD (.slice 2 32 rtFct) x) : ∃ l : List Fct, RT.arg (.slice 2 32 rtFct) x = .d (.slice 2 (l.map encFct)) := by
  obtain ⟨l, rfl⟩ := psliceOf fct_of x h
  exact ⟨l, rfl⟩
end Go.Proofs.YtapciiffpnociabGreat
