/- Several texts in one: RuI RuJ RuF ScoG ScoH TokL ScoI Tool RuL RelL GxRng GxItr RelV RuH RuM. Condition: none. -/
import Derived.Test.YtapciiffpnociacGreatB16
import Derived.Test.YtapciiffpnociacGreatB12
import Derived.Test.YtapciiffpnociacGreatB14
import Derived.Test.YtapciiffpnociacGreatB11
import Derived.Test.YtapciiffpnociacGreatB10
import Derived.Test.YtapciiffpnociacGreatB08
import Derived.Test.YtapciiffpnociacGreatB13

/- The library's Compare, Equal, SortFunc, CompactFunc over ways. Condition: none. -/
namespace Go.Proofs.YtapciiffpnociacGreat
open Go Go.RowKit Go.Sort
theorem swoL : Go.Sort.SWO (ltOf ordL) where
  irrefl x := by unfold ltOf; rw [ordL_self]; rfl
  trans x y z h g := decide_eq_true (ordL_trans (of_decide_eq_true h) (of_decide_eq_true g))
  ntrans x y z h g := by
    have h := of_decide_eq_false h
    have g := of_decide_eq_false g
    refine decide_eq_false ?_
    have := ordL_le_trans (a := z) (b := y) (c := x) (by rw [ordL_anti]; omega) (by rw [ordL_anti]; omega)
    rw [ordL_anti] at this
    omega
theorem sortWays_c : SortC Tryz.prog 87 88 22 1 encW ordL := fun l hl _ _ _ _ h1 h2 h3 =>
  sort_row1 (ρ := Tryz.sortWays_ren) Tryz.sortWays encW (fun _ => rfl) ordL swoL 88 (fun a b => compareInts_fnD true a b) 22 l hl h1 h2 h3
attribute [local irreducible] DW DS DL DQ Ev FnOk FnP thenD inBlockD DT
set_option maxHeartbeats 8000000 in
theorem equalI_fn (a b : List Int) : Fn 90 [.d (.slice 1 (a.map encI)), .d (.slice 1 (b.map encI))] (fun r => r = .d (.bool (decide (a = b)))) := by
  refine fnp_enter' _ Tryz.func90 rfl rfl (by kernel_rfl) ?_
  intro O w0 E0 β0
  have la : (a.map encI).length = a.length := List.length_map _
  have lb : (b.map encI).length = b.length := List.length_map _
  refine dw_len (t := 0) rfl (fun hk => ?_)
  by_cases hl : a.length = b.length
  · repeat' (first | (apply ds_evC; exact rfl; (with_reducible exact trivial); (with_reducible exact rfl); exact rfl; exact rfl; exact rfl) | apply ds_nil | apply dw_seq2 | (apply ds_region; exact rfl) | apply dw_block | apply dw_skip | apply dw_ret | apply thenD_n | apply thenD_r | (apply dw_condP; exact rfl; all_goals intro hg))
    all_goals try (exfalso; omega)
    refine ds_loop (ι := Nat) (fun i => ⟨0, [(0, .d (.slice 1 (a.map encI))), (1, .d (.slice 1 (b.map encI))), (12, .d (.int .i64 a.length)), (13, .d (.int .i64 i))], []⟩)
      (fun i => i ≤ a.length ∧ a.take i = b.take i) (fun i => a.length - i) 0 ⟨Nat.zero_le _, rfl⟩ (ent_ren id ⟨rfl, rfl, by rw [← la]; rfl, rfl, trivial⟩ trivial rfl rfl rfl rfl rfl rfl) ?_
    rintro i ⟨g1, g2⟩
    dsimp only at g1 g2 ⊢
    by_cases hi : i < a.length
    · have hb : i < b.length := by omega
      by_cases he : a[i] = b[i]
      · repeat' (first | (apply ds_evC; exact rfl; (first | (with_reducible exact trivial) | omega); (with_reducible exact rfl); exact rfl; exact rfl; exact rfl) | apply ds_nil | (apply dt_ev; exact rfl; exact rfl; (first | (with_reducible exact trivial) | omega); (first | ((with_reducible apply hv_row); (exact rfl); (omega)) | (with_reducible exact rfl)); exact rfl; exact rfl; exact rfl; exact rfl) | (apply dt_nil0; exact rfl; exact rfl; exact rfl; exact rfl) | apply dw_seq2 | (apply ds_region; exact rfl) | (apply dw_any; kernel_rfl; kernel_rfl; exact rfl; exact rfl) | apply dw_block | apply dw_skip | apply dw_exit | apply dw_ret | apply thenD_n | apply thenD_e | apply thenD_r | apply inB_n | apply inB_r | (apply inB_e; exact rfl) | (apply dw_condP; exact rfl; all_goals intro hg))
        all_goals try (exfalso; omega)
        all_goals try (exfalso; exact hg he)
        exact ⟨i + 1, ⟨hi, by rw [List.take_succ_eq_append_getElem hi, List.take_succ_eq_append_getElem hb, g2, he]⟩, ent_ren id ⟨rfl, rfl, rfl, rfl, trivial⟩ trivial rfl rfl rfl rfl rfl rfl, by omega⟩
      · have hne : a ≠ b := fun h => he (by subst h; rfl)
        rw [decide_eq_false hne]
        repeat' (first | (apply ds_evC; exact rfl; (first | (with_reducible exact trivial) | omega); (with_reducible exact rfl); exact rfl; exact rfl; exact rfl) | apply ds_nil | (apply dt_ev; exact rfl; exact rfl; (first | (with_reducible exact trivial) | omega); (first | ((with_reducible apply hv_row); (exact rfl); (omega)) | (with_reducible exact rfl)); exact rfl; exact rfl; exact rfl; exact rfl) | (apply dt_nil0; exact rfl; exact rfl; exact rfl; exact rfl) | apply dw_seq2 | (apply ds_region; exact rfl) | (apply dw_any; kernel_rfl; kernel_rfl; exact rfl; exact rfl) | apply dw_block | apply dw_skip | apply dw_exit | apply dw_ret | apply thenD_n | apply thenD_e | apply thenD_r | apply inB_n | apply inB_r | (apply inB_e; exact rfl) | (apply dw_condP; exact rfl; all_goals intro hg))
        all_goals try (exfalso; omega)
        all_goals exact ⟨.inl rfl, _, rfl, rfl, rfl⟩
    · rw [List.take_of_length_le (by omega), List.take_of_length_le (by omega)] at g2
      rw [decide_eq_true g2]
      repeat' (first | (apply ds_evC; exact rfl; (first | (with_reducible exact trivial) | omega); (with_reducible exact rfl); exact rfl; exact rfl; exact rfl) | apply ds_nil | (apply dt_ev; exact rfl; exact rfl; (first | (with_reducible exact trivial) | omega); (first | ((with_reducible apply hv_row); (exact rfl); (omega)) | (with_reducible exact rfl)); exact rfl; exact rfl; exact rfl; exact rfl) | (apply dt_nil0; exact rfl; exact rfl; exact rfl; exact rfl) | apply dw_seq2 | (apply ds_region; exact rfl) | (apply dw_any; kernel_rfl; kernel_rfl; exact rfl; exact rfl) | apply dw_block | apply dw_skip | apply dw_exit | apply dw_ret | apply thenD_n | apply thenD_e | apply thenD_r | apply inB_n | apply inB_r | (apply inB_e; exact rfl) | (apply dw_condP; exact rfl; all_goals intro hg))
      all_goals try (exfalso; omega)
      all_goals exact ⟨.inl rfl, _, rfl, rfl, rfl⟩
  · have hne : a ≠ b := fun h => hl (by rw [h])
    rw [decide_eq_false hne]
    repeat' (first | (apply ds_evC; exact rfl; (with_reducible exact trivial); (with_reducible exact rfl); exact rfl; exact rfl; exact rfl) | apply ds_nil | apply dw_seq2 | (apply ds_region; exact rfl) | apply dw_block | apply dw_skip | apply dw_ret | apply thenD_n | apply thenD_r | (apply dw_condP; exact rfl; all_goals intro hg))
    all_goals try (exfalso; omega)
    all_goals exact ⟨.inl rfl, _, rfl, rfl, rfl⟩
set_option maxHeartbeats 8000000 in
theorem compactW_fn (l : List (List Int)) (hn : l.Nodup) (hl : l.length ≤ 1000000) : FnOk false Tryz.prog tab tab_ok 89 [.row 0, .fn 90 []] 0 1 [(0, .row 22 1 (l.map encW))] (fun _ r H => r = .d (.slice 1 (l.map encW)) ∧ H = []) := by
  refine fn_enterF _ Tryz.func89 rfl rfl (by kernel_rfl) ?_
  intro O w0 E0 β0
  have ll : (l.map encW).length = l.length := List.length_map _
  by_cases h2 : l.length < 2
  · repeat' (first | (apply ds_evC; exact rfl; (with_reducible exact trivial); (with_reducible exact rfl); exact rfl; exact rfl; exact rfl) | apply ds_nil | apply dw_seq2 | (apply ds_region; exact rfl) | apply dw_block | apply dw_skip | apply thenD_n | (apply dw_condP; exact rfl; all_goals intro hg))
    all_goals try (exfalso; omega)
    refine dw_ent (ent_seal 4 rfl rfl rfl) ?_
    repeat' (first | apply dw_ret | apply thenD_r)
    exact ⟨.inl rfl, _, rfl, 0, [], trivial, rfl, rfl, rfl, rfl, rfl, rfl⟩
  · repeat' (first | (apply ds_evC; exact rfl; (with_reducible exact trivial); (with_reducible exact rfl); exact rfl; exact rfl; exact rfl) | apply ds_nil | apply dw_seq2 | (apply ds_region; exact rfl) | apply dw_block | apply dw_skip | apply thenD_n | (apply dw_condP; exact rfl; all_goals intro hg))
    all_goals try (exfalso; omega)
    refine ds_loop (ι := Nat) (fun i => ⟨1, [(0, .row 0), (1, .fn 90 []), (5, .d (.int .i64 i))], [(0, .row 22 1 (l.map encW))]⟩)
      (fun i => 1 ≤ i ∧ i ≤ l.length) (fun i => l.length - i) 1 ⟨by omega, by omega⟩ (ent_ren id ⟨rfl, rfl, rfl, trivial⟩ ⟨rfl, trivial⟩ rfl rfl rfl rfl rfl rfl) ?_
    rintro i ⟨g0, g1⟩
    by_cases hi : i < l.length
    · have hne : l[i] ≠ l[i - 1]'(by omega) := fun h => by
        have := (List.getElem_inj hn).1 h
        omega
      have hs : Fn 90 [.d (.slice 1 ((l[i]).map encI)), .d (.slice 1 ((l[((i : Int) - 1).toNat]'(by omega)).map encI))] (fun r => r = .d (.bool false)) := by
        have e : ((i : Int) - 1).toNat = i - 1 := by omega
        simp only [e]
        have h := equalI_fn l[i] (l[i - 1]'(by omega))
        rw [decide_eq_false hne] at h
        exact h
      repeat' (first | (apply ds_evC; exact rfl; (first | (with_reducible exact trivial) | omega); (with_reducible exact rfl); exact rfl; exact rfl; exact rfl) | apply ds_nil | (apply dt_ev; exact rfl; exact rfl; (first | (with_reducible exact trivial) | omega); (first | ((with_reducible apply hv_prow); (first | exact rfl | exact (Int.toNat_of_nonneg (by omega)).symm)) | ((with_reducible apply hv_ldrow); (apply hv_get; (omega)); exact rfl) | (with_reducible exact rfl)); exact rfl; exact rfl; exact rfl; exact rfl) | (apply dt_nil0; exact rfl; exact rfl; exact rfl; exact rfl) | apply dw_seq2 | (apply ds_region; exact rfl) | (apply dw_any; kernel_rfl; kernel_rfl; exact rfl; exact rfl) | apply dw_block | apply dw_skip | apply dw_exit | (apply dw_condF; exact rfl) | apply thenD_n | apply thenD_e | apply inB_n | (apply inB_e; exact rfl) | (apply dt_callV; exact rfl; exact rfl; exact rfl; exact rfl; apply hs; exact rfl; (exact rfl); exact rfl; exact rfl; exact ⟨_, rfl⟩; rintro _ rfl) | (apply dw_condP; exact rfl; all_goals intro hg))
      all_goals try (exfalso; omega)
      exact ⟨i + 1, ⟨by omega, by omega⟩, ent_ren id ⟨rfl, rfl, rfl, trivial⟩ ⟨rfl, trivial⟩ rfl rfl rfl rfl rfl rfl, by show l.length - (i + 1) < l.length - i; omega⟩
    · repeat' (first | (apply ds_evC; exact rfl; (with_reducible exact trivial); (with_reducible exact rfl); exact rfl; exact rfl; exact rfl) | apply ds_nil | (apply dt_ev; exact rfl; exact rfl; (first | (with_reducible exact trivial) | omega); (first | ((with_reducible apply hv_prow); (first | exact rfl | exact (Int.toNat_of_nonneg (by omega)).symm)) | ((with_reducible apply hv_ldrow); (apply hv_get; (omega)); exact rfl) | (with_reducible exact rfl)); exact rfl; exact rfl; exact rfl; exact rfl) | apply dw_seq2 | (apply ds_region; exact rfl) | (apply dw_any; kernel_rfl; kernel_rfl; exact rfl; exact rfl) | apply dw_block | apply dw_skip | apply dw_exit | apply thenD_n | apply thenD_e | (apply inB_e; exact rfl) | (apply dw_condP; exact rfl; all_goals intro hg))
      all_goals try (exfalso; omega)
      refine dw_ent (ent_seal 4 rfl rfl rfl) ?_
      repeat' (apply dw_ret)
      exact ⟨.inl rfl, _, rfl, 0, [], trivial, rfl, rfl, rfl, rfl, rfl, rfl⟩
end Go.Proofs.YtapciiffpnociacGreat

/- The program's rule.Raw. Condition: none. -/
namespace Go.Proofs.YtapciiffpnociacGreat
open Go Go.RowKit
def manyW (S : List Fct) (r : Rul) : Bool := decide ((waysL S r.vars.toNat r.body).length ≤ 2000)
def rawW (S : List Fct) (r : Rul) : List (List Int) := if manyW S r then waysL S r.vars.toNat r.body else []
structure RulS (S : List Fct) (r : Rul) : Prop where
  ok : okB S r.vars.toNat r.body
  bd : Bd r.body (List.replicate r.vars.toNat false)
  vars : 0 ≤ r.vars ∧ r.vars ≤ 8
attribute [local irreducible] DW DS DL DQ Ev FnOk FnP thenD inBlockD DT
set_option maxHeartbeats 8000000 in
theorem raw_fn (S : List Fct) (r : Rul) (hS : Strict S) (hS2 : S.length ≤ 4398046511104) (hr : RulS S r) : Fn 47 [elRul r, .d (.slice 2 (S.map encFct))] (fun res => res = .tup [.d (.slice 1 ((rawW S r).map encW)), .d (.bool (manyW S r))]) := by
  refine fnp_enter' _ Tryz.func47 rfl rfl (by kernel_rfl) ?_
  intro O w0 E0 β0
  have hv := hr.vars
  have hnd : S.Nodup := hS.imp fun h he => by subst he; exact lt_irrefl h
  obtain ⟨p1, p2, p3⟩ := ways_perm hnd hr.ok.lit hr.bd
  have w := find_fn r S hS hS2 r.body.length r.body rfl (e0 r.vars.toNat) [] (by rw [show (e0 r.vars.toNat).length = r.vars.toNat from List.length_replicate]; exact hr.ok) (fun v x hx => by
    unfold e0 at hx; rw [List.getElem?_replicate] at hx; split at hx <;> simp at hx) (by rw [hasE_e0]; exact hr.bd) (by simp)
  have hlen : (waysL S r.vars.toNat r.body).length = (findE S r.body.length r.body (e0 r.vars.toNat)).length := ((waysL_perm S r.vars.toNat r.body).trans p1.symm).length_eq
  have hnodup := (p1.nodup_iff).2 p2
  have hperm := p1
  clear p1 p2 p3
  have hfew : fewW (findE S r.body.length r.body (e0 r.vars.toNat)) [] = manyW S r := by unfold fewW manyW; rw [hlen]; simp
  rw [hfew] at w
  have hput : manyW S r = true → putW (findE S r.body.length r.body (e0 r.vars.toNat)) [] = findE S r.body.length r.body (e0 r.vars.toNat) := fun h => by
    unfold manyW at h
    have := of_decide_eq_true h
    unfold putW
    rw [List.nil_append, List.take_of_length_le (by omega)]
  generalize findE S r.body.length r.body (e0 r.vars.toNat) = fw at *
  generalize putW fw [] = pw at *
  repeat' (first | (apply ds_evC; exact rfl; (with_reducible exact trivial); (with_reducible exact rfl); exact rfl; exact rfl; exact rfl) | apply ds_nil | (apply dt_ev; exact rfl; exact rfl; (with_reducible exact trivial); (with_reducible exact rfl); exact rfl; exact rfl; exact rfl; exact rfl) | apply dw_seq2 | (apply ds_region; exact rfl) | (apply dw_any; kernel_rfl; kernel_rfl; exact rfl; exact rfl) | apply thenD_n | (apply ds_newC; exact rfl; (with_reducible exact trivial); exact rfl; exact rfl; exact rfl))
  all_goals try (exfalso; omega)
  refine dt_new rfl rfl rfl ⟨rfl, hv.1, ?_, ?_⟩ rfl rfl rfl rfl rfl ?_
  · show 8 * r.vars.toNat ≤ _; omega
  · unfold maxLen; omega
  repeat' (apply dt_ev; exact rfl; exact rfl; (with_reducible exact trivial); (with_reducible exact rfl); exact rfl; exact rfl; exact rfl; exact rfl)
  refine dt_new rfl rfl rfl ⟨rfl, hv.1, ?_, ?_⟩ rfl rfl rfl rfl rfl ?_
  · show 1 * r.vars.toNat ≤ _; omega
  · unfold maxLen; omega
  repeat' ((fail_if_success (apply dw_stopS 2)); (first | (apply dt_ev; exact rfl; exact rfl; (with_reducible exact trivial); (with_reducible exact rfl); exact rfl; exact rfl; exact rfl; exact rfl) | (apply dt_new; exact rfl; exact rfl; exact rfl; (with_reducible exact trivial); exact rfl; exact rfl; exact rfl; exact rfl; exact rfl) | (apply dt_nil; exact rfl) | apply dw_seq2 | apply thenD_n))
  refine dw_ent (ent_cellrow 10 9 22 1 rfl rfl rfl) ?_
  refine dw_ent (ent_ren (k' := 5) (L' := [(2, .loc 4 0), (6, .loc 0 0)]) (H' := (4, .blk 36 [.d (.int .i64 r.pred), .d (.slice 2 (r.terms.map encTrm)), .d (.int .i64 r.fold), .d (.slice 4 (r.body.map encLtl)), .d (.int .i64 r.vars)]) :: pfH r S (e0 r.vars.toNat) []) (fun j => match j with | 0 => 10 | 1 => 5 | 2 => 8 | 3 => 12 | 4 => 0 | j => j)
    ⟨rfl, rfl, trivial⟩ ⟨rfl, rfl, by rw [outE_e0, List.map_replicate]; rfl, by rw [hasE_e0, List.map_replicate]; rfl, rfl, trivial⟩ rfl rfl rfl rfl rfl rfl) ?_
  repeat' (first | (apply ds_evC; exact rfl; (with_reducible exact trivial); (with_reducible exact rfl); exact rfl; exact rfl; exact rfl) | apply dw_seq2 | (apply ds_region; exact rfl))
  (refine ds_callF id (w) rfl rfl rfl rfl ⟨rfl, rfl, rfl, rfl, trivial⟩ rfl rfl rfl rfl rfl rfl ?_ ?_)
  · rintro k2 res H2 ⟨rfl, rfl, rfl⟩; exact ⟨rfl, rfl⟩
  rintro k2 res H2 ⟨rfl, rfl, rfl⟩
  change DS _ _ _ _ _ _ _ _
  clear w
  unfold rawW
  cases hm : manyW S r with
  | false =>
    rw [if_neg (by simp)]
    repeat' (first | (apply ds_evC; exact rfl; (with_reducible exact trivial); (with_reducible exact rfl); exact rfl; exact rfl; exact rfl) | apply ds_nil | apply dw_seq2 | (apply ds_region; exact rfl) | (apply dw_condT; exact rfl) | apply thenD_n)
    all_goals try (exfalso; omega)
    refine dw_ent (ent_nild 4 1 rfl) ?_
    repeat' (first | apply dw_ret | apply thenD_r)
    exact ⟨.inl rfl, _, rfl, rfl, rfl⟩
  | true =>
    have hp := hput hm
    have hl2 : fw.length ≤ 2000 := by rw [← hlen]; unfold manyW at hm; exact of_decide_eq_true hm
    rw [if_pos rfl]
    subst hp
    repeat' (first | (apply ds_evC; exact rfl; (with_reducible exact trivial); (with_reducible exact rfl); exact rfl; exact rfl; exact rfl) | apply ds_nil | apply dw_seq2 | (apply ds_region; exact rfl) | apply dw_skip | (apply dw_condF; exact rfl) | apply thenD_n)
    all_goals try (exfalso; omega)
    refine ds_sort sortWays_c pw (by kernel_rfl) rfl rfl rfl rfl rfl rfl (by omega) ?_
    intro l' h6 h7
    have hsort : SortW l' := h7.imp fun {a b} h => by rw [ordL_anti]; omega
    have hl' : l' = waysL S r.vars.toNat r.body := waysL_eq hsort (h6.trans hperm)
    have hnd' : l'.Nodup := h6.nodup_iff.2 hnodup
    have w2 := compactW_fn l' hnd' (by rw [h6.length_eq]; omega)
    rw [← hl']
    repeat' (first | (apply ds_evC; exact rfl; (with_reducible exact trivial); (with_reducible exact rfl); exact rfl; exact rfl; exact rfl) | apply ds_nil | apply dw_seq2 | (apply ds_region; exact rfl) | apply thenD_n)
    all_goals try (exfalso; omega)
    refine ds_callF (fun _ => 8) w2 rfl rfl rfl rfl ⟨rfl, trivial⟩ rfl rfl rfl rfl rfl rfl ?_ ?_
    · rintro k2 res H2 ⟨rfl, rfl⟩; exact ⟨rfl, rfl⟩
    rintro k2 res H2 ⟨rfl, rfl⟩
    change DS _ _ _ _ _ _ _ _
    repeat' (first | (apply ds_evC; exact rfl; (with_reducible exact trivial); (with_reducible exact rfl); exact rfl; exact rfl; exact rfl) | apply ds_nil | apply dw_ret | apply thenD_n)
    exact ⟨.inl rfl, _, rfl, rfl, rfl⟩
end Go.Proofs.YtapciiffpnociacGreat

/- The document's lessInts, WaysOf. Condition: none. -/
namespace Go.Proofs.YtapciiffpnociacGreat
open Go Go.RowKit
attribute [local irreducible] DW DS DL DQ Ev FnOk FnP thenD inBlockD DT
end Go.Proofs.YtapciiffpnociacGreat

/- The document's checkRule and CheckProgram. Condition: none. -/
namespace Go.Proofs.YtapciiffpnociacGreat
open Go Go.RowKit
attribute [local irreducible] DW DS DL DQ Ev FnOk FnP thenD inBlockD DT
end Go.Proofs.YtapciiffpnociacGreat

/- The document's CheckProgram. Condition: none. -/
namespace Go.Proofs.YtapciiffpnociacGreat
open Go Go.RowKit
attribute [local irreducible] DW DS DL DQ Ev FnOk FnP thenD inBlockD DT
end Go.Proofs.YtapciiffpnociacGreat

/- Plain laws on tokens: what is scanned is a token by itself; what is joined is scanned as it was. Condition: none. -/
namespace Go.Proofs.YtapciiffpnociacGreat
open Go Go.RowKit
theorem tokAt_37 (l : List UInt8) : (tokAt (37 :: l)).1 = 0 := by
  rw [tokAt_cons, if_neg (by unfold letterB smallB greatB; decide), if_neg (by unfold digitB; decide), if_neg (by unfold pairB; cases l <;> simp), if_neg (by decide)]
theorem tokAt_32 (l : List UInt8) : (tokAt (32 :: l)).1 = 0 := by
  rw [tokAt_cons, if_neg (by unfold letterB smallB greatB; decide), if_neg (by unfold digitB; decide), if_neg (by unfold pairB; cases l <;> simp), if_neg (by decide)]
theorem tokAt_9 (l : List UInt8) : (tokAt (9 :: l)).1 = 0 := by
  rw [tokAt_cons, if_neg (by unfold letterB smallB greatB; decide), if_neg (by unfold digitB; decide), if_neg (by unfold pairB; cases l <;> simp), if_neg (by decide)]
theorem tokAt_10 (l : List UInt8) : (tokAt (10 :: l)).1 = 0 := by
  rw [tokAt_cons, if_neg (by unfold letterB smallB greatB; decide), if_neg (by unfold digitB; decide), if_neg (by unfold pairB; cases l <;> simp), if_neg (by decide)]
theorem tokErr_kind {k : Int} {n : Nat} {c : UInt8} (h : tokErr k n c = 0) : k ≠ 0 := by
  intro hk
  rw [tokErr_eq, if_pos hk] at h
  cases h
theorem drop_byte (s : ByteArray) (i : Nat) (h : i < s.size) : s.data.toList.drop i = s[i] :: s.data.toList.drop (i + 1) := by
  rw [List.drop_eq_getElem_cons (by simpa using h)]; rfl
theorem ext_list (s : ByteArray) (i n : Nat) : (s.extract i (i + n)).data.toList = (s.data.toList.drop i).take n := by
  simp [ByteArray.data_extract, Array.toList_extract, List.extract_eq_take_drop]
theorem bytes_inj {a b : ByteArray} (h : a.data.toList = b.data.toList) : a = b := ByteArray.ext (Array.ext' h)
theorem scan_one (s : ByteArray) (i : Nat) (k : Int) (n : Nat) (h : i < s.size) (ht : tokAt (s.data.toList.drop i) = (k, n)) (he : tokErr k n s[i] = 0) :
    scanAt s false i = (scanAt s false (i + n)).map (Tok.mk k i (s.extract i (i + n)) :: ·) := by
  have hk := tokErr_kind he
  have hd := drop_byte s i h
  have hb : ∀ c : UInt8, (∀ l, (tokAt (c :: l)).1 = 0) → s[i] ≠ c := by
    intro c hc e
    rw [hd, e] at ht
    have := hc (s.data.toList.drop (i + 1))
    rw [ht] at this
    exact hk this
  have h37 := hb 37 tokAt_37
  have h32 := hb 32 tokAt_32
  have h9 := hb 9 tokAt_9
  have h10 := hb 10 tokAt_10
  have := scanAt_tok s i h (by simpa using h37) (by simp [h32, h9, h10]) (by rw [ht]; exact he)
  rw [ht] at this
  exact this
def Chain (s : ByteArray) : Nat → List Tok → Prop
  | _, [] => True
  | i, t :: l => ∃ j, i ≤ j ∧ t.at_ = j ∧ (∃ h : j < s.size, tokAt (s.data.toList.drop j) = (t.kind, t.text.size) ∧ tokErr t.kind t.text.size s[j] = 0) ∧ j + t.text.size ≤ s.size ∧ t.text = s.extract j (j + t.text.size) ∧ Chain s (j + t.text.size) l
theorem Chain.mono {s : ByteArray} {i i' : Nat} {l : List Tok} (h : Chain s i' l) (hi : i ≤ i') : Chain s i l := by
  cases l with
  | nil => trivial
  | cons t l =>
    obtain ⟨j, h1, h2⟩ := h
    exact ⟨j, Nat.le_trans hi h1, h2⟩
theorem scanGo_chain (s : ByteArray) : ∀ (f : Nat) (note : Bool) (i : Nat) (l : List Tok), scanGo s f note i = .ok l → Chain s i l := by
  intro f
  induction f with
  | zero =>
    intro note i l h
    simp only [scanGo] at h
    cases h
    trivial
  | succ f ih =>
    intro note i l h
    simp only [scanGo] at h
    by_cases hi : i < s.size
    · rw [dif_pos hi] at h
      split at h
      · exact (ih _ _ _ h).mono (by omega)
      · split at h
        · exact (ih _ _ _ h).mono (by omega)
        · split at h
          · rename_i he
            cases hr : scanGo s f false (i + (tokAt (s.data.toList.drop i)).2) with
            | error e => rw [hr] at h; cases h
            | ok l' =>
              rw [hr] at h
              cases h
              have hle := tokAt_le (s.data.toList.drop i)
              rw [List.length_drop, show s.data.toList.length = s.size from Array.length_toList] at hle
              have hsz : (s.extract i (i + (tokAt (s.data.toList.drop i)).2)).size = (tokAt (s.data.toList.drop i)).2 := by rw [ByteArray.size_extract]; omega
              exact ⟨i, Nat.le_refl _, rfl, ⟨hi, by rw [hsz], by rw [hsz]; exact he⟩, by rw [hsz]; omega, by rw [hsz], by rw [hsz]; exact ih _ _ _ hr⟩
          · cases h
    · rw [dif_neg hi] at h
      cases h
      trivial
theorem scanGo_err (s : ByteArray) : ∀ (f : Nat) (note : Bool) (i : Nat) (p e : Int), scanGo s f note i = .error (p, e) → e ≠ 0 := by
  intro f
  induction f with
  | zero =>
    intro note i p e h
    simp only [scanGo] at h
    cases h
  | succ f ih =>
    intro note i p e h
    simp only [scanGo] at h
    by_cases hi : i < s.size
    · rw [dif_pos hi] at h
      split at h
      · exact ih _ _ _ _ h
      · split at h
        · exact ih _ _ _ _ h
        · split at h
          · cases hr : scanGo s f false (i + (tokAt (s.data.toList.drop i)).2) with
            | error e' => rw [hr] at h; cases h; exact ih _ _ _ _ hr
            | ok l' => rw [hr] at h; cases h
          · rename_i he
            injection h with h
            injection h with h1 h2
            rw [← h2]; exact he
    · rw [dif_neg hi] at h
      cases h
theorem scanS_chain (s : ByteArray) (l : List Tok) (p : Int) (h : scanS s = (l, p, 0)) : Chain s 0 l ∧ s.size ≤ 5000 ∧ p = 0 := by
  unfold scanS at h
  split at h
  · injection h with h1 h2; injection h2 with h2 h3; cases h3
  · rename_i hs
    split at h
    · rename_i l' hl
      injection h with h1 h2
      injection h2 with h2 h3
      subst h1
      unfold scanAt at hl
      exact ⟨scanGo_chain _ _ _ _ _ hl, by omega, h2.symm⟩
    · rename_i p' e hl
      injection h with h1 h2
      injection h2 with h2 h3
      subst h1
      unfold scanAt at hl
      exact absurd h3 (scanGo_err _ _ _ _ _ _ hl)
theorem isTok_eq (kind : Int) (s : ByteArray) : isTok kind s = true ↔ ∃ h : 0 < s.size, s.size ≤ 5000 ∧ tokAt s.data.toList = (kind, s.size) ∧ tokErr kind s.size s[0] = 0 := by
  unfold isTok
  by_cases h : 0 < s.size
  · rw [dif_pos h]
    simp only [Bool.and_eq_true, decide_eq_true_eq]
    constructor
    · rintro ⟨⟨⟨⟨h1, h2⟩, h3⟩, h4⟩, h5⟩
      exact ⟨h, h1, Prod.ext h3 h4, h5⟩
    · rintro ⟨_, h1, h2, h3⟩
      exact ⟨⟨⟨⟨h1, tokErr_kind h3⟩, by rw [h2]⟩, by rw [h2]⟩, h3⟩
  · rw [dif_neg h]
    exact ⟨fun h' => absurd h' Bool.false_ne_true, fun ⟨h', _⟩ => absurd h' h⟩
theorem oneS_eq (kind : Int) (s : ByteArray) : oneS kind s = isTok kind s := by
  rw [Bool.eq_iff_iff, isTok_eq]
  constructor
  · intro h
    unfold oneS at h
    split at h
    · rename_i t p e hs
      simp only [Bool.and_eq_true, decide_eq_true_eq] at h
      obtain ⟨h1, h2, h3⟩ := h
      subst h1
      obtain ⟨⟨j, g1, g2, ⟨g3, g4, g5⟩, g6, g7, _⟩, hsz, _⟩ := scanS_chain s [t] p hs
      rw [h3] at g4 g5 g6
      have hj : j = 0 := by omega
      subst hj
      rw [h2] at g4 g5
      exact ⟨g3, hsz, g4, g5⟩
    · cases h
  · rintro ⟨h, h1, h2, h3⟩
    have := scan_one s 0 kind s.size h h2 h3
    rw [scanAt_end s false (0 + s.size) (by omega)] at this
    have hext : s.extract 0 (0 + s.size) = s := bytes_inj (by rw [ext_list, List.drop_zero]; exact List.take_of_length_le (Nat.le_of_eq (Array.length_toList (xs := s.data))))
    rw [hext] at this
    unfold oneS
    rw [scanS_ok s (by omega) _ this]
    simp
end Go.Proofs.YtapciiffpnociacGreat

/- Programs: Check and the document's CheckProgram say the same. Condition: none. -/
namespace Go.Proofs.YtapciiffpnociacGreat
open Go Go.RowKit
theorem name_eq : nameS = nameR := by
  funext s
  unfold nameS nameR
  rw [oneS_eq]
theorem scheck_fn (p : Prg) : Fn 85 [elPrg p] (fun x => x = .d (.int .i64 (progE nameR p))) := name_eq ▸ check_fn p
end Go.Proofs.YtapciiffpnociacGreat


/- What is wrong with facts, and ahead of ways: the program's and the document's. Condition: none. -/
namespace Go.Proofs.YtapciiffpnociacGreat
open Go Go.RowKit
def factsE (arity : List Int) (l : List Fct) : Int := if 60 < l.length then 2 else firstL (factE arity) l
def waysE (p : Prg) (n : Int) (l : List Fct) : Int := if progE nameR p ≠ 0 then progE nameR p else if n < 0 ∨ (p.rules.length : Int) ≤ n then 5 else factsE p.arity l
attribute [local irreducible] DW DS DL DQ Ev FnOk FnP thenD inBlockD DT
set_option maxHeartbeats 8000000 in
theorem right1_fn (n : Int) : Fn 114 [.d (.int .i64 n)] (fun r => r = .d (.bool (!numB n))) := by
  refine fnp_enter' _ Tryz.func114 rfl rfl (by kernel_rfl) ?_
  intro O w0 E0 β0
  repeat' (first | (apply ds_evC; exact rfl; (with_reducible exact trivial); (with_reducible exact rfl); exact rfl; exact rfl; exact rfl) | apply ds_nil | apply dw_seq2 | (apply ds_region; exact rfl) | apply dw_ret | apply thenD_n | (apply ds_call; exact rfl; exact rfl; apply snumber_fn; exact rfl; (exact rfl); exact rfl; rintro _ rfl))
  exact ⟨.inl rfl, _, rfl, rfl, rfl⟩
set_option maxHeartbeats 8000000 in
theorem fright_fn (p : Prg) (x : Fct) : Fn 75 [elPrg p, elFct x] (fun r => r = .d (.int .i64 (factE p.arity x))) := by
  refine fnp_enter' _ Tryz.func75 rfl rfl (by kernel_rfl) ?_
  intro O w0 E0 β0
  have la : (p.arity.map encI).length = p.arity.length := List.length_map _
  have lx : (x.args.map encI).length = x.args.length := List.length_map _
  refine dw_lenA 0 0 rfl rfl fun hk => ?_
  have w1 := containsFuncInt_fn (caps := []) (f := 114) (fun n => !numB n) x.args rfl (fun n _ => right1_fn n)
  have w0 : Fn 112 [.d (.int .i64 x.pred), .d (.int .i64 0), .d (.int .i64 (((p.arity.map encI).length : Int) - 1))] (fun r => r = .d (.bool (inR x.pred 0 ((p.arity.length : Int) - 1)))) := by rw [la]; exact swithin_fn _ _ _
  unfold factE
  cases h1 : inR x.pred 0 ((p.arity.length : Int) - 1) with
  | false =>
    rw [h1] at w0
    rw [if_pos rfl]
    repeat' (first | (apply ds_evC; exact rfl; (first | (with_reducible exact trivial) | omega); (with_reducible exact rfl); exact rfl; exact rfl; exact rfl) | apply ds_nil | apply dw_seq2 | (apply ds_region; exact rfl) | apply dw_block | apply dw_ret | (apply dw_condT; exact rfl) | apply thenD_n | apply thenD_r | apply inB_r | (apply ds_call; exact rfl; exact rfl; apply w0; exact rfl; (exact rfl); exact rfl; rintro _ rfl) | (apply ds_newC; exact rfl; (with_reducible exact trivial); exact rfl; exact rfl; exact rfl))
    all_goals try (exfalso; omega)
    exact ⟨.inl rfl, _, rfl, rfl, rfl⟩
  | true =>
    rw [h1] at w0
    rw [if_neg (by simp)]
    have hr : 0 ≤ x.pred ∧ x.pred < p.arity.length := by unfold inR at h1; simp at h1; omega
    have hlt : x.pred.toNat < p.arity.length := by omega
    have hg' : p.arity.getD x.pred.toNat 0 = p.arity[x.pred.toNat] := by rw [List.getD, List.getElem?_eq_getElem hlt]; rfl
    rw [hg']
    by_cases h2 : (x.args.length : Int) ≠ p.arity[x.pred.toNat]
    · rw [if_pos h2]
      repeat' (first | (apply ds_evC; exact rfl; (first | (with_reducible exact trivial) | omega); (with_reducible exact rfl); exact rfl; exact rfl; exact rfl) | apply ds_nil | (apply dt_ev; exact rfl; exact rfl; (first | (with_reducible exact trivial) | omega); (first | ((with_reducible apply hv_row); (exact (Int.toNat_of_nonneg (by omega)).symm); (omega)) | (with_reducible exact rfl)); exact rfl; exact rfl; exact rfl; exact rfl) | (apply dt_nil0; exact rfl; exact rfl; exact rfl; exact rfl) | apply dw_seq2 | (apply ds_region; exact rfl) | (apply dw_any; kernel_rfl; kernel_rfl; exact rfl; exact rfl) | apply dw_block | apply dw_ret | (apply dw_condF; exact rfl) | apply thenD_n | apply thenD_r | apply inB_r | (apply ds_call; exact rfl; exact rfl; apply w0; exact rfl; (exact rfl); exact rfl; rintro _ rfl) | (apply ds_newC; exact rfl; (with_reducible exact trivial); exact rfl; exact rfl; exact rfl) | (apply dw_condP; exact rfl; all_goals intro hg))
      all_goals try (exfalso; omega)
      exact ⟨.inl rfl, _, rfl, rfl, rfl⟩
    · rw [if_neg h2]
      cases h3 : x.args.any (fun n => !numB n) with
      | true =>
        rw [h3] at w1
        repeat' (first | (apply ds_evC; exact rfl; (first | (with_reducible exact trivial) | omega); (with_reducible exact rfl); exact rfl; exact rfl; exact rfl) | apply ds_nil | (apply dt_ev; exact rfl; exact rfl; (first | (with_reducible exact trivial) | omega); (first | ((with_reducible apply hv_row); (exact (Int.toNat_of_nonneg (by omega)).symm); (omega)) | (with_reducible exact rfl)); exact rfl; exact rfl; exact rfl; exact rfl) | (apply dt_nil0; exact rfl; exact rfl; exact rfl; exact rfl) | apply dw_seq2 | (apply ds_region; exact rfl) | (apply dw_any; kernel_rfl; kernel_rfl; exact rfl; exact rfl) | apply dw_block | apply dw_ret | (apply dw_condT; exact rfl) | (apply dw_condF; exact rfl) | apply thenD_n | apply thenD_r | apply inB_r | (apply ds_call; exact rfl; exact rfl; apply w0; exact rfl; (exact rfl); exact rfl; rintro _ rfl) | (apply ds_call; exact rfl; exact rfl; apply w1; exact rfl; (exact rfl); exact rfl; rintro _ rfl) | (apply ds_newC; exact rfl; (with_reducible exact trivial); exact rfl; exact rfl; exact rfl) | (apply dw_condP; exact rfl; all_goals intro hg))
        all_goals try (exfalso; omega)
        exact ⟨.inl rfl, _, rfl, rfl, rfl⟩
      | false =>
        rw [h3] at w1
        repeat' (first | (apply ds_evC; exact rfl; (first | (with_reducible exact trivial) | omega); (with_reducible exact rfl); exact rfl; exact rfl; exact rfl) | apply ds_nil | (apply dt_ev; exact rfl; exact rfl; (first | (with_reducible exact trivial) | omega); (first | ((with_reducible apply hv_row); (exact (Int.toNat_of_nonneg (by omega)).symm); (omega)) | (with_reducible exact rfl)); exact rfl; exact rfl; exact rfl; exact rfl) | (apply dt_nil0; exact rfl; exact rfl; exact rfl; exact rfl) | apply dw_seq2 | (apply ds_region; exact rfl) | (apply dw_any; kernel_rfl; kernel_rfl; exact rfl; exact rfl) | apply dw_block | apply dw_skip | apply dw_ret | (apply dw_condF; exact rfl) | apply thenD_n | apply thenD_r | apply inB_n | apply inB_r | (apply ds_call; exact rfl; exact rfl; apply w0; exact rfl; (exact rfl); exact rfl; rintro _ rfl) | (apply ds_call; exact rfl; exact rfl; apply w1; exact rfl; (exact rfl); exact rfl; rintro _ rfl) | (apply ds_newC; exact rfl; (with_reducible exact trivial); exact rfl; exact rfl; exact rfl) | (apply dw_condP; exact rfl; all_goals intro hg))
        all_goals try (exfalso; omega)
        exact ⟨.inl rfl, _, rfl, rfl, rfl⟩
set_option maxHeartbeats 8000000 in
theorem ready_fn (p : Prg) (n : Int) (l : List Fct) : Fn 46 [elPrg p, .d (.int .i64 n), .d (.slice 2 (l.map encFct))] (fun r => r = .d (.int .i64 (waysE p n l))) := by
  refine fnp_enter' _ Tryz.func46 rfl rfl (by kernel_rfl) ?_
  intro O w0 E0 β0
  have w1 := scheck_fn p
  have lr : (p.rules.map encRul).length = p.rules.length := List.length_map _
  have ll : (l.map encFct).length = l.length := List.length_map _
  refine dw_lenA 0 2 rfl rfl fun hk => ?_
  unfold waysE factsE
  by_cases h0 : progE nameR p ≠ 0
  · rw [if_pos h0]
    repeat' (first | (apply ds_evC; exact rfl; (with_reducible exact trivial); (with_reducible exact rfl); exact rfl; exact rfl; exact rfl) | (apply ds_skip; exact rfl; exact rfl) | apply ds_nil | apply dw_seq2 | (apply ds_region; exact rfl) | apply dw_block | apply dw_skip | apply dw_ret | (apply dw_condT; exact rfl) | apply thenD_n | apply thenD_r | apply inB_n | apply inB_r | (apply ds_call; exact rfl; exact rfl; apply w1; exact rfl; (exact rfl); exact rfl; rintro _ rfl) | (apply ds_newC; exact rfl; (with_reducible exact trivial); exact rfl; exact rfl; exact rfl) | (apply dw_condP; exact rfl; all_goals intro hg) | ((fail_if_success (apply ds_known; exact rfl)); apply ds_guardP; exact rfl; exact rfl; exact rfl; all_goals intro hg))
    all_goals try (exfalso; omega)
    exact ⟨.inl rfl, _, rfl, rfl, rfl⟩
  · rw [if_neg h0]
    by_cases h1 : n < 0 ∨ (p.rules.length : Int) ≤ n
    · rw [if_pos h1]
      repeat' (first | (apply ds_evC; exact rfl; (with_reducible exact trivial); (with_reducible exact rfl); exact rfl; exact rfl; exact rfl) | (apply ds_skip; exact rfl; exact rfl) | apply ds_nil | apply dw_seq2 | (apply ds_region; exact rfl) | apply dw_block | apply dw_skip | apply dw_ret | (apply dw_condT; exact rfl) | apply thenD_n | apply thenD_r | apply inB_n | apply inB_r | (apply ds_call; exact rfl; exact rfl; apply w1; exact rfl; (exact rfl); exact rfl; rintro _ rfl) | (apply ds_newC; exact rfl; (with_reducible exact trivial); exact rfl; exact rfl; exact rfl) | (apply dw_condP; exact rfl; all_goals intro hg) | ((fail_if_success (apply ds_known; exact rfl)); apply ds_guardP; exact rfl; exact rfl; exact rfl; all_goals intro hg))
      all_goals try (exfalso; omega)
      all_goals exact ⟨.inl rfl, _, rfl, rfl, rfl⟩
    · rw [if_neg h1]
      by_cases h2 : 60 < l.length
      · rw [if_pos h2]
        repeat' (first | (apply ds_evC; exact rfl; (with_reducible exact trivial); (with_reducible exact rfl); exact rfl; exact rfl; exact rfl) | (apply ds_skip; exact rfl; exact rfl) | apply ds_nil | apply dw_seq2 | (apply ds_region; exact rfl) | apply dw_block | apply dw_skip | apply dw_ret | (apply dw_condT; exact rfl) | apply thenD_n | apply thenD_r | apply inB_n | apply inB_r | (apply ds_call; exact rfl; exact rfl; apply w1; exact rfl; (exact rfl); exact rfl; rintro _ rfl) | (apply ds_newC; exact rfl; (with_reducible exact trivial); exact rfl; exact rfl; exact rfl) | (apply dw_condP; exact rfl; all_goals intro hg) | ((fail_if_success (apply ds_known; exact rfl)); apply ds_guardP; exact rfl; exact rfl; exact rfl; all_goals intro hg))
        all_goals try (exfalso; omega)
        all_goals exact ⟨.inl rfl, _, rfl, rfl, rfl⟩
      · rw [if_neg h2]
        repeat' (first | (apply ds_evC; exact rfl; (with_reducible exact trivial); (with_reducible exact rfl); exact rfl; exact rfl; exact rfl) | (apply ds_skip; exact rfl; exact rfl) | apply ds_nil | apply dw_seq2 | (apply ds_region; exact rfl) | apply dw_block | apply dw_skip | apply dw_ret | (apply dw_condT; exact rfl) | apply thenD_n | apply thenD_r | apply inB_n | apply inB_r | (apply ds_call; exact rfl; exact rfl; apply w1; exact rfl; (exact rfl); exact rfl; rintro _ rfl) | (apply ds_newC; exact rfl; (with_reducible exact trivial); exact rfl; exact rfl; exact rfl) | (apply dw_condP; exact rfl; all_goals intro hg) | ((fail_if_success (apply ds_known; exact rfl)); apply ds_guardP; exact rfl; exact rfl; exact rfl; all_goals intro hg))
        all_goals try (exfalso; omega)
        refine ds_loop (ι := Nat) (fun i => ⟨1, [(3, .loc 0 0), (30, .d (.slice 2 (l.map encFct))), (31, .d (.int .i64 l.length)), (32, .d (.int .i64 i))], [(0, .blk 26 [.d (.slice 1 (p.arity.map encI)), .d (.slice 1 (p.names.map encT)), .d (.slice 5 (p.rules.map encRul))])]⟩)
          (fun i => i ≤ l.length ∧ firstL (factE p.arity) l = firstL (factE p.arity) (l.drop i)) (fun i => l.length - i) 0 ⟨Nat.zero_le _, rfl⟩ (ent_ren id ⟨rfl, rfl, by rw [← ll]; rfl, rfl, trivial⟩ ⟨rfl, trivial⟩ rfl rfl rfl rfl rfl rfl) ?_
        rintro i ⟨g1, g2⟩
        dsimp only at g1 g2 ⊢
        by_cases hi : i < l.length
        · rw [firstL_step hi] at g2
          have w2 := fright_fn p l[i]
          by_cases h3 : factE p.arity l[i] ≠ 0
          · rw [if_pos h3] at g2
            rw [g2]
            repeat' (first | (apply ds_evC; exact rfl; (first | (with_reducible exact trivial) | omega); (first | ((with_reducible apply hv_row); (exact rfl); (omega)) | (with_reducible exact rfl)); exact rfl; exact rfl; exact rfl) | apply ds_nil | apply dw_seq2 | (apply ds_region; exact rfl) | apply dw_block | apply dw_skip | apply dw_exit | apply dw_ret | apply thenD_n | apply thenD_e | apply thenD_r | apply inB_n | apply inB_r | (apply inB_e; exact rfl) | (apply ds_call; exact rfl; exact rfl; apply w2; exact rfl; (exact rfl); exact rfl; rintro _ rfl) | (apply ds_newC; exact rfl; (with_reducible exact trivial); exact rfl; exact rfl; exact rfl) | (apply ds_setC; exact rfl; exact rfl; exact rfl; exact rfl) | (apply dw_condP; exact rfl; all_goals intro hg))
            all_goals try (exfalso; omega)
            all_goals exact ⟨.inl rfl, _, rfl, rfl, rfl⟩
          · rw [if_neg h3] at g2
            repeat' (first | (apply ds_evC; exact rfl; (first | (with_reducible exact trivial) | omega); (first | ((with_reducible apply hv_row); (exact rfl); (omega)) | (with_reducible exact rfl)); exact rfl; exact rfl; exact rfl) | apply ds_nil | apply dw_seq2 | (apply ds_region; exact rfl) | apply dw_block | apply dw_skip | apply dw_exit | apply dw_ret | apply thenD_n | apply thenD_e | apply thenD_r | apply inB_n | apply inB_r | (apply inB_e; exact rfl) | (apply ds_call; exact rfl; exact rfl; apply w2; exact rfl; (exact rfl); exact rfl; rintro _ rfl) | (apply ds_newC; exact rfl; (with_reducible exact trivial); exact rfl; exact rfl; exact rfl) | (apply ds_setC; exact rfl; exact rfl; exact rfl; exact rfl) | (apply dw_condP; exact rfl; all_goals intro hg))
            all_goals try (exfalso; omega)
            exact ⟨i + 1, ⟨hi, g2⟩, ent_ren id ⟨rfl, rfl, rfl, rfl, trivial⟩ ⟨rfl, trivial⟩ rfl rfl rfl rfl rfl rfl, by omega⟩
        · rw [firstL_end (by omega)] at g2
          rw [g2]
          repeat' (first | (apply ds_evC; exact rfl; (first | (with_reducible exact trivial) | omega); (first | ((with_reducible apply hv_row); (exact rfl); (omega)) | (with_reducible exact rfl)); exact rfl; exact rfl; exact rfl) | apply ds_nil | apply dw_seq2 | (apply ds_region; exact rfl) | apply dw_block | apply dw_skip | apply dw_exit | apply dw_ret | apply thenD_n | apply thenD_e | (apply inB_e; exact rfl) | (apply ds_newC; exact rfl; (with_reducible exact trivial); exact rfl; exact rfl; exact rfl) | (apply ds_setC; exact rfl; exact rfl; exact rfl; exact rfl) | (apply dw_condP; exact rfl; all_goals intro hg))
          all_goals try (exfalso; omega)
          all_goals exact ⟨.inl rfl, _, rfl, rfl, rfl⟩
end Go.Proofs.YtapciiffpnociacGreat

/- relation.keep. Condition: none. -/
namespace Go.Proofs.YtapciiffpnociacGreat
open Go Go.RowKit
attribute [local irreducible] DW DS DL DQ Ev FnOk FnP thenD inBlockD DT
set_option maxHeartbeats 8000000 in
theorem keep_fn (l : List Fct) (g : FuncId) (caps : List SV) (pr : Fct → Bool) (hlow : SV.lowL 0 caps = true) (hl : l.length ≤ 4398046511104) (hargs : ∀ x ∈ l, x.args.length ≤ 17592186044416) (hg : ∀ x ∈ l, Fn g ([elFct x] ++ caps) (fun r => r = .d (.bool (pr x)))) :
    Fn 91 [.d (.slice 2 (l.map encFct)), .fn g caps] (fun r => ∃ s : List Fct, s.Perm (l.filter pr) ∧ s.Pairwise (fun a b => ordF b a ≥ 0) ∧ r = .d (.slice 2 ((cmpF s).map encFct))) := by
  refine fnp_enter' _ Tryz.func91 rfl rfl (by kernel_rfl) ?_
  intro O w0 E0 β0
  have ll : (l.map encFct).length = l.length := List.length_map _
  have hlows : ∀ k, SV.lowL k caps = true := fun k => SV.lowL_mono k caps hlow
  repeat' ((fail_if_success (apply dw_stop 0)); (first | (apply ds_evC; exact rfl; (with_reducible exact trivial); (with_reducible exact rfl); exact rfl; exact rfl; exact rfl) | apply ds_nil | apply dw_seq2 | (apply ds_region; exact rfl) | apply dw_block | apply thenD_n))
  refine dw_ent (ent_nilrow (t := 5) 48 2 rfl) ?_
  repeat' fail
  refine ds_loop (ι := Nat × List Fct) (fun x => ⟨1, [(1, .fn g caps), (5, .row 0), (8, .d (.slice 2 (l.map encFct))), (9, .d (.int .i64 l.length)), (10, .d (.int .i64 x.1))], [(0, .row 48 2 (x.2.map encFct))]⟩)
    (fun x => x.1 ≤ l.length ∧ x.2 = (l.take x.1).filter pr) (fun x => l.length - x.1) (0, []) ⟨Nat.zero_le _, rfl⟩ (ent_ren id ⟨(SV.ren_id _).symm, rfl, rfl, by rw [← ll]; rfl, rfl, trivial⟩ ⟨rfl, trivial⟩ (by simp [Sl.low, SV.low, hlows]) rfl rfl rfl rfl rfl) ?_
  rintro ⟨i, o⟩ ⟨g1, g2⟩
  dsimp only at g1 g2 ⊢
  have lo : (o.map encFct).length = o.length := List.length_map _
  have hol : o.length ≤ i := by rw [g2]; have := List.length_filter_le pr (l.take i); rw [List.length_take] at this; omega
  by_cases hi : i < l.length
  · have hm := List.getElem_mem hi
    have hx := hg _ hm
    have hw := own_fn l[i] (hargs _ hm)
    have hll : SV.lowL 0 ([elFct l[i]] ++ caps) = true := by simp [SV.lowL, SV.low, hlow]
    have hstep : (l.take (i + 1)).filter pr = o ++ (if pr l[i] then [l[i]] else []) := by
      rw [List.take_succ_eq_append_getElem hi, List.filter_append, ← g2]
      congr 1
      simp [List.filter_cons]
    cases hb : pr l[i] with
    | true =>
      rw [hb] at hx
      rw [hb, if_pos rfl] at hstep
      repeat' (first | (apply ds_evC; exact rfl; (first | (with_reducible exact trivial) | omega); (first | ((with_reducible apply hv_row); (exact rfl); (omega)) | (with_reducible exact rfl)); exact rfl; exact rfl; exact rfl) | apply ds_nil | apply dw_seq2 | (apply ds_region; exact rfl) | apply dw_block | apply dw_skip | apply dw_exit | (apply dw_condT; exact rfl) | apply thenD_n | apply thenD_e | apply inB_n | (apply inB_e; exact rfl) | (apply ds_callV; exact rfl; exact rfl; exact rfl; exact rfl; apply hx; exact rfl; (assumption); exact rfl; rintro _ rfl) | (apply ds_call; exact rfl; exact rfl; apply hw; exact rfl; (exact rfl); exact rfl; rintro _ rfl) | (apply ds_newC; exact rfl; (with_reducible exact trivial); exact rfl; exact rfl; exact rfl) | (apply ds_setC; exact rfl; exact rfl; exact rfl; exact rfl) | (apply ds_bsC; exact rfl; exact rfl; exact rfl; exact rfl) | (apply ds_tradeC; exact rfl; (unfold maxLen; simp <;> omega); exact rfl; exact rfl; exact rfl; exact rfl) | (apply dw_condP; exact rfl; all_goals intro hg))
      all_goals try (exfalso; omega)
      exact ⟨(i + 1, o ++ [l[i]]), ⟨by dsimp only; omega, hstep.symm⟩, ent_ren (fun j => match j with | 0 => 2 | j => j) ⟨(SV.ren_low0 _ (.fn g caps) hlow).symm, rfl, rfl, rfl, rfl, trivial⟩ ⟨by rw [List.map_append]; rfl, trivial⟩ (by simp [Sl.low, SV.low, hlows]) rfl rfl rfl rfl rfl, by show l.length - (i + 1) < l.length - i; omega⟩
    | false =>
      rw [hb] at hx
      rw [hb, if_neg (by simp), List.append_nil] at hstep
      repeat' (first | (apply ds_evC; exact rfl; (first | (with_reducible exact trivial) | omega); (first | ((with_reducible apply hv_row); (exact rfl); (omega)) | (with_reducible exact rfl)); exact rfl; exact rfl; exact rfl) | apply ds_nil | apply dw_seq2 | (apply ds_region; exact rfl) | apply dw_block | apply dw_skip | apply dw_exit | (apply dw_condF; exact rfl) | apply thenD_n | apply thenD_e | apply inB_n | (apply inB_e; exact rfl) | (apply ds_callV; exact rfl; exact rfl; exact rfl; exact rfl; apply hx; exact rfl; (assumption); exact rfl; rintro _ rfl) | (apply ds_newC; exact rfl; (with_reducible exact trivial); exact rfl; exact rfl; exact rfl) | (apply ds_setC; exact rfl; exact rfl; exact rfl; exact rfl) | (apply dw_condP; exact rfl; all_goals intro hg))
      all_goals try (exfalso; omega)
      exact ⟨(i + 1, o), ⟨by dsimp only; omega, hstep.symm⟩, ent_ren id ⟨(SV.ren_low0 _ (.fn g caps) hlow).symm, rfl, rfl, rfl, rfl, trivial⟩ ⟨rfl, trivial⟩ (by simp [Sl.low, SV.low, hlows]) rfl rfl rfl rfl rfl, by show l.length - (i + 1) < l.length - i; omega⟩
  · rw [List.take_of_length_le (by omega)] at g2
    repeat' (first | (apply ds_evC; exact rfl; (first | (with_reducible exact trivial) | omega); (first | ((with_reducible apply hv_row); (exact rfl); (omega)) | (with_reducible exact rfl)); exact rfl; exact rfl; exact rfl) | apply ds_nil | apply dw_seq2 | (apply ds_region; exact rfl) | apply dw_block | apply dw_skip | apply dw_exit | apply thenD_n | apply thenD_e | (apply inB_e; exact rfl) | (apply ds_newC; exact rfl; (with_reducible exact trivial); exact rfl; exact rfl; exact rfl) | (apply ds_setC; exact rfl; exact rfl; exact rfl; exact rfl) | (apply dw_condP; exact rfl; all_goals intro hg))
    all_goals try (exfalso; omega)
    refine ds_sort sortFacts_c o (by kernel_rfl) rfl rfl rfl rfl rfl rfl (by omega) ?_
    intro s hp hs
    have hsl : s.length ≤ 4398046511104 := by rw [hp.length_eq]; omega
    refine ds_ent (ent_ren (k' := 1) (L' := [(5, .row 0)]) (H' := [(0, .row 48 2 (s.map encFct))]) id ⟨rfl, trivial⟩ ⟨rfl, trivial⟩ rfl rfl rfl rfl rfl rfl) ?_
    repeat' (first | (apply ds_evC; exact rfl; (with_reducible exact trivial); (with_reducible exact rfl); exact rfl; exact rfl; exact rfl) | apply ds_nil | apply dw_seq2 | (apply ds_region; exact rfl) | apply thenD_n)
    all_goals try (exfalso; omega)
    (refine ds_callF id (compact_fn s hsl) rfl rfl rfl rfl ⟨rfl, trivial⟩ rfl rfl rfl rfl rfl rfl ?_ ?_)
    · rintro k2 r H2 ⟨rfl, rfl⟩; exact ⟨rfl, rfl⟩
    rintro k2 r H2 ⟨rfl, rfl⟩
    change DS _ _ _ _ _ _ _ _
    repeat' (first | (apply ds_evC; exact rfl; (with_reducible exact trivial); (with_reducible exact rfl); exact rfl; exact rfl; exact rfl) | apply ds_nil | apply dw_ret | apply thenD_n)
    exact ⟨.inl rfl, _, rfl, rfl, s, g2 ▸ hp, hs, rfl⟩
end Go.Proofs.YtapciiffpnociacGreat

/- A plain logic over the walk: a range over a function. No program is named here. Condition: none. -/
namespace Go.Proofs.YtapciiffpnociacGreat
open Go Go.RowKit
def Kepts (L : Sl) : Sl → Prop
  | [] => True
  | (t, s) :: r => Sl.get L t = s ∧ Kepts L r
def params : List Nat → List SV → Sl → Sl
  | p :: ps, s :: ss, L => params ps ss ((p, s) :: L)
  | _, _, L => L
theorem Heap.widen {Γ : Ctx} {k : Nat → Prop} {H : Hp} {e : Env} {w : World} {l : Nat} (h : Heap Γ k H e w) (hl : ¬ Γ.O l) : Heap ⟨Γ.P, Γ.τ, Γ.τok, Γ.O, Γ.w0, fun b => Γ.E0 b ∨ b = l, Γ.n, Γ.J, Γ.β0, Γ.rd, Γ.pan, Γ.mks, Γ.dr⟩ k H e w where
  top := h.top
  heap := h.heap
  ids := h.ids
  nodup := h.nodup
  mine b hb := ⟨(h.mine b hb).1.imp .inl id, (h.mine b hb).2⟩
  os := h.os
  tape := h.tape
  output := h.output
  drawn := h.drawn
  size := h.size
  block b h1 h2 := h.block b h1 fun h => h2 (.inl h)
  obound b hb := ⟨(h.obound b hb).1, fun hx => hx.elim (h.obound b hb).2 fun hx => hl (hx ▸ hb)⟩
  jle := h.jle
  anchor := h.anchor
end Go.Proofs.YtapciiffpnociacGreat

/- A plain logic over the walk: iterators. No program is named here. Condition: none. -/
namespace Go.Proofs.YtapciiffpnociacGreat
open Go Go.RowKit
def SV.flat : SV → Bool
  | .val _ => true
  | .junk => true
  | .d (.int _ _) => true
  | .d (.bool _) => true
  | _ => false
theorem Rel.flat {X e w X' e' w'} : ∀ (s : SV) (v : Value), s.flat = true → Rel X e w s v → Rel X' e' w' s v
  | .val _, _, _, h => h
  | .junk, _, _, _ => trivial
  | .d (.int _ _), _, _, h => by
    have h' : RepC _ _ _ _ := h
    cases h' with
    | int g => exact RepC.int g
  | .d (.bool _), _, _, h => by
    have h : RepC _ _ _ _ := h
    cases h
    exact RepC.bool
  | .d (.str _), _, h, _ => nomatch h
  | .d (.slice _ _), _, h, _ => nomatch h
  | .nils, _, h, _ => nomatch h
  | .pd _, _, h, _ => nomatch h
  | .loc _ _, _, h, _ => nomatch h
  | .row _, _, h, _ => nomatch h
  | .prow _ _ _ _, _, h, _ => nomatch h
  | .sl _ _ _ _, _, h, _ => nomatch h
  | .rsl _ _ _ _, _, h, _ => nomatch h
  | .fn _ _, _, h, _ => nomatch h
  | .agg _, _, h, _ => nomatch h
  | .tup _, _, h, _ => nomatch h
def flatB : Sl → Bool
  | [] => true
  | (_, s) :: r => s.flat && flatB r
theorem flat_get : ∀ {L : Sl}, flatB L = true → ∀ t, (L.get t).flat = true
  | [], _, _ => rfl
  | (d, s) :: r, h, t => by
    simp only [flatB, Bool.and_eq_true] at h
    rw [Sl.get_cons]
    split
    · exact h.1
    · exact flat_get h.2 t
theorem kepts_get {L : Sl} : ∀ {L' : Sl}, Kepts L L' → ∀ t, L'.get t = .junk ∨ L'.get t = L.get t
  | [], _, _ => .inl rfl
  | (d, s) :: r, h, t => by
    rw [Sl.get_cons]
    split
    · rename_i hd; subst hd; exact .inr h.1.symm
    · exact kepts_get h.2 t
structure Flat (N : Nat) (L : Sl) (a : Act) : Prop where
  len : a.tmps.size = N
  defers : a.defers = []
  slot : ∀ t X e w, Rel X e w (L.get t) (a.tmps.getD t undef)
abbrev Γit (P : Program) (τ : List (Nat × TI)) (τok : TabOk P τ) (O : Nat → Prop) (W : World) (N : Nat) : Ctx := ⟨P, τ, τok, O, W, fun _ => False, N, 0, fun _ => (0, undef), none, noPan, false, false⟩
section
variable {P : Program} {τ : List (Nat × TI)} {τok : TabOk P τ} {O : Nat → Prop} {N : Nat} {L : Sl}
theorem Models.flatten {W : World} {k : Nat → Prop} {H : Hp} {e : Env} {a : Act} {w : World} (m : Models (Γit P τ τok O W N) k L H e a w) {Ls : Sl} (hK : Kepts L Ls) (hf : flatB Ls = true) : Flat N Ls a where
  len := m.len
  defers := by
    obtain ⟨rs, h1, h0, _⟩ := m.defers
    rw [h1, h0 rfl]; rfl
  slot t X e' w' := by
    have hg := flat_get hf t
    rcases kepts_get hK t with h | h
    · rw [h]; trivial
    · rw [h] at hg ⊢; exact Rel.flat _ _ hg (m.slot t)
end
section
variable {Γ : Ctx} {k : Nat} {L : Sl} {H : Hp} {K : Next'} {ops : List Oper} {rest : List Oper} {x y : Operand} {t ty : TypeId}
end
section
variable {Γ : Ctx} {k : Nat} {L : Sl} {H : Hp} {R : Exit → Act → World → Prop}
end
section
variable {Γ : Ctx} {k : Nat} {L : Sl} {H : Hp} {R : Exit → Act → World → Prop}
end
end Go.Proofs.YtapciiffpnociacGreat

/- relation.Set, Has. Condition: none. -/
namespace Go.Proofs.YtapciiffpnociacGreat
open Go Go.RowKit
theorem FnP.imp {dr : Bool} {P : Program} {τ : List (Nat × TI)} {τok : TabOk P τ} {f : FuncId} {args : List SV} {R R' : SV → Prop} (h : FnP dr P τ τok f args R) (g : ∀ r, R r → R' r) : FnP dr P τ τok f args R' :=
  ⟨h.1, fun O e w vs hH hr => (h.2 O e w vs hH hr).mono fun _ _ ⟨k', r, H', e', v, ⟨a, b, c⟩, d⟩ => ⟨k', r, H', e', v, ⟨a, b, g r c⟩, d⟩⟩
attribute [local irreducible] DW DS DL DQ Ev FnOk FnP thenD inBlockD DT
theorem keepS_fn (l : List Fct) (g : FuncId) (caps : List SV) (pr : Fct → Bool) (hlow : SV.lowL 0 caps = true) (hl : l.length ≤ 4398046511104) (hargs : ∀ x ∈ l, x.args.length ≤ 17592186044416) (hg : ∀ x ∈ l, Fn g ([elFct x] ++ caps) (fun r => r = .d (.bool (pr x)))) :
    Fn 91 [.d (.slice 2 (l.map encFct)), .fn g caps] (fun r => r = .d (.slice 2 ((setF' (l.filter pr)).map encFct))) :=
  FnP.imp (keep_fn l g caps pr hlow hl hargs hg) fun r ⟨s, h1, h2, h3⟩ => by rw [h3, keep_set h1 h2]
set_option maxHeartbeats 8000000 in
theorem set_fn (l : List Fct) (hl : l.length ≤ 4398046511104) (hargs : ∀ x ∈ l, x.args.length ≤ 17592186044416) : Fn 48 [.d (.slice 2 (l.map encFct))] (fun r => r = .d (.slice 2 ((setF' l).map encFct))) := by
  refine fnp_enter' _ Tryz.func48 rfl rfl (by kernel_rfl) ?_
  intro O w0 E0 β0
  have hk := keepS_fn l 92 [] (fun _ => true) rfl hl hargs (fun x _ => setAny_fn x)
  rw [show l.filter (fun _ => true) = l from List.filter_eq_self.2 fun _ _ => rfl] at hk
  repeat' (first | (apply ds_evC; exact rfl; (with_reducible exact trivial); (with_reducible exact rfl); exact rfl; exact rfl; exact rfl) | apply ds_nil | apply dw_seq2 | (apply ds_region; exact rfl) | apply dw_ret | apply thenD_n | (apply ds_call; exact rfl; exact rfl; apply hk; exact rfl; (exact rfl); exact rfl; rintro _ rfl))
  exact ⟨.inl rfl, _, rfl, rfl, rfl⟩
end Go.Proofs.YtapciiffpnociacGreat

/- Plain words: heads of a rule's ways, as the document and the program make them. Condition: none. -/
namespace Go.Proofs.YtapciiffpnociacGreat
def stepN (fold : Int) (st : Int × Int) (x : Int) : Int × Int :=
  (if fold = 1 then st.2 + 1 else if fold = 2 then st.1 + x else if st.2 + 1 = 1 ∨ (fold = 3 ∧ x < st.1) ∨ (fold = 4 ∧ st.1 < x) then x else st.1, st.2 + 1)
def foldN (fold : Int) (l : List Int) : Int := (l.foldl (stepN fold) (0, 0)).1
theorem numB_of {n : Int} (h : -1000000 ≤ n ∧ n ≤ 1000000) : numB n = true := by unfold numB inR; simp; omega
def grpL (ws : List (List Int × Int)) (p : List Int) : List Int := (ws.filter fun w => decide (w.1 = p)).map (·.2)
def aW (r : Rul) (w : List Int) : List Int := r.terms.map (vA w)
def pW (r : Rul) (w : List Int) : List Int × Int := ((aW r w).take (r.terms.length - 1), (aW r w).getD (r.terms.length - 1) 0)
def headsD (r : Rul) (ways : List (List Int)) : List Fct := if r.fold = 0 then ways.map fun w => ⟨r.pred, aW r w⟩
  else ways.filterMap fun w => if numB (foldN r.fold (grpL (ways.map (pW r)) (pW r w).1)) then some ⟨r.pred, (pW r w).1 ++ [foldN r.fold (grpL (ways.map (pW r)) (pW r w).1)]⟩ else none
end Go.Proofs.YtapciiffpnociacGreat

/- The program's rule.Ways, Args. Condition: none. -/
namespace Go.Proofs.YtapciiffpnociacGreat
open Go Go.RowKit
def ruleAt (p : Prg) (n : Int) : Rul := p.rules.getD n.toNat ⟨0, [], 0, [], 0⟩
def wayE (p : Prg) (n : Int) (l : List Fct) : Int := if waysE p n l ≠ 0 then waysE p n l else if manyW (setF' l) (ruleAt p n) then 0 else 2
def wayL (p : Prg) (n : Int) (l : List Fct) : List (List Int) := if waysE p n l = 0 then rawW (setF' l) (ruleAt p n) else []
structure WayOk (p : Prg) (n : Int) (l : List Fct) : Prop where
  prog : progE nameR p = 0
  lo : 0 ≤ n
  hi : n.toNat < p.rules.length
  len : l.length ≤ 60
  facts : ∀ x ∈ l, FctOk p.arity x
  rul : RulR p.arity (ruleAt p n)
  ruls : RulS (setF' l) (ruleAt p n)
  alen : ∀ x ∈ l, x.args.length ≤ 3
  tlen : (ruleAt p n).terms.length ≤ 3
theorem ruleAt_get {p : Prg} {n : Int} (h : n.toNat < p.rules.length) : ruleAt p n = p.rules[n.toNat] := by unfold ruleAt; rw [List.getD, List.getElem?_eq_getElem h]; rfl
theorem rulS_mk {arity : List Int} {S : List Fct} {r : Rul} (hr : RulR arity r) (ha : ∀ i, 0 ≤ arity.getD i 0 ∧ arity.getD i 0 ≤ 3) (hS : ∀ x ∈ S, FctOk arity x) : RulS S r := by
  have hv := hr.vars
  refine ⟨⟨fun l hl => lit_okL (hr.lits l hl) hv.1 hS, fun l hl hk => ?_, fun l hl t ht => ?_, fun x hx => (hS x hx).nums, hr.body, by omega, fun l hl => ?_⟩, safe_Bd hr.safe, hv⟩
  · obtain ⟨_, h2, _⟩ := litE_right (hr.lits l hl)
    unfold opB inR at h2
    rw [if_pos hk] at h2
    simp only [Bool.and_eq_true, decide_eq_true_eq] at h2
    exact h2
  · exact ((litE_right (hr.lits l hl)).2.2.2.2 t ht).2.2
  · obtain ⟨h1, _, h3, h4, _⟩ := litE_right (hr.lits l hl)
    by_cases hk : l.kind = 1 ∨ l.kind = 2
    · have := (h3 hk).2
      have := ha l.pred.toNat
      omega
    · have := (h4 hk).2
      omega
theorem wayOk {p : Prg} {n : Int} {l : List Fct} (h : waysE p n l = 0) : WayOk p n l := by
  unfold waysE at h
  split at h
  · rename_i h1; exact absurd h h1
  rename_i h1
  split at h; · cases h
  rename_i h2
  unfold factsE at h
  split at h; · cases h
  rename_i h3
  have h1 : progE nameR p = 0 := by simpa using h1
  obtain ⟨q1, q2, _, _⟩ := progE_rule h1
  have hi : n.toNat < p.rules.length := by omega
  have hf : ∀ x ∈ l, FctOk p.arity x := fun x hx => factE_ok (firstL_all0 h x hx)
  have hr : RulR p.arity (ruleAt p n) := by rw [ruleAt_get hi]; exact q1 _ (List.getElem_mem hi)
  refine ⟨h1, by omega, hi, by omega, hf, hr, rulS_mk hr q2 fun x hx => hf x (((setF_spec l).2 x).1 hx), fun x hx => ?_, ?_⟩
  · have := (hf x hx).len
    have := q2 x.pred.toNat
    omega
  · have := hr.tlen
    have := q2 (ruleAt p n).pred.toNat
    omega
attribute [local irreducible] DW DS DL DQ Ev FnOk FnP thenD inBlockD DT
set_option maxHeartbeats 8000000 in
theorem args_fn (l : List Trm) (a : List Int) (hok : ∀ t ∈ l, okT a.length t) (hl : l.length ≤ 1000000) : Fn 93 [.d (.slice 2 (l.map encTrm)), .d (.slice 1 (a.map encI))] (fun r => r = .d (.slice 1 ((l.map (vA a)).map encI))) := by
  refine fnp_enter' _ Tryz.func93 rfl rfl (by kernel_rfl) ?_
  intro O w0 E0 β0
  have ll : (l.map encTrm).length = l.length := List.length_map _
  have la : (a.map encI).length = a.length := List.length_map _
  repeat' (first | (apply ds_bs0; exact rfl; exact rfl; exact rfl; exact rfl; exact rfl; exact rfl; exact rfl; exact rfl) | (first | (apply ds_evC; exact rfl; (with_reducible exact trivial); (with_reducible exact rfl); exact rfl; exact rfl; exact rfl) | apply ds_nil | apply dw_seq2 | (apply ds_region; exact rfl) | apply dw_block | apply thenD_n))
  refine ds_loop (ι := Nat) (fun i => ⟨1, [(0, .d (.slice 2 (l.map encTrm))), (1, .d (.slice 1 (a.map encI))), (5, .row 0), (9, .d (.slice 2 (l.map encTrm))), (10, .d (.int .i64 l.length)), (11, .d (.int .i64 i))], [(0, .row 3 1 (((l.take i).map (vA a)).map encI))]⟩)
    (fun i => i ≤ l.length) (fun i => l.length - i) 0 (Nat.zero_le _) (ent_ren id ⟨rfl, rfl, rfl, rfl, by rw [← ll]; rfl, rfl, trivial⟩ ⟨rfl, trivial⟩ rfl rfl rfl rfl rfl rfl) ?_
  intro i g1
  by_cases hi : i < l.length
  · have ho := hok _ (List.getElem_mem hi)
    unfold okT at ho
    have ht : l.take (i + 1) = l.take i ++ [l[i]] := List.take_succ_eq_append_getElem hi
    by_cases hv : l[i].var < 0
    · have hva : vA a l[i] = l[i].n := by unfold vA; rw [if_pos hv]
      repeat' (first | (apply ds_evC; exact rfl; (first | (with_reducible exact trivial) | omega); (first | ((with_reducible apply hv_row); (first | exact rfl | exact (Int.toNat_of_nonneg (by omega)).symm); (omega)) | (with_reducible exact rfl)); exact rfl; exact rfl; exact rfl) | apply ds_nil | apply dw_seq2 | (apply ds_region; exact rfl) | apply dw_block | apply dw_skip | apply dw_exit | apply thenD_n | apply thenD_e | apply inB_n | (apply inB_e; exact rfl) | (apply ds_newC; exact rfl; (with_reducible exact trivial); exact rfl; exact rfl; exact rfl) | (apply ds_setC; exact rfl; exact rfl; exact rfl; exact rfl) | (apply ds_bsC; exact rfl; exact rfl; exact rfl; exact rfl) | (apply ds_tradeC; exact rfl; (first | omega | (unfold maxLen; simp <;> omega)); exact rfl; exact rfl; exact rfl; exact rfl) | (apply dw_condP; exact rfl; all_goals intro hg))
      all_goals try (exfalso; omega)
      exact ⟨i + 1, hi, ent_ren (fun _ => 2) ⟨rfl, rfl, rfl, rfl, rfl, rfl, trivial⟩ ⟨by rw [ht, List.map_append, List.map_append, List.map_singleton, hva]; rfl, trivial⟩ rfl rfl rfl rfl rfl rfl, by omega⟩
    · have hlt : l[i].var.toNat < a.length := by omega
      have hva : vA a l[i] = a[l[i].var.toNat] := by unfold vA; rw [if_neg hv, List.getD, List.getElem?_eq_getElem hlt]; rfl
      repeat' (first | (apply ds_evC; exact rfl; (first | (with_reducible exact trivial) | omega); (first | ((with_reducible apply hv_row); (first | exact rfl | exact (Int.toNat_of_nonneg (by omega)).symm); (omega)) | (with_reducible exact rfl)); exact rfl; exact rfl; exact rfl) | apply ds_nil | apply dw_seq2 | (apply ds_region; exact rfl) | apply dw_block | apply dw_skip | apply dw_exit | apply thenD_n | apply thenD_e | apply inB_n | (apply inB_e; exact rfl) | (apply ds_newC; exact rfl; (with_reducible exact trivial); exact rfl; exact rfl; exact rfl) | (apply ds_setC; exact rfl; exact rfl; exact rfl; exact rfl) | (apply ds_bsC; exact rfl; exact rfl; exact rfl; exact rfl) | (apply ds_tradeC; exact rfl; (first | omega | (unfold maxLen; simp <;> omega)); exact rfl; exact rfl; exact rfl; exact rfl) | (apply dw_condP; exact rfl; all_goals intro hg))
      all_goals try (exfalso; omega)
      exact ⟨i + 1, hi, ent_ren (fun _ => 2) ⟨rfl, rfl, rfl, rfl, rfl, rfl, trivial⟩ ⟨by rw [ht, List.map_append, List.map_append, List.map_singleton, hva]; rfl, trivial⟩ rfl rfl rfl rfl rfl rfl, by omega⟩
  · rw [List.take_of_length_le (by omega)]
    repeat' (first | (apply ds_evC; exact rfl; (first | (with_reducible exact trivial) | omega); (first | ((with_reducible apply hv_row); (first | exact rfl | exact (Int.toNat_of_nonneg (by omega)).symm); (omega)) | (with_reducible exact rfl)); exact rfl; exact rfl; exact rfl) | apply ds_nil | apply dw_seq2 | (apply ds_region; exact rfl) | apply dw_block | apply dw_skip | apply dw_exit | apply thenD_n | apply thenD_e | apply inB_n | (apply inB_e; exact rfl) | (apply ds_newC; exact rfl; (with_reducible exact trivial); exact rfl; exact rfl; exact rfl) | (apply ds_setC; exact rfl; exact rfl; exact rfl; exact rfl) | (apply ds_bsC; exact rfl; exact rfl; exact rfl; exact rfl) | (apply ds_tradeC; exact rfl; (omega); exact rfl; exact rfl; exact rfl; exact rfl) | (apply dw_condP; exact rfl; all_goals intro hg))
    all_goals try (exfalso; omega)
    refine dw_ent (ent_seal 4 rfl rfl rfl) ?_
    repeat' (apply dw_ret)
    exact ⟨.inl rfl, _, rfl, rfl, rfl⟩
set_option maxHeartbeats 8000000 in
theorem ways_fn (p : Prg) (n : Int) (l : List Fct) : Fn 12 [elPrg p, .d (.int .i64 n), .d (.slice 2 (l.map encFct))] (fun r => r = .tup [.d (.slice 1 ((wayL p n l).map encW)), .d (.int .i64 (wayE p n l))]) := by
  refine fnp_enter' _ Tryz.func12 rfl rfl (by kernel_rfl) ?_
  intro O w0 E0 β0
  have w1 := ready_fn p n l
  unfold wayL wayE
  by_cases h0 : waysE p n l ≠ 0
  · rw [if_pos h0, if_neg h0]
    repeat' (first | (apply ds_evC; exact rfl; (with_reducible exact trivial); (with_reducible exact rfl); exact rfl; exact rfl; exact rfl) | apply ds_nil | (apply dt_ev; exact rfl; exact rfl; (first | (with_reducible exact trivial) | omega); (first | ((with_reducible apply hv_row); (exact (Int.toNat_of_nonneg (by omega)).symm); (omega)) | (with_reducible exact rfl)); exact rfl; exact rfl; exact rfl; exact rfl) | apply dw_seq2 | (apply ds_region; exact rfl) | (apply dw_any; kernel_rfl; kernel_rfl; exact rfl; exact rfl) | apply dw_skip | apply thenD_n | (apply ds_call; exact rfl; exact rfl; apply w1; exact rfl; (exact rfl); exact rfl; rintro _ rfl) | (apply ds_newC; exact rfl; (with_reducible exact trivial); exact rfl; exact rfl; exact rfl) | (apply dw_condP; exact rfl; all_goals intro hg))
    all_goals try (exfalso; omega)
    refine dw_ent (ent_nild 6 1 rfl) ?_
    repeat' (first | apply dw_ret | apply thenD_r)
    exact ⟨.inl rfl, _, rfl, rfl, rfl⟩
  · rw [if_neg h0]
    have h0 : waysE p n l = 0 := by simpa using h0
    rw [if_pos h0]
    have hw := wayOk h0
    have hlo := hw.lo
    have hhi := hw.hi
    have lr : (p.rules.map encRul).length = p.rules.length := List.length_map _
    have w2 := set_fn l (by have := hw.len; omega) (fun x hx => by have := hw.alen x hx; omega)
    have hSl : (setF' l).length ≤ 60 := by have := setF_len l []; have := hw.len; show ((l.foldl insF []).length) ≤ 60; simp at *; omega
    have w3 := raw_fn (setF' l) (ruleAt p n) (setF_spec l).1 (by omega) hw.ruls
    unfold rawW at w3 ⊢
    rw [ruleAt_get hhi] at w3 ⊢
    clear hw
    cases hm : manyW (setF' l) p.rules[n.toNat] with
    | true =>
      rw [hm] at w3
      rw [if_pos rfl, if_pos rfl]
      rw [if_pos rfl] at w3
      repeat' (first | (apply ds_evC; exact rfl; (with_reducible exact trivial); (with_reducible exact rfl); exact rfl; exact rfl; exact rfl) | apply ds_nil | (apply dt_ev; exact rfl; exact rfl; (first | (with_reducible exact trivial) | omega); (first | ((with_reducible apply hv_row); (exact (Int.toNat_of_nonneg (by omega)).symm); (omega)) | (with_reducible exact rfl)); exact rfl; exact rfl; exact rfl; exact rfl) | (apply dt_nil0; exact rfl; exact rfl; exact rfl; exact rfl) | apply dw_seq2 | (apply ds_region; exact rfl) | (apply dw_any; kernel_rfl; kernel_rfl; exact rfl; exact rfl) | apply dw_skip | apply dw_ret | (apply dw_condF; exact rfl) | apply thenD_n | apply thenD_r | (apply ds_call; exact rfl; exact rfl; apply w1; exact rfl; (exact rfl); exact rfl; rintro _ rfl) | (apply dt_call; exact rfl; exact rfl; apply w2; exact rfl; (exact rfl); exact rfl; exact rfl; exact ⟨_, rfl⟩; rintro _ rfl) | (apply dt_call; exact rfl; exact rfl; apply w3; exact rfl; (exact rfl); exact rfl; exact rfl; exact ⟨_, rfl⟩; rintro _ rfl) | (apply ds_newC; exact rfl; (with_reducible exact trivial); exact rfl; exact rfl; exact rfl) | (apply dw_condP; exact rfl; all_goals intro hg))
      all_goals try (exfalso; omega)
      exact ⟨.inl rfl, _, rfl, rfl, rfl⟩
    | false =>
      rw [hm] at w3
      rw [if_neg (by simp), if_neg (by simp)]
      rw [if_neg (by simp)] at w3
      repeat' (first | (apply ds_evC; exact rfl; (with_reducible exact trivial); (with_reducible exact rfl); exact rfl; exact rfl; exact rfl) | apply ds_nil | (apply dt_ev; exact rfl; exact rfl; (first | (with_reducible exact trivial) | omega); (first | ((with_reducible apply hv_row); (exact (Int.toNat_of_nonneg (by omega)).symm); (omega)) | (with_reducible exact rfl)); exact rfl; exact rfl; exact rfl; exact rfl) | (apply dt_nil0; exact rfl; exact rfl; exact rfl; exact rfl) | apply dw_seq2 | (apply ds_region; exact rfl) | (apply dw_any; kernel_rfl; kernel_rfl; exact rfl; exact rfl) | apply dw_skip | (apply dw_condT; exact rfl) | apply thenD_n | (apply ds_call; exact rfl; exact rfl; apply w1; exact rfl; (exact rfl); exact rfl; rintro _ rfl) | (apply dt_call; exact rfl; exact rfl; apply w2; exact rfl; (exact rfl); exact rfl; exact rfl; exact ⟨_, rfl⟩; rintro _ rfl) | (apply dt_call; exact rfl; exact rfl; apply w3; exact rfl; (exact rfl); exact rfl; exact rfl; exact ⟨_, rfl⟩; rintro _ rfl) | (apply ds_newC; exact rfl; (with_reducible exact trivial); exact rfl; exact rfl; exact rfl) | (apply dw_condP; exact rfl; all_goals intro hg))
      all_goals try (exfalso; omega)
      refine dw_ent (ent_nild 6 1 rfl) ?_
      repeat' (first | apply dw_ret | apply thenD_r)
      exact ⟨.inl rfl, _, rfl, rfl, rfl⟩
end Go.Proofs.YtapciiffpnociacGreat
