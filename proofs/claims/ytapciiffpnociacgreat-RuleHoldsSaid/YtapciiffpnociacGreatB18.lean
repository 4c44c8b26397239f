/- Several texts in one: StrB RuN RuO Small RelX RelB RelC RelM RelY RelT RelG RelH RuX RuY PrgIn. Condition: none. -/
import Derived.Test.YtapciiffpnociacGreatB11
import Derived.Test.YtapciiffpnociacGreatB17
import Derived.Test.YtapciiffpnociacGreatB13
import Derived.Test.YtapciiffpnociacGreatB09
import Derived.Test.YtapciiffpnociacGreatB12

/- The document's SameInts, sameOwnTerms. Condition: none. -/
namespace Go.Proofs.YtapciiffpnociacGreat
open Go Go.RowKit
attribute [local irreducible] DW DS DL DQ Ev FnOk FnP thenD inBlockD DT
def sameI (a b : Int) : Bool := decide (a = b)
theorem ne_not {a b : Int} {c : Bool} (h : decide (a ≠ b) = !c) : sameI a b = c := by
  unfold sameI
  cases c <;> simp_all
set_option maxHeartbeats 8000000 in
theorem sameInts_fn (l m : List (Int)) : Fn 17 [.d (.slice 1 (l.map encI)), .d (.slice 1 (m.map encI))] (fun r => r = .d (.bool (sameL sameI l m))) := by
  refine fnp_enter' _ Tryz.func17 rfl rfl (by kernel_rfl) ?_
  intro O w0 E0 β0
  refine dw_len_map (t := 0) rfl fun hb => ?_
  repeat' (first | (apply ds_evC; exact rfl; (with_reducible exact trivial); (with_reducible exact rfl); exact rfl; exact rfl; exact rfl) | apply ds_nil | apply dw_seq2 | (apply ds_region; exact rfl) | apply thenD_n)
  refine dw_condP rfl (fun h => ?_) (fun h => ?_)
  · have hne : l.length ≠ m.length := by rw [List.length_map, List.length_map] at h; omega
    repeat' (first | (apply ds_evC; exact rfl; (with_reducible exact trivial); (with_reducible exact rfl); exact rfl; exact rfl; exact rfl) | apply ds_nil | apply dw_seq2 | (apply ds_region; exact rfl) | apply dw_ret | apply thenD_n | apply thenD_r)
    exact ret_b rfl (sameL_len _ _ _ hne).symm
  · have hlen : l.length = m.length := by rw [List.length_map, List.length_map] at h; omega
    repeat' (first | (apply ds_evC; exact rfl; (with_reducible exact trivial); (with_reducible exact rfl); exact rfl; exact rfl; exact rfl) | apply ds_nil | apply dw_seq2 | (apply ds_region; exact rfl) | apply dw_block | apply dw_skip | apply thenD_n)
    refine ds_loop (ι := Nat) (fun i => ⟨0, [(0, .d (.slice 1 (l.map encI))), (1, .d (.slice 1 (m.map encI))), (5, .d (.int .i64 i))], []⟩)
      (fun i => i ≤ l.length ∧ sameL sameI l m = sameL sameI (l.drop i) (m.drop i)) (fun i => l.length - i) 0 ⟨Nat.zero_le _, rfl⟩
      (ent_ren id ⟨rfl, rfl, rfl, trivial⟩ trivial rfl rfl rfl rfl rfl rfl) ?_
    rintro i ⟨h1, h2⟩
    repeat' (first | (apply ds_evC; exact rfl; (with_reducible exact trivial); (with_reducible exact rfl); exact rfl; exact rfl; exact rfl) | apply ds_nil | apply dw_seq2 | (apply ds_region; exact rfl) | apply thenD_n)
    refine dw_condP rfl (fun h => ?_) (fun h => ?_)
    · have hi : i < l.length := by rw [List.length_map] at h; omega
      have hm : i < m.length := by omega
      have hd := sameL_drop sameI l m i hi hm
      repeat' (first | (apply dt_ev; exact rfl; exact rfl; (first | (with_reducible exact trivial) | omega); (first | ((with_reducible apply hv_row); (exact rfl); (omega)) | (with_reducible exact rfl)); exact rfl; exact rfl; exact rfl; exact rfl) | (apply dt_nil0; exact rfl; exact rfl; exact rfl; exact rfl) | apply dw_seq2 | (apply dw_any; kernel_rfl; kernel_rfl; exact rfl; exact rfl) | apply dw_block | apply dw_skip | apply thenD_n)
      refine dw_cond rfl (fun hb => ?_) (fun hb => ?_)
      · have hp : sameI l[i] m[i] = false := by exact ne_not hb
        repeat' (first | (apply ds_evC; exact rfl; (with_reducible exact trivial); (with_reducible exact rfl); exact rfl; exact rfl; exact rfl) | apply ds_nil | apply dw_seq2 | (apply ds_region; exact rfl) | apply dw_ret | apply thenD_n | apply thenD_r | apply inB_r)
        exact ret_b rfl (by rw [h2, hd, hp]; rfl)
      · have hp : sameI l[i] m[i] = true := by exact ne_not hb
        repeat' (first | (apply ds_evC; exact rfl; (first | (with_reducible exact trivial) | omega); (with_reducible exact rfl); exact rfl; exact rfl; exact rfl) | apply ds_nil | (apply ds_region; exact rfl) | apply dw_skip | apply thenD_n | apply inB_n)
        exact ⟨i + 1, ⟨hi, by rw [h2, hd, hp]; rfl⟩, ent_ren id ⟨rfl, rfl, rfl, trivial⟩ trivial rfl rfl rfl rfl rfl rfl, by omega⟩
    · repeat' (first | (apply ds_evC; exact rfl; (with_reducible exact trivial); (with_reducible exact rfl); exact rfl; exact rfl; exact rfl) | apply ds_nil | apply dw_seq2 | (apply ds_region; exact rfl) | apply dw_exit | apply dw_ret | apply thenD_n | apply thenD_e | (apply inB_e; exact rfl))
      exact ret_b rfl (by rw [h2, sameL_end _ _ _ _ (by rw [List.length_map] at h; omega) (by rw [List.length_map] at h; omega)])
end Go.Proofs.YtapciiffpnociacGreat

/- The document's HeadsOf. Condition: none. -/
namespace Go.Proofs.YtapciiffpnociacGreat
open Go Go.RowKit
structure HeadOk (arity : List Int) (r : Rul) (ways : List (List Int)) : Prop where
  rul : RulR arity r
  many : ways.length ≤ 2000
  len : ∀ w ∈ ways, w.length = r.vars.toNat
  nums : ∀ w ∈ ways, ∀ y ∈ w, -1000000 ≤ y ∧ y ≤ 1000000
  tlen : r.terms.length ≤ 3
def headD (r : Rul) (ways : List (List Int)) (w : List Int) : Option Fct := if r.fold = 0 then some ⟨r.pred, aW r w⟩
  else if numB (foldN r.fold (grpL (ways.map (pW r)) (pW r w).1)) then some ⟨r.pred, (pW r w).1 ++ [foldN r.fold (grpL (ways.map (pW r)) (pW r w).1)]⟩ else none
theorem headsD_eq (r : Rul) (ways : List (List Int)) : headsD r ways = ways.filterMap (headD r ways) := by
  unfold headsD
  by_cases h : r.fold = 0
  · rw [if_pos h, ← List.filterMap_eq_map]
    congr 1
    funext w
    unfold headD
    rw [if_pos h]; rfl
  · rw [if_neg h]
    congr 1
    funext w
    unfold headD
    rw [if_neg h]
theorem HeadOk.terms {arity : List Int} {r : Rul} {ways : List (List Int)} (h : HeadOk arity r ways) {w : List Int} (hw : w ∈ ways) : ∀ t ∈ r.terms, okT w.length t := by
  intro t ht
  have h1 := h.rul.terms t ht
  have h2 := h.rul.vars
  rw [h.len w hw]
  unfold okT
  omega
theorem sameI_eq (a b : List Int) : sameL sameI a b = decide (a = b) := by
  by_cases h : a = b
  · subst h
    rw [decide_eq_true rfl]
    induction a with
    | nil => rfl
    | cons x a ih => unfold sameL; simp [sameI, ih]
  · rw [decide_eq_false h]
    cases hs : sameL sameI a b with
    | false => rfl
    | true =>
      exfalso; apply h
      clear h
      induction a generalizing b with
      | nil => cases b with | nil => rfl | cons y b => simp [sameL] at hs
      | cons x a ih =>
        cases b with
        | nil => simp [sameL] at hs
        | cons y b =>
          simp only [sameL, sameI, Bool.and_eq_true, decide_eq_true_eq] at hs
          rw [hs.1, ih b hs.2]
theorem filterMap_take {α β : Type} (f : α → Option β) {l : List α} {i : Nat} (hi : i < l.length) : (l.take (i + 1)).filterMap f = (l.take i).filterMap f ++ (f l[i]).toList := by
  rw [List.take_succ_eq_append_getElem hi, List.filterMap_append, List.filterMap_cons, List.filterMap_nil]
  cases f l[i] <;> rfl
theorem filterMap_len {α β : Type} (f : α → Option β) (l : List α) (i : Nat) : ((l.take i).filterMap f).length ≤ i := Nat.le_trans (List.length_filterMap_le _ _) (by rw [List.length_take]; omega)
attribute [local irreducible] DW DS DL DQ Ev FnOk FnP thenD inBlockD DT
end Go.Proofs.YtapciiffpnociacGreat

/- The program's rule.Made, Heads, where nothing is folded. Condition: none. -/
namespace Go.Proofs.YtapciiffpnociacGreat
open Go Go.RowKit
theorem outE_num {e : RE} (h : numE e) : ∀ y ∈ outE e, -1000000 ≤ y ∧ y ≤ 1000000 := by
  intro y hy
  obtain ⟨x, hx, rfl⟩ := List.mem_map.1 hy
  obtain ⟨v, hv⟩ := List.getElem?_of_mem hx
  cases x with
  | none => simp
  | some z => exact h v z hv
theorem fromE_num {S : List Fct} {body : List Ltl} : ∀ (ys : List Ltl) (e : RE), okB S e.length body → (∀ l ∈ ys, l ∈ body ∧ l.kind = 1) → numE e → ∀ a ∈ fromE S body ys e, ∀ y ∈ a, -1000000 ≤ y ∧ y ≤ 1000000
  | [], e, hok, _, hn, a, ha => by
    rw [fromE] at ha
    cases hr : recN body (body.length + 1) e with
    | none => rw [hr] at ha; simp at ha
    | some e' =>
      rw [hr] at ha
      simp only at ha
      split at ha
      · simp at ha
      · rw [List.mem_singleton] at ha
        subst ha
        exact outE_num (recN_num hok hn hr)
  | l :: ys, e, hok, hys, hn, a, ha => by
    rw [fromE] at ha
    cases hr : recN body (body.length + 1) e with
    | none => rw [hr] at ha; simp at ha
    | some e' =>
      rw [hr] at ha
      simp only at ha
      obtain ⟨g1, _⟩ := recN_some hok.lit hr
      have hn' := recN_num hok hn hr
      obtain ⟨hl, hl1⟩ := hys l (List.mem_cons_self ..)
      split at ha
      · simp at ha
      · unfold litW at ha
        rw [if_pos hl1, List.mem_flatMap] at ha
        obtain ⟨x, hx, ha⟩ := ha
        split at ha
        · rename_i hp
          split at ha
          · rename_i e'' he''
            have hlk := hok.lit l hl
            obtain ⟨k1, _⟩ := matchE_some (hlk.facts hl1 x hx hp).symm (by rw [g1]; exact hlk.terms) he''
            exact fromE_num ys e'' (by rw [k1, g1]; exact hok) (fun l hl => hys l (List.mem_cons_of_mem _ hl)) (matchE_num hn' (hok.facts x hx) he'') a ha
          · simp at ha
        · simp at ha
theorem way_num {S : List Fct} {v : Nat} {body : List Ltl} (hok : okB S v body) {a : List Int} (ha : a ∈ fromE S body (yesOf body) (e0 v)) : ∀ y ∈ a, -1000000 ≤ y ∧ y ≤ 1000000 :=
  fromE_num (yesOf body) (e0 v) (by rw [show (e0 v).length = v from List.length_replicate]; exact hok) (fun l hl => ⟨(List.mem_filter.1 hl).1, of_decide_eq_true (List.mem_filter.1 hl).2⟩)
    (fun u x hx => by unfold e0 at hx; rw [List.getElem?_replicate] at hx; split at hx <;> simp at hx) a ha
theorem wayL_ok {p : Prg} {n : Int} {l : List Fct} (h : WayOk p n l) : HeadOk p.arity (ruleAt p n) (wayL p n l) := by
  have hS := (setF_spec l).1
  have hnd : (setF' l).Nodup := hS.imp fun h he => by subst he; exact lt_irrefl h
  obtain ⟨_, p2, p3⟩ := ways_perm hnd h.ruls.ok.lit h.ruls.bd
  have hmem : ∀ w ∈ wayL p n l, w ∈ fromE (setF' l) (ruleAt p n).body (yesOf (ruleAt p n).body) (e0 (ruleAt p n).vars.toNat) := by
    intro w hw
    unfold wayL rawW at hw
    split at hw
    · split at hw
      · exact (waysL_perm _ _ _).mem_iff.1 hw
      · simp at hw
    · simp at hw
  refine ⟨h.rul, ?_, fun w hw => ((p3 w).1 (hmem w hw)).1, fun w hw y hy => ?_, h.tlen⟩
  · unfold wayL rawW
    split
    · split
      · rename_i hm; unfold manyW at hm; exact of_decide_eq_true hm
      · simp
    · simp
  · have hw' := hmem w hw
    exact way_num h.ruls.ok hw' y hy
attribute [local irreducible] DW DS DL DQ Ev FnOk FnP thenD inBlockD DT
set_option maxHeartbeats 8000000 in
theorem made0_fn (arity : List Int) (r : Rul) (ways : List (List Int)) (hok : HeadOk arity r ways) (h0 : r.fold = 0) : Fn 56 [elRul r, .d (.slice 1 (ways.map encW))] (fun res => res = .d (.slice 2 ((setF' (headsD r ways)).map encFct))) := by
  refine fnp_enter' _ Tryz.func56 rfl rfl (by kernel_rfl) ?_
  intro O w0 E0 β0
  rw [headsD_eq]
  have hmany := hok.many
  have htl := hok.tlen
  have lw : (ways.map encW).length = ways.length := List.length_map _
  have lt : (r.terms.map encTrm).length = r.terms.length := List.length_map _
  have hal : ∀ x ∈ ways.filterMap (headD r ways), x.args.length ≤ 17592186044416 := by
    intro x hx
    obtain ⟨w, hw, hx⟩ := List.mem_filterMap.1 hx
    unfold headD at hx
    rw [if_pos h0] at hx
    simp only [Option.some.injEq] at hx
    subst hx
    unfold aW
    simp only [List.length_map]; omega
  have wset := set_fn (ways.filterMap (headD r ways)) (Nat.le_trans (List.length_filterMap_le _ _) (by omega)) hal
  repeat' ((fail_if_success (apply dw_stopR 2)); (first | (apply ds_evC; exact rfl; (with_reducible exact trivial); (with_reducible exact rfl); exact rfl; exact rfl; exact rfl) | apply ds_nil | apply dw_seq2 | (apply ds_region; exact rfl) | apply thenD_n | (apply ds_newC; exact rfl; (with_reducible exact trivial); exact rfl; exact rfl; exact rfl)))
  refine dw_ent (ent_nilrow (t := 5) 48 2 rfl) ?_
  repeat' (first | (apply ds_evC; exact rfl; (first | (with_reducible exact trivial) | omega); (with_reducible exact rfl); exact rfl; exact rfl; exact rfl) | apply ds_nil | apply dw_seq2 | (apply ds_region; exact rfl) | apply dw_block | apply dw_skip | apply thenD_n | (apply ds_newC; exact rfl; (with_reducible exact trivial); exact rfl; exact rfl; exact rfl) | (apply ds_setC; exact rfl; exact rfl; exact rfl; exact rfl) | (apply dw_condP; exact rfl; all_goals intro hg))
  all_goals try (exfalso; omega)
  refine ds_loop (ι := Nat) (fun i => ⟨2, [(1, .d (.slice 1 (ways.map encW))), (2, .loc 0 0), (5, .row 1), (21, .d (.slice 1 (ways.map encW))), (22, .d (.int .i64 ways.length)), (23, .d (.int .i64 i))], [(0, .blk 36 [.d (.int .i64 r.pred), .d (.slice 2 (r.terms.map encTrm)), .d (.int .i64 r.fold), .d (.slice 4 (r.body.map encLtl)), .d (.int .i64 r.vars)]), (1, .row 48 2 (((ways.take i).filterMap (headD r ways)).map encFct))]⟩)
    (fun i => i ≤ ways.length) (fun i => ways.length - i) 0 (Nat.zero_le _) (ent_ren id ⟨rfl, rfl, rfl, rfl, by rw [← lw]; rfl, rfl, trivial⟩ ⟨rfl, rfl, trivial⟩ rfl rfl rfl rfl rfl rfl) ?_
  intro i g1
  by_cases hi : i < ways.length
  · have hm := List.getElem_mem hi
    have w1 := args_fn r.terms ways[i] (hok.terms hm) (by omega)
    have hst := filterMap_take (headD r ways) hi
    have hhd : headD r ways ways[i] = some ⟨r.pred, aW r ways[i]⟩ := by unfold headD; rw [if_pos h0]
    rw [hhd] at hst
    have lo : ((ways.take i).filterMap (headD r ways)).length ≤ i := filterMap_len _ _ _
    clear wset
    repeat' (first | (apply ds_evC; exact rfl; (first | (with_reducible exact trivial) | omega); (first | ((with_reducible apply hv_row); (exact rfl); (omega)) | (with_reducible exact rfl)); exact rfl; exact rfl; exact rfl) | apply ds_nil | (apply dt_ev; exact rfl; exact rfl; (with_reducible exact trivial); (with_reducible exact rfl); exact rfl; exact rfl; exact rfl; exact rfl) | (apply dt_trade; exact rfl; exact rfl; exact rfl; (unfold maxLen; simp <;> omega); exact rfl; exact rfl; exact rfl; exact rfl; exact rfl; exact rfl) | (apply dt_nil; exact rfl) | apply dw_seq2 | (apply ds_region; exact rfl) | (apply dw_any; kernel_rfl; kernel_rfl; exact rfl; exact rfl) | apply dw_block | apply dw_skip | apply dw_exit | apply thenD_n | apply thenD_e | apply inB_n | (apply inB_e; exact rfl) | (apply dt_call; exact rfl; exact rfl; apply w1; exact rfl; (exact rfl); exact rfl; exact rfl; exact ⟨_, rfl⟩; rintro _ rfl) | (apply dw_condP; exact rfl; all_goals intro hg))
    all_goals try (exfalso; omega)
    exact ⟨i + 1, hi, ent_ren (fun j => match j with | 1 => 11 | j => j) ⟨rfl, rfl, rfl, rfl, rfl, rfl, trivial⟩ ⟨rfl, by rw [hst, List.map_append]; rfl, trivial⟩ rfl rfl rfl rfl rfl rfl, by omega⟩
  · rw [List.take_of_length_le (by omega)]
    repeat' (first | (apply ds_evC; exact rfl; (first | (with_reducible exact trivial) | omega); (first | ((with_reducible apply hv_row); (exact rfl); (omega)) | (with_reducible exact rfl)); exact rfl; exact rfl; exact rfl) | apply ds_nil | (apply dt_ev; exact rfl; exact rfl; (with_reducible exact trivial); (with_reducible exact rfl); exact rfl; exact rfl; exact rfl; exact rfl) | apply dw_seq2 | (apply ds_region; exact rfl) | (apply dw_any; kernel_rfl; kernel_rfl; exact rfl; exact rfl) | apply dw_block | apply dw_skip | apply dw_exit | apply thenD_n | apply thenD_e | (apply inB_e; exact rfl) | (apply dw_condP; exact rfl; all_goals intro hg))
    all_goals try (exfalso; omega)
    refine ds_ent (ent_seal 38 rfl rfl rfl) ?_
    repeat' (first | (apply ds_evC; exact rfl; (with_reducible exact trivial); (with_reducible exact rfl); exact rfl; exact rfl; exact rfl) | apply ds_nil | apply dw_ret | apply thenD_n | apply thenD_r | (apply ds_call; exact rfl; exact rfl; apply wset; exact rfl; (exact rfl); exact rfl; rintro _ rfl))
    exact ⟨.inl rfl, _, rfl, rfl, rfl⟩
end Go.Proofs.YtapciiffpnociacGreat

/- The laws' own small program and facts. Condition: none. -/
namespace Go.Proofs.YtapciiffpnociacGreat
open Go Go.RowKit
def smallP : Prg := ⟨[2, 2], [⟨#[113]⟩, ⟨#[112]⟩], [⟨1, [⟨0, 0⟩, ⟨1, 0⟩], 0, [⟨1, 0, 0, [⟨0, 0⟩, ⟨1, 0⟩]⟩], 2⟩, ⟨1, [⟨0, 0⟩, ⟨2, 0⟩], 0, [⟨1, 0, 1, [⟨0, 0⟩, ⟨1, 0⟩]⟩, ⟨1, 0, 0, [⟨1, 0⟩, ⟨2, 0⟩]⟩], 3⟩]⟩
def fullF : List Fct := [⟨0, [1, 2]⟩, ⟨0, [2, 3]⟩, ⟨1, [1, 2]⟩, ⟨1, [1, 3]⟩, ⟨1, [2, 3]⟩]
attribute [local irreducible] DW DS DL DQ Ev FnOk FnP thenD inBlockD DT
set_option maxHeartbeats 8000000 in
theorem lsmall_fn : Fn 49 [] (fun res => res = elPrg smallP) := by
  refine fnp_enter' _ Tryz.func49 rfl rfl (by kernel_rfl) ?_
  intro O w0 E0 β0
  repeat' (first | (apply ds_evC; exact rfl; (with_reducible exact trivial); (with_reducible exact rfl); exact rfl; exact rfl; exact rfl) | apply ds_nil | apply dw_seq2 | (apply ds_region; exact rfl) | apply dw_ret | apply thenD_n | (apply ds_newC; exact rfl; (with_reducible exact trivial); exact rfl; exact rfl; exact rfl) | (apply ds_setC; exact rfl; exact rfl; exact rfl; exact rfl) | (apply ds_bsC; exact rfl; exact rfl; exact rfl; exact rfl))
  exact ⟨.inl rfl, _, rfl, rfl, rfl⟩
set_option maxHeartbeats 8000000 in
theorem rfact_fn (p : Int) (l : List Int) : Fn 52 [.d (.int .i64 p), .d (.slice 1 (l.map encI))] (fun r => r = elFct ⟨p, l⟩) := by
  refine fnp_enter' _ Tryz.func52 rfl rfl (by kernel_rfl) ?_
  intro O w0 E0 β0
  repeat' (first | (apply ds_evC; exact rfl; (with_reducible exact trivial); (with_reducible exact rfl); exact rfl; exact rfl; exact rfl) | apply ds_nil | apply dw_seq2 | (apply ds_region; exact rfl) | apply dw_ret | apply thenD_n | (apply ds_newC; exact rfl; (with_reducible exact trivial); exact rfl; exact rfl; exact rfl) | (apply ds_setC; exact rfl; exact rfl; exact rfl; exact rfl))
  exact ⟨.inl rfl, _, rfl, rfl, rfl⟩
set_option maxHeartbeats 8000000 in
theorem lfull_fn : Fn 50 [] (fun r => r = .d (.slice 2 (fullF.map encFct))) := by
  refine fnp_enter' _ Tryz.func50 rfl rfl (by kernel_rfl) ?_
  intro O w0 E0 β0
  have e1 := rfact_fn 0 [1, 2]
  have e2 := rfact_fn 0 [2, 3]
  have e3 := rfact_fn 1 [1, 2]
  have e4 := rfact_fn 1 [1, 3]
  have e5 := rfact_fn 1 [2, 3]
  repeat' (first | (apply ds_evC; exact rfl; (with_reducible exact trivial); (with_reducible exact rfl); exact rfl; exact rfl; exact rfl) | apply ds_nil | apply dw_seq2 | (apply ds_region; exact rfl) | apply dw_ret | apply thenD_n | (apply ds_call; exact rfl; exact rfl; apply e1; exact rfl; (exact rfl); exact rfl; rintro _ rfl) | (apply ds_call; exact rfl; exact rfl; apply e2; exact rfl; (exact rfl); exact rfl; rintro _ rfl) | (apply ds_call; exact rfl; exact rfl; apply e3; exact rfl; (exact rfl); exact rfl; rintro _ rfl) | (apply ds_call; exact rfl; exact rfl; apply e4; exact rfl; (exact rfl); exact rfl; rintro _ rfl) | (apply ds_call; exact rfl; exact rfl; apply e5; exact rfl; (exact rfl); exact rfl; rintro _ rfl) | (apply ds_bsC; exact rfl; exact rfl; exact rfl; exact rfl))
  exact ⟨.inl rfl, _, rfl, rfl, rfl⟩
end Go.Proofs.YtapciiffpnociacGreat

/- slices.Grow and slices.Concat over facts. Condition: none. -/
namespace Go.Proofs.YtapciiffpnociacGreat
open Go Go.RowKit
attribute [local irreducible] DW DS DL DQ Ev FnOk FnP thenD inBlockD DT
end Go.Proofs.YtapciiffpnociacGreat

/- The document's UnionOf and MinusOf. Condition: none. -/
namespace Go.Proofs.YtapciiffpnociacGreat
open Go Go.RowKit
attribute [local irreducible] DW DS DL DQ Ev FnOk FnP thenD inBlockD DT
end Go.Proofs.YtapciiffpnociacGreat

/- The document's MatchOf. Condition: none. -/
namespace Go.Proofs.YtapciiffpnociacGreat
open Go Go.RowKit
attribute [local irreducible] DW DS DL DQ Ev FnOk FnP thenD inBlockD DT
end Go.Proofs.YtapciiffpnociacGreat

/- relation.Match's own test of a fact. Condition: none. -/
namespace Go.Proofs.YtapciiffpnociacGreat
open Go Go.RowKit
attribute [local irreducible] DW DS DL DQ Ev FnOk FnP thenD inBlockD DT
end Go.Proofs.YtapciiffpnociacGreat

/- relation.Union, relation.Match. Condition: none. -/
namespace Go.Proofs.YtapciiffpnociacGreat
open Go Go.RowKit
theorem ent_freezeL {Γ : Ctx} {k : Nat} {L : Sl} {H : Hp} (t i : Nat) {ty : TypeId} {ds : List D} (hL : L.get t = .loc i 0) (hH : Hp.get H i = some (.blk ty (ds.map .d))) : Ent Γ k L H k ((t, .pd ds) :: L) (Hp.del H i) := by
  intro e a w m
  obtain ⟨m2, hX⟩ := m.del i
  have hmem := Hp.mem_of hH
  refine ⟨e, m2.toHeap, m2.defers, m2.len, fun t' => ?_⟩
  rw [Sl.get_cons]
  split
  · rename_i ht
    subst ht
    have hs := m.slot t
    rw [hL] at hs
    obtain ⟨_, hv⟩ := hs
    obtain ⟨us, g1, g2, _⟩ := (m.heap _ hmem).2
    have hown : HB.owned e (i, .blk ty (ds.map .d)) = some (e.β i) := rfl
    refine ⟨e.β i, 0, hv, lt_of_heap g1, fun hx => ?_, fun j hj => ?_⟩
    · rcases hx with hx | hx
      · exact (m.mine _ (List.mem_filterMap.2 ⟨_, hmem, hown⟩)).2 hx
      · obtain ⟨p, hp, hpg⟩ := List.mem_filterMap.1 hx
        have hd := Hp.del_mem (i := i) H m.ids p hp
        exact m.owned_ne hd.1 hmem hd.2 hpg hown
    · obtain ⟨u, g3, g4⟩ := RelL.get _ _ g2 j (.d ds[j]) (by rw [List.getElem?_map, List.getElem?_eq_getElem hj]; rfl)
      refine ⟨u, ?_, RepC.keep (Nat.le_refl _) (fun _ _ _ => rfl) (fun b _ h => hX b h) g4⟩
      rw [cell_of_row w _ _ _ ty (0, 0) g1, Nat.zero_add]; simpa using g3
  · exact m2.slot t'
attribute [local irreducible] DW DS DL DQ Ev FnOk FnP thenD inBlockD DT
end Go.Proofs.YtapciiffpnociacGreat

/- The law RelationTells. Condition: none. -/
namespace Go.Proofs.YtapciiffpnociacGreat
open Go Go.RowKit
attribute [local irreducible] DW DS DL DQ Ev FnOk FnP thenD inBlockD DT
end Go.Proofs.YtapciiffpnociacGreat

/- Plain words on unions and differences of sets of facts. Condition: none. -/
namespace Go.Proofs.YtapciiffpnociacGreat
theorem set_ext {l m : List Fct} (h : ∀ x, x ∈ l ↔ x ∈ m) : setF' l = setF' m :=
  strict_ext (setF_spec l).1 (setF_spec m).1 fun x => by rw [(setF_spec l).2, (setF_spec m).2, h]
theorem set_set (l : List Fct) : setF' (setF' l) = setF' l := set_ext fun x => (setF_spec l).2 x
end Go.Proofs.YtapciiffpnociacGreat

/- The law RelationHangs. Condition: none. -/
namespace Go.Proofs.YtapciiffpnociacGreat
open Go Go.RowKit
section
variable {Γ : Ctx} {k : Nat} {L : Sl} {H : Hp} {t ty : TypeId} {x : Operand}
end
attribute [local irreducible] DW DS DL DQ Ev FnOk FnP thenD inBlockD DT
end Go.Proofs.YtapciiffpnociacGreat

/- The program's rule.Heads; the law's begun run of rules. Condition: none. -/
namespace Go.Proofs.YtapciiffpnociacGreat
open Go Go.RowKit
def wayH (p : Prg) (n : Int) (l : List Fct) : List Fct := if wayE p n l = 0 then setF' (headsD (ruleAt p n) (wayL p n l)) else []
theorem wayE_ways {p : Prg} {n : Int} {l : List Fct} (h : wayE p n l = 0) : waysE p n l = 0 := by
  unfold wayE at h
  split at h
  · rename_i h1; exact absurd h h1
  · rename_i h1; simpa using h1
attribute [local irreducible] DW DS DL DQ Ev FnOk FnP thenD inBlockD DT
set_option maxHeartbeats 8000000 in
theorem heads_fn (p : Prg) (n : Int) (l : List Fct) (hmade : wayE p n l = 0 → Fn 56 [elRul (ruleAt p n), .d (.slice 1 ((wayL p n l).map encW))] (fun res => res = .d (.slice 2 ((setF' (headsD (ruleAt p n) (wayL p n l))).map encFct)))) :
    Fn 18 [elPrg p, .d (.int .i64 n), .d (.slice 2 (l.map encFct))] (fun r => r = .tup [.d (.slice 2 ((wayH p n l).map encFct)), .d (.int .i64 (wayE p n l))]) := by
  refine fnp_enter' _ Tryz.func18 rfl rfl (by kernel_rfl) ?_
  intro O w0 E0 β0
  have w1 := ways_fn p n l
  unfold wayH
  have lr : (p.rules.map encRul).length = p.rules.length := List.length_map _
  by_cases h0 : wayE p n l = 0
  · have hm := hmade h0
    have hw := wayOk (wayE_ways h0)
    have hlo := hw.lo
    have hhi := hw.hi
    rw [if_pos h0]
    rw [ruleAt_get hhi] at hm ⊢
    rw [h0] at w1 ⊢
    clear hmade hw
    repeat' (first | (apply ds_evC; exact rfl; (first | (with_reducible exact trivial) | omega); (first | ((with_reducible apply hv_row); (exact (Int.toNat_of_nonneg (by omega)).symm); (omega)) | (with_reducible exact rfl)); exact rfl; exact rfl; exact rfl) | apply ds_nil | apply dw_seq2 | (apply ds_region; exact rfl) | apply dw_skip | apply dw_ret | (apply dw_condF; exact rfl) | apply thenD_n | (apply ds_call; exact rfl; exact rfl; apply w1; exact rfl; (exact rfl); exact rfl; rintro _ rfl) | (apply ds_call; exact rfl; exact rfl; apply hm; exact rfl; (exact rfl); exact rfl; rintro _ rfl) | (apply ds_newC; exact rfl; (with_reducible exact trivial); exact rfl; exact rfl; exact rfl))
    all_goals try (exfalso; omega)
    exact ⟨.inl rfl, _, rfl, rfl, rfl⟩
  · rw [if_neg h0]
    clear hmade
    repeat' (first | (apply ds_evC; exact rfl; (first | (with_reducible exact trivial) | omega); (first | ((with_reducible apply hv_row); (exact (Int.toNat_of_nonneg (by omega)).symm); (omega)) | (with_reducible exact rfl)); exact rfl; exact rfl; exact rfl) | apply ds_nil | apply dw_seq2 | (apply ds_region; exact rfl) | apply dw_skip | apply thenD_n | (apply ds_call; exact rfl; exact rfl; apply w1; exact rfl; (exact rfl); exact rfl; rintro _ rfl) | (apply ds_newC; exact rfl; (with_reducible exact trivial); exact rfl; exact rfl; exact rfl) | (apply dw_condP; exact rfl; all_goals intro hg))
    all_goals try (exfalso; omega)
    refine dw_ent (ent_nild 6 2 rfl) ?_
    repeat' (first | apply dw_ret | apply thenD_r)
    exact ⟨.inl rfl, _, rfl, rfl, rfl⟩
set_option maxHeartbeats 8000000 in
theorem sameLists_fn (a b : List (List Int)) : Fn 51 [.d (.slice 1 (a.map encW)), .d (.slice 1 (b.map encW))] (fun r => r = .d (.bool (decide (a = b)))) := by
  refine fnp_enter' _ Tryz.func51 rfl rfl (by kernel_rfl) ?_
  intro O w0 E0 β0
  have la : (a.map encW).length = a.length := List.length_map _
  have lb : (b.map encW).length = b.length := List.length_map _
  refine dw_len (t := 0) rfl (fun hk => ?_)
  by_cases hl : a.length = b.length
  · repeat' (first | (apply ds_evC; exact rfl; (with_reducible exact trivial); (with_reducible exact rfl); exact rfl; exact rfl; exact rfl) | apply ds_nil | apply dw_seq2 | (apply ds_region; exact rfl) | apply dw_block | apply dw_skip | apply dw_ret | apply thenD_n | apply thenD_r | (apply dw_condP; exact rfl; all_goals intro hg))
    all_goals try (exfalso; omega)
    refine ds_loop (ι := Nat) (fun i => ⟨0, [(0, .d (.slice 1 (a.map encW))), (1, .d (.slice 1 (b.map encW))), (5, .d (.int .i64 i))], []⟩)
      (fun i => i ≤ a.length ∧ a.take i = b.take i) (fun i => a.length - i) 0 ⟨Nat.zero_le _, rfl⟩ (ent_ren id ⟨rfl, rfl, rfl, trivial⟩ trivial rfl rfl rfl rfl rfl rfl) ?_
    rintro i ⟨g1, g2⟩
    dsimp only at g1 g2 ⊢
    by_cases hi : i < a.length
    · have hb : i < b.length := by omega
      have w := sameInts_fn a[i] b[i]
      rw [sameI_eq] at w
      by_cases he : a[i] = b[i]
      · rw [decide_eq_true he] at w
        repeat' (first | (apply ds_evC; exact rfl; (first | (with_reducible exact trivial) | omega); (with_reducible exact rfl); exact rfl; exact rfl; exact rfl) | apply ds_nil | (apply dt_ev; exact rfl; exact rfl; (first | (with_reducible exact trivial) | omega); (first | ((with_reducible apply hv_row); (exact rfl); (omega)) | (with_reducible exact rfl)); exact rfl; exact rfl; exact rfl; exact rfl) | (apply dt_nil0; exact rfl; exact rfl; exact rfl; exact rfl) | apply dw_seq2 | (apply ds_region; exact rfl) | (apply dw_any; kernel_rfl; kernel_rfl; exact rfl; exact rfl) | apply dw_block | apply dw_skip | apply dw_exit | apply dw_ret | (apply dw_condF; exact rfl) | apply thenD_n | apply thenD_e | apply inB_n | (apply inB_e; exact rfl) | (apply dt_call; exact rfl; exact rfl; apply w; exact rfl; (exact rfl); exact rfl; exact rfl; exact ⟨_, rfl⟩; rintro _ rfl) | (apply dw_condP; exact rfl; all_goals intro hg))
        all_goals try (exfalso; omega)
        exact ⟨i + 1, ⟨hi, by rw [List.take_succ_eq_append_getElem hi, List.take_succ_eq_append_getElem hb, g2, he]⟩, ent_ren id ⟨rfl, rfl, rfl, trivial⟩ trivial rfl rfl rfl rfl rfl rfl, by omega⟩
      · have hne : a ≠ b := fun h => he (by subst h; rfl)
        rw [decide_eq_false he] at w
        rw [decide_eq_false hne]
        repeat' (first | (apply ds_evC; exact rfl; (with_reducible exact trivial); (with_reducible exact rfl); exact rfl; exact rfl; exact rfl) | apply ds_nil | (apply dt_ev; exact rfl; exact rfl; (first | (with_reducible exact trivial) | omega); (first | ((with_reducible apply hv_row); (exact rfl); (omega)) | (with_reducible exact rfl)); exact rfl; exact rfl; exact rfl; exact rfl) | (apply dt_nil0; exact rfl; exact rfl; exact rfl; exact rfl) | apply dw_seq2 | (apply ds_region; exact rfl) | (apply dw_any; kernel_rfl; kernel_rfl; exact rfl; exact rfl) | apply dw_block | apply dw_skip | apply dw_exit | apply dw_ret | (apply dw_condT; exact rfl) | apply thenD_n | apply thenD_e | apply thenD_r | apply inB_r | (apply inB_e; exact rfl) | (apply dt_call; exact rfl; exact rfl; apply w; exact rfl; (exact rfl); exact rfl; exact rfl; exact ⟨_, rfl⟩; rintro _ rfl) | (apply dw_condP; exact rfl; all_goals intro hg))
        all_goals try (exfalso; omega)
        all_goals exact ⟨.inl rfl, _, rfl, rfl, rfl⟩
    · rw [List.take_of_length_le (by omega), List.take_of_length_le (by omega)] at g2
      rw [decide_eq_true g2]
      repeat' (first | (apply ds_evC; exact rfl; (with_reducible exact trivial); (with_reducible exact rfl); exact rfl; exact rfl; exact rfl) | apply ds_nil | (apply dt_ev; exact rfl; exact rfl; (first | (with_reducible exact trivial) | omega); (first | ((with_reducible apply hv_row); (exact rfl); (omega)) | (with_reducible exact rfl)); exact rfl; exact rfl; exact rfl; exact rfl) | apply dw_seq2 | (apply ds_region; exact rfl) | (apply dw_any; kernel_rfl; kernel_rfl; exact rfl; exact rfl) | apply dw_block | apply dw_skip | apply dw_exit | apply dw_ret | apply thenD_n | apply thenD_e | (apply inB_e; exact rfl) | (apply dw_condP; exact rfl; all_goals intro hg))
      all_goals try (exfalso; omega)
      all_goals exact ⟨.inl rfl, _, rfl, rfl, rfl⟩
  · have hne : a ≠ b := fun h => hl (by rw [h])
    rw [decide_eq_false hne]
    repeat' (first | (apply ds_evC; exact rfl; (with_reducible exact trivial); (with_reducible exact rfl); exact rfl; exact rfl; exact rfl) | apply ds_nil | apply dw_seq2 | (apply ds_region; exact rfl) | apply dw_block | apply dw_skip | apply dw_ret | apply thenD_n | apply thenD_r | (apply dw_condP; exact rfl; all_goals intro hg))
    all_goals try (exfalso; omega)
    all_goals exact ⟨.inl rfl, _, rfl, rfl, rfl⟩
end Go.Proofs.YtapciiffpnociacGreat

/- The law's begun run of rules; the law RuleHolds. Condition: none. -/
namespace Go.Proofs.YtapciiffpnociacGreat
open Go Go.RowKit
theorem small_ways0 : waysE smallP 1 fullF = 0 := by kernel_rfl
def smallR : Rul := ⟨1, [⟨0, 0⟩, ⟨2, 0⟩], 0, [⟨1, 0, 1, [⟨0, 0⟩, ⟨1, 0⟩]⟩, ⟨1, 0, 0, [⟨1, 0⟩, ⟨2, 0⟩]⟩], 3⟩
theorem small_rule : ruleAt smallP 1 = smallR := rfl
theorem small_fullS : setF' fullF = fullF := by kernel_rfl
theorem small_from : fromE fullF smallR.body (yesOf smallR.body) (e0 3) = [[1, 2, 3]] := by kernel_rfl
theorem small_waysL : waysL fullF 3 smallR.body = [[1, 2, 3]] := (waysL_eq (o := [[1, 2, 3]]) (List.pairwise_singleton _ _) (by rw [small_from])).symm
theorem small_many : manyW fullF smallR = true := by unfold manyW; rw [show smallR.vars.toNat = 3 from rfl, small_waysL]; rfl
theorem small_wayE : wayE smallP 1 fullF = 0 := by
  unfold wayE
  rw [if_neg (by rw [small_ways0]; simp), small_rule, small_fullS, small_many, if_pos rfl]
theorem small_wayL : wayL smallP 1 fullF = [[1, 2, 3]] := by
  unfold wayL rawW
  rw [if_pos small_ways0, small_rule, small_fullS, small_many, if_pos rfl]
  exact small_waysL
theorem small_wayH : wayH smallP 1 fullF = [⟨1, [1, 3]⟩] := by
  unfold wayH
  rw [if_pos small_wayE, small_rule, small_wayL]
  kernel_rfl
attribute [local irreducible] DW DS DL DQ Ev FnOk FnP thenD inBlockD DT
set_option maxHeartbeats 8000000 in
theorem ruleBegun_fn : Fn 13 [] (fun r => r = .d (.bool true)) := by
  refine fnp_enter' _ Tryz.func13 rfl rfl (by kernel_rfl) ?_
  intro O w0 E0 β0
  have h1 := lsmall_fn
  have h2 := lfull_fn
  have h3 := ways_fn smallP 1 fullF
  have h4 := heads_fn smallP 1 fullF (fun _ => made0_fn _ _ _ (wayL_ok (wayOk small_ways0)) (by rw [small_rule]; rfl))
  rw [small_wayE, small_wayL] at h3
  rw [small_wayE, small_wayH] at h4
  have h5 := sameLists_fn [[1, 2, 3]] [[1, 2, 3]]
  rw [decide_eq_true rfl] at h5
  have h6 := rfact_fn 1 [1, 3]
  have h7 : Fn 28 [.d (.slice 2 ([(⟨1, [1, 3]⟩ : Fct)].map encFct)), .d (.slice 2 ([(⟨1, [1, 3]⟩ : Fct)].map encFct))] (fun r => r = .d (.bool true)) := by
    have h := sameFacts_fn [⟨1, [1, 3]⟩] [⟨1, [1, 3]⟩]
    rw [show sameL Fct.same [(⟨1, [1, 3]⟩ : Fct)] [⟨1, [1, 3]⟩] = true by decide] at h
    exact h
  repeat' (first | (apply ds_evC; exact rfl; (with_reducible exact trivial); (with_reducible exact rfl); exact rfl; exact rfl; exact rfl) | apply ds_nil | apply dw_seq2 | (apply ds_region; exact rfl) | apply dw_ret | apply thenD_n | (apply ds_call; exact rfl; exact rfl; apply h1; exact rfl; (exact rfl); exact rfl; rintro _ rfl) | (apply ds_call; exact rfl; exact rfl; apply h2; exact rfl; (exact rfl); exact rfl; rintro _ rfl) | (apply ds_call; exact rfl; exact rfl; apply h3; exact rfl; (exact rfl); exact rfl; rintro _ rfl) | (apply ds_call; exact rfl; exact rfl; apply h4; exact rfl; (exact rfl); exact rfl; rintro _ rfl) | (apply ds_call; exact rfl; exact rfl; apply h5; exact rfl; (exact rfl); exact rfl; rintro _ rfl) | (apply ds_call; exact rfl; exact rfl; apply h6; exact rfl; (exact rfl); exact rfl; rintro _ rfl) | (apply ds_call; exact rfl; exact rfl; apply h7; exact rfl; (exact rfl); exact rfl; rintro _ rfl) | (apply ds_bsC; exact rfl; exact rfl; exact rfl; exact rfl))
  exact ⟨.inl rfl, _, rfl, rfl, rfl⟩
def allB (S : List Fct) (body : List Ltl) (x : List Int) : Bool := x.all numB && body.all fun l => holdE S l x
set_option maxHeartbeats 8000000 in
theorem holds1_fn (r : Rul) (l : List Fct) (x : List Int) (hok : okB l x.length r.body) : Fn 14 [.d (.slice 1 (x.map encI)), .pd [.int .i64 r.pred, .slice 2 (r.terms.map encTrm), .int .i64 r.fold, .slice 4 (r.body.map encLtl), .int .i64 r.vars], .pd [.slice 2 (l.map encFct)]] (fun res => res = .d (.bool (allB l r.body x))) := by
  refine fnp_enter' _ Tryz.func14 rfl rfl (by kernel_rfl) ?_
  intro O w0 E0 β0
  have lx : (x.map encI).length = x.length := List.length_map _
  have lb : (r.body.map encLtl).length = r.body.length := List.length_map _
  have hb4 := hok.len
  refine dw_len (t := 0) rfl (fun hk => ?_)
  repeat' (first | (apply ds_evC; exact rfl; (with_reducible exact trivial); (with_reducible exact rfl); exact rfl; exact rfl; exact rfl) | apply ds_nil | apply dw_seq2 | (apply ds_region; exact rfl) | apply dw_block | apply thenD_n)
  refine ds_loop (ι := Nat) (fun i => ⟨0, [(0, .d (.slice 1 (x.map encI))), (1, .pd [.int .i64 r.pred, .slice 2 (r.terms.map encTrm), .int .i64 r.fold, .slice 4 (r.body.map encLtl), .int .i64 r.vars]), (2, .pd [.slice 2 (l.map encFct)]), (5, .d (.int .i64 i))], []⟩)
    (fun i => i ≤ x.length ∧ (x.take i).all numB = true) (fun i => x.length - i) 0 ⟨Nat.zero_le _, rfl⟩ (ent_ren id ⟨rfl, rfl, rfl, rfl, trivial⟩ trivial rfl rfl rfl rfl rfl rfl) ?_
  rintro i ⟨g1, g2⟩
  dsimp only at g1 g2 ⊢
  by_cases hi : i < x.length
  · have w1 := sisNumber_fn x[i]
    cases hb : numB x[i] with
    | false =>
      rw [hb] at w1
      have hal : allB l r.body x = false := by
        unfold allB
        rw [List.all_eq_false.2 ⟨_, List.getElem_mem hi, by rw [hb]; simp⟩, Bool.false_and]
      rw [hal]
      repeat' (first | (apply ds_evC; exact rfl; (first | (with_reducible exact trivial) | omega); (first | ((with_reducible apply hv_row); (exact rfl); (omega)) | (with_reducible exact rfl)); exact rfl; exact rfl; exact rfl) | apply ds_nil | apply dw_seq2 | (apply ds_region; exact rfl) | apply dw_block | apply dw_skip | apply dw_exit | apply dw_ret | (apply dw_condT; exact rfl) | apply thenD_n | apply thenD_e | apply thenD_r | apply inB_r | (apply inB_e; exact rfl) | (apply ds_call; exact rfl; exact rfl; apply w1; exact rfl; (exact rfl); exact rfl; rintro _ rfl) | (apply dw_condP; exact rfl; all_goals intro hg))
      all_goals try (exfalso; omega)
      all_goals exact ⟨.inl rfl, _, rfl, rfl, rfl⟩
    | true =>
      rw [hb] at w1
      repeat' (first | (apply ds_evC; exact rfl; (first | (with_reducible exact trivial) | omega); (first | ((with_reducible apply hv_row); (exact rfl); (omega)) | (with_reducible exact rfl)); exact rfl; exact rfl; exact rfl) | apply ds_nil | apply dw_seq2 | (apply ds_region; exact rfl) | apply dw_block | apply dw_skip | apply dw_exit | (apply dw_condF; exact rfl) | apply thenD_n | apply thenD_e | apply inB_n | (apply inB_e; exact rfl) | (apply ds_call; exact rfl; exact rfl; apply w1; exact rfl; (exact rfl); exact rfl; rintro _ rfl) | (apply dw_condP; exact rfl; all_goals intro hg))
      all_goals try (exfalso; omega)
      exact ⟨i + 1, ⟨hi, by rw [List.take_succ_eq_append_getElem hi, List.all_append, g2]; simp [hb]⟩, ent_ren id ⟨rfl, rfl, rfl, rfl, trivial⟩ trivial rfl rfl rfl rfl rfl rfl, by omega⟩
  · rw [List.take_of_length_le (by omega)] at g2
    have hnum := List.all_eq_true.1 g2
    have hal0 : allB l r.body x = r.body.all fun z => holdE l z x := by unfold allB; rw [g2, Bool.true_and]
    rw [hal0]
    repeat' (first | (apply ds_evC; exact rfl; (first | (with_reducible exact trivial) | omega); (first | ((with_reducible apply hv_row); (exact rfl); (omega)) | (with_reducible exact rfl)); exact rfl; exact rfl; exact rfl) | apply ds_nil | apply dw_seq2 | (apply ds_region; exact rfl) | apply dw_block | apply dw_skip | apply dw_exit | apply thenD_n | apply thenD_e | (apply inB_e; exact rfl) | (apply dw_condP; exact rfl; all_goals intro hg))
    all_goals try (exfalso; omega)
    refine ds_loop (ι := Nat) (fun i => ⟨0, [(0, .d (.slice 1 (x.map encI))), (1, .pd [.int .i64 r.pred, .slice 2 (r.terms.map encTrm), .int .i64 r.fold, .slice 4 (r.body.map encLtl), .int .i64 r.vars]), (2, .pd [.slice 2 (l.map encFct)]), (6, .d (.int .i64 i))], []⟩)
      (fun i => i ≤ r.body.length ∧ (r.body.all fun z => holdE l z x) = (r.body.drop i).all fun z => holdE l z x) (fun i => r.body.length - i) 0 ⟨Nat.zero_le _, rfl⟩ (ent_ren id ⟨rfl, rfl, rfl, rfl, trivial⟩ trivial rfl rfl rfl rfl rfl rfl) ?_
    clear g1 hi
    rintro i ⟨g1, g3⟩
    dsimp only at g1 g3 ⊢
    by_cases hi : i < r.body.length
    · have hm := List.getElem_mem hi
      have ho := hok.lit _ hm
      have w1 := litHolds_fn l r.body[i] x ho (hok.op _ hm) (fun _ t ht => by
        unfold vA
        split
        · exact hok.nums _ hm t ht
        · rename_i hv
          have hlt : t.var.toNat < x.length := by have := ho.terms t ht; unfold okT at this; omega
          rw [List.getD, List.getElem?_eq_getElem hlt]
          exact numB_in (hnum _ (List.getElem_mem hlt))) (by have := hok.tlen _ hm; omega)
      rw [List.drop_eq_getElem_cons hi, List.all_cons] at g3
      cases hb : holdE l r.body[i] x with
      | false =>
        rw [hb] at w1 g3
        rw [Bool.false_and] at g3
        rw [g3]
        repeat' (first | (apply ds_evC; exact rfl; (with_reducible exact trivial); (with_reducible exact rfl); exact rfl; exact rfl; exact rfl) | apply ds_nil | (apply dt_ev; exact rfl; exact rfl; (first | (with_reducible exact trivial) | omega); (first | ((with_reducible apply hv_row); (exact rfl); (omega)) | (with_reducible exact rfl)); exact rfl; exact rfl; exact rfl; exact rfl) | (apply dt_nil0; exact rfl; exact rfl; exact rfl; exact rfl) | apply dw_seq2 | (apply ds_region; exact rfl) | (apply dw_any; kernel_rfl; kernel_rfl; exact rfl; exact rfl) | apply dw_block | apply dw_skip | apply dw_exit | apply dw_ret | (apply dw_condT; exact rfl) | apply thenD_n | apply thenD_e | apply thenD_r | apply inB_r | (apply inB_e; exact rfl) | (apply dt_call; exact rfl; exact rfl; apply w1; exact rfl; (exact rfl); exact rfl; exact rfl; exact ⟨_, rfl⟩; rintro _ rfl) | (apply dw_condP; exact rfl; all_goals intro hg))
        all_goals try (exfalso; omega)
        all_goals exact ⟨.inl rfl, _, rfl, rfl, rfl⟩
      | true =>
        rw [hb] at w1 g3
        rw [Bool.true_and] at g3
        repeat' (first | (apply ds_evC; exact rfl; (first | (with_reducible exact trivial) | omega); (with_reducible exact rfl); exact rfl; exact rfl; exact rfl) | apply ds_nil | (apply dt_ev; exact rfl; exact rfl; (first | (with_reducible exact trivial) | omega); (first | ((with_reducible apply hv_row); (exact rfl); (omega)) | (with_reducible exact rfl)); exact rfl; exact rfl; exact rfl; exact rfl) | (apply dt_nil0; exact rfl; exact rfl; exact rfl; exact rfl) | apply dw_seq2 | (apply ds_region; exact rfl) | (apply dw_any; kernel_rfl; kernel_rfl; exact rfl; exact rfl) | apply dw_block | apply dw_skip | apply dw_exit | apply dw_ret | (apply dw_condF; exact rfl) | apply thenD_n | apply thenD_e | apply inB_n | (apply inB_e; exact rfl) | (apply dt_call; exact rfl; exact rfl; apply w1; exact rfl; (exact rfl); exact rfl; exact rfl; exact ⟨_, rfl⟩; rintro _ rfl) | (apply dw_condP; exact rfl; all_goals intro hg))
        all_goals try (exfalso; omega)
        exact ⟨i + 1, ⟨hi, g3⟩, ent_ren id ⟨rfl, rfl, rfl, rfl, trivial⟩ trivial rfl rfl rfl rfl rfl rfl, by omega⟩
    · rw [List.drop_of_length_le (by omega)] at g3
      rw [g3]
      repeat' (first | (apply ds_evC; exact rfl; (with_reducible exact trivial); (with_reducible exact rfl); exact rfl; exact rfl; exact rfl) | apply ds_nil | (apply dt_ev; exact rfl; exact rfl; (first | (with_reducible exact trivial) | omega); (first | ((with_reducible apply hv_row); (exact rfl); (omega)) | (with_reducible exact rfl)); exact rfl; exact rfl; exact rfl; exact rfl) | apply dw_seq2 | (apply ds_region; exact rfl) | (apply dw_any; kernel_rfl; kernel_rfl; exact rfl; exact rfl) | apply dw_block | apply dw_skip | apply dw_exit | apply dw_ret | apply thenD_n | apply thenD_e | (apply inB_e; exact rfl) | (apply dw_condP; exact rfl; all_goals intro hg))
      all_goals try (exfalso; omega)
      all_goals exact ⟨.inl rfl, _, rfl, rfl, rfl⟩
theorem holdE_mem {S S' : List Fct} (h : ∀ x, x ∈ S ↔ x ∈ S') (l : Ltl) (a : List Int) : holdE S l a = holdE S' l a := by
  have hf : ∀ f, hasF S f = hasF S' f := fun f => by rw [Bool.eq_iff_iff, hasF_iff, hasF_iff, h]
  unfold holdE
  rw [hf]
theorem okB_mem {S S' : List Fct} (h : ∀ x, x ∈ S ↔ x ∈ S') {v : Nat} {body : List Ltl} (hok : okB S v body) : okB S' v body :=
  ⟨fun l hl => let q := hok.lit l hl; ⟨q.kind, q.terms, q.test2, q.calc3, fun hk x hx => q.facts hk x ((h x).2 hx)⟩, hok.op, hok.nums, fun x hx => hok.facts x ((h x).2 hx), hok.len, hok.vle, hok.tlen⟩
theorem wayL_mem {p : Prg} {n : Int} {l : List Fct} (h : wayE p n l = 0) (a : List Int) : a ∈ wayL p n l ↔ a.length = (ruleAt p n).vars.toNat ∧ allB l (ruleAt p n).body a = true := by
  have hw := wayOk (wayE_ways h)
  have hS := (setF_spec l).1
  have hnd : (setF' l).Nodup := hS.imp fun h he => by subst he; exact lt_irrefl h
  obtain ⟨_, p2, p3⟩ := ways_perm hnd hw.ruls.ok.lit hw.ruls.bd
  have hmany : manyW (setF' l) (ruleAt p n) = true := by
    unfold wayE at h
    rw [if_neg (by rw [wayE_ways (by unfold wayE; exact h)]; simp)] at h
    split at h
    · assumption
    · cases h
  have heq : wayL p n l = waysL (setF' l) (ruleAt p n).vars.toNat (ruleAt p n).body := by unfold wayL rawW; rw [if_pos (wayE_ways h), if_pos hmany]
  rw [heq, (waysL_perm _ _ _).mem_iff, p3]
  refine and_congr_right fun hl => ?_
  have hh : ∀ z, holdE (setF' l) z a = holdE l z a := fun z => holdE_mem (setF_spec l).2 z a
  unfold allB
  rw [Bool.and_eq_true, List.all_eq_true, List.all_eq_true]
  constructor
  · intro hq
    refine ⟨fun y hy => numB_of (way_num hw.ruls.ok ((p3 a).2 ⟨hl, hq⟩) y hy), fun z hz => by rw [← hh]; exact hq z hz⟩
  · rintro ⟨_, hq⟩ z hz
    rw [hh]; exact hq z hz
set_option maxHeartbeats 8000000 in
theorem ruleHolds_fn (p : Prg) (n : Int) (l : List Fct) (nums : List Int) : Fn 3 [elPrg p, .d (.int .i64 n), .d (.slice 2 (l.map encFct)), .d (.slice 1 (nums.map encI))] (fun r => r = .d (.bool true)) := by
  refine fnp_enter' _ Tryz.func3 rfl rfl (by kernel_rfl) ?_
  intro O w0 E0 β0
  have h1 := ways_fn p n l
  have h2 := ruleBegun_fn
  have lr : (p.rules.map encRul).length = p.rules.length := List.length_map _
  have ln : (nums.map encI).length = nums.length := List.length_map _
  by_cases h0 : wayE p n l = 0
  · have hw := wayOk (wayE_ways h0)
    have hlo := hw.lo
    have hhi := hw.hi
    have hmem := wayL_mem h0
    have hv := hw.ruls.vars
    have hokB := okB_mem (setF_spec l).2 hw.ruls.ok
    have hmany := (wayL_ok hw).many
    rw [ruleAt_get hhi] at hmem hv hokB
    rw [h0] at h1
    clear hw
    generalize wayL p n l = ws at *
    have lw : (ws.map encW).length = ws.length := List.length_map _
    repeat' ((fail_if_success (apply dw_stopS 7)); (first | (apply ds_evC; exact rfl; (first | (with_reducible exact trivial) | omega); (first | ((with_reducible apply hv_row); (exact (Int.toNat_of_nonneg (by omega)).symm); (omega)) | (with_reducible exact rfl)); exact rfl; exact rfl; exact rfl) | apply ds_nil | apply dw_seq2 | (apply ds_region; exact rfl) | apply dw_skip | (apply dw_condF; exact rfl) | apply thenD_n | (apply ds_call; exact rfl; exact rfl; apply h1; exact rfl; (exact rfl); exact rfl; rintro _ rfl) | (apply ds_call; exact rfl; exact rfl; apply h2; exact rfl; (exact rfl); exact rfl; rintro _ rfl) | (apply ds_newC; exact rfl; (with_reducible exact trivial); exact rfl; exact rfl; exact rfl) | (apply ds_setC; exact rfl; exact rfl; exact rfl; exact rfl)))
    all_goals try (exfalso; omega)
    refine dw_ent (ent_freezeL (ds := [.int .i64 p.rules[n.toNat].pred, .slice 2 (p.rules[n.toNat].terms.map encTrm), .int .i64 p.rules[n.toNat].fold, .slice 4 (p.rules[n.toNat].body.map encLtl), .int .i64 p.rules[n.toNat].vars]) 11 2 rfl rfl) ?_
    refine dw_ent (ent_freezeL (ds := [.slice 2 (l.map encFct)]) 6 1 rfl rfl) ?_
    have hws : ∀ w ∈ ws, w.length = p.rules[n.toNat].vars.toNat ∧ allB l p.rules[n.toNat].body w = true := fun w hw => (hmem w).1 hw
    repeat' (first | (apply ds_evC; exact rfl; (with_reducible exact trivial); (with_reducible exact rfl); exact rfl; exact rfl; exact rfl) | apply ds_nil | apply dw_seq2 | (apply ds_region; exact rfl) | apply dw_block | apply thenD_n)
    refine ds_loop (ι := Nat) (fun i => ⟨1, [(3, .d (.slice 1 (nums.map encI))), (9, .d (.slice 1 (ws.map encW))), (11, .pd [.int .i64 p.rules[n.toNat].pred, .slice 2 (p.rules[n.toNat].terms.map encTrm), .int .i64 p.rules[n.toNat].fold, .slice 4 (p.rules[n.toNat].body.map encLtl), .int .i64 p.rules[n.toNat].vars]), (12, .fn 14 [.pd [.int .i64 p.rules[n.toNat].pred, .slice 2 (p.rules[n.toNat].terms.map encTrm), .int .i64 p.rules[n.toNat].fold, .slice 4 (p.rules[n.toNat].body.map encLtl), .int .i64 p.rules[n.toNat].vars], .pd [.slice 2 (l.map encFct)]]), (13, .d (.bool ((ws.take i).any fun w => decide (w = nums)))), (14, .d (.int .i64 i))], []⟩)
      (fun i => i ≤ ws.length) (fun i => ws.length - i) 0 (Nat.zero_le _) (ent_ren id ⟨rfl, rfl, rfl, rfl, rfl, rfl, trivial⟩ trivial rfl rfl rfl rfl rfl rfl) ?_
    intro i g1
    dsimp only at g1 ⊢
    by_cases hi : i < ws.length
    · obtain ⟨q1, q2⟩ := hws _ (List.getElem_mem hi)
      have h3 := holds1_fn p.rules[n.toNat] l ws[i] (by rw [q1]; exact hokB)
      rw [q2] at h3
      have h4 := sameInts_fn ws[i] nums
      rw [sameI_eq] at h4
      have hst : ((ws.take (i + 1)).any fun w => decide (w = nums)) = (((ws.take i).any fun w => decide (w = nums)) || decide (ws[i] = nums)) := by
        rw [List.take_succ_eq_append_getElem hi, List.any_append]; simp
      have lwi : ((ws[i]).map encI).length = ws[i].length := List.length_map _
      cases hb : (ws.take i).any fun w => decide (w = nums) with
      | true =>
        rw [hb, Bool.true_or] at hst
        repeat' (first | (apply ds_evC; exact rfl; (first | (with_reducible exact trivial) | omega); (with_reducible exact rfl); exact rfl; exact rfl; exact rfl) | (apply ds_skip; exact rfl; exact rfl) | apply ds_nil | (apply dt_ev; exact rfl; exact rfl; (first | (with_reducible exact trivial) | omega); (first | ((with_reducible apply hv_row); (exact rfl); (omega)) | (with_reducible exact rfl)); exact rfl; exact rfl; exact rfl; exact rfl) | (apply dt_skipD; exact rfl; exact rfl; exact rfl) | (apply dt_nil0; exact rfl; exact rfl; exact rfl; exact rfl) | apply dw_seq2 | (apply ds_region; exact rfl) | (apply dw_any; kernel_rfl; kernel_rfl; exact rfl; exact rfl) | apply dw_block | apply dw_skip | apply dw_exit | apply dw_ret | (apply dw_condT; exact rfl) | (apply dw_condF; exact rfl) | apply thenD_n | apply thenD_e | apply thenD_r | apply inB_n | apply inB_r | (apply inB_e; exact rfl) | (apply dt_callV; exact rfl; exact rfl; exact rfl; exact rfl; apply h3; exact rfl; (exact rfl); exact rfl; exact rfl; exact ⟨_, rfl⟩; rintro _ rfl) | (apply dw_condP; exact rfl; all_goals intro hg) | ((fail_if_success (apply ds_known; exact rfl)); apply ds_guardP; exact rfl; exact rfl; exact rfl; all_goals intro hg) | ((fail_if_success (apply dt_known; exact rfl)); apply dt_guardP; exact rfl; exact rfl; exact rfl; all_goals intro hg))
        all_goals try (exfalso; omega)
        exact ⟨i + 1, hi, ent_ren id ⟨rfl, rfl, rfl, rfl, by rw [hst]; rfl, rfl, trivial⟩ trivial rfl rfl rfl rfl rfl rfl, by omega⟩
      | false =>
        rw [hb, Bool.false_or] at hst
        repeat' (first | (apply ds_evC; exact rfl; (first | (with_reducible exact trivial) | omega); (first | ((with_reducible apply hv_row); (exact rfl); (omega)) | (with_reducible exact rfl)); exact rfl; exact rfl; exact rfl) | (apply ds_skip; exact rfl; exact rfl) | apply ds_nil | (apply dt_ev; exact rfl; exact rfl; (first | (with_reducible exact trivial) | omega); (first | ((with_reducible apply hv_row); (exact rfl); (omega)) | (with_reducible exact rfl)); exact rfl; exact rfl; exact rfl; exact rfl) | (apply dt_skipD; exact rfl; exact rfl; exact rfl) | (apply dt_nil0; exact rfl; exact rfl; exact rfl; exact rfl) | apply dw_seq2 | (apply ds_region; exact rfl) | (apply dw_any; kernel_rfl; kernel_rfl; exact rfl; exact rfl) | apply dw_block | apply dw_skip | apply dw_exit | apply dw_ret | (apply dw_condT; exact rfl) | (apply dw_condF; exact rfl) | apply thenD_n | apply thenD_e | apply thenD_r | apply inB_n | apply inB_r | (apply inB_e; exact rfl) | (apply dt_callV; exact rfl; exact rfl; exact rfl; exact rfl; apply h3; exact rfl; (exact rfl); exact rfl; exact rfl; exact ⟨_, rfl⟩; rintro _ rfl) | (apply ds_call; exact rfl; exact rfl; apply h4; exact rfl; (exact rfl); exact rfl; rintro _ rfl) | (apply dw_condP; exact rfl; all_goals intro hg) | ((fail_if_success (apply ds_known; exact rfl)); apply ds_guardP; exact rfl; exact rfl; exact rfl; all_goals intro hg) | ((fail_if_success (apply dt_known; exact rfl)); apply dt_guardP; exact rfl; exact rfl; exact rfl; all_goals intro hg))
        all_goals try (exfalso; omega)
        exact ⟨i + 1, hi, ent_ren id ⟨rfl, rfl, rfl, rfl, by rw [hst]; rfl, rfl, trivial⟩ trivial rfl rfl rfl rfl rfl rfl, by omega⟩
    · rw [List.take_of_length_le (by omega)]
      by_cases hlen : nums.length = p.rules[n.toNat].vars.toNat
      · have h3 := holds1_fn p.rules[n.toNat] l nums (by rw [hlen]; exact hokB)
        have hfin : (ws.any fun w => decide (w = nums)) = allB l p.rules[n.toNat].body nums := by
          rw [Bool.eq_iff_iff, List.any_eq_true]
          constructor
          · rintro ⟨w, hw, he⟩
            rw [← of_decide_eq_true he]; exact (hws w hw).2
          · intro h
            exact ⟨nums, (hmem nums).2 ⟨hlen, h⟩, decide_eq_true rfl⟩
        rw [hfin]
        generalize allB l p.rules[n.toNat].body nums = bb at h3 ⊢
        repeat' (first | (apply ds_evC; exact rfl; (with_reducible exact trivial); (with_reducible exact rfl); exact rfl; exact rfl; exact rfl) | (apply ds_skip; exact rfl; exact rfl) | apply ds_nil | (apply dt_ev; exact rfl; exact rfl; (first | (with_reducible exact trivial) | omega); (first | ((with_reducible apply hv_row); (exact rfl); (omega)) | (with_reducible exact rfl)); exact rfl; exact rfl; exact rfl; exact rfl) | (apply dt_skipD; exact rfl; exact rfl; exact rfl) | (apply dt_nil0; exact rfl; exact rfl; exact rfl; exact rfl) | apply dw_seq2 | (apply ds_region; exact rfl) | (apply dw_any; kernel_rfl; kernel_rfl; exact rfl; exact rfl) | apply dw_block | apply dw_skip | apply dw_exit | apply dw_ret | (apply dw_condT; exact rfl) | apply thenD_n | apply thenD_e | apply thenD_r | apply inB_r | (apply inB_e; exact rfl) | (apply ds_callV; exact rfl; exact rfl; exact rfl; exact rfl; apply h3; exact rfl; (exact rfl); exact rfl; rintro _ rfl) | (apply dw_condP; exact rfl; all_goals intro hg) | ((fail_if_success (apply ds_known; exact rfl)); apply ds_guardP; exact rfl; exact rfl; exact rfl; all_goals intro hg) | ((fail_if_success (apply dt_known; exact rfl)); apply dt_guardP; exact rfl; exact rfl; exact rfl; all_goals intro hg))
        all_goals try (exfalso; omega)
        exact ret_b rfl (by cases bb <;> rfl)
      · repeat' (first | (apply ds_evC; exact rfl; (with_reducible exact trivial); (with_reducible exact rfl); exact rfl; exact rfl; exact rfl) | (apply ds_skip; exact rfl; exact rfl) | apply ds_nil | (apply dt_ev; exact rfl; exact rfl; (first | (with_reducible exact trivial) | omega); (first | ((with_reducible apply hv_row); (exact rfl); (omega)) | (with_reducible exact rfl)); exact rfl; exact rfl; exact rfl; exact rfl) | (apply dt_skipD; exact rfl; exact rfl; exact rfl) | (apply dt_nil0; exact rfl; exact rfl; exact rfl; exact rfl) | apply dw_seq2 | (apply ds_region; exact rfl) | (apply dw_any; kernel_rfl; kernel_rfl; exact rfl; exact rfl) | apply dw_block | apply dw_skip | apply dw_exit | apply dw_ret | (apply dw_condT; exact rfl) | apply thenD_n | apply thenD_e | apply thenD_r | apply inB_r | (apply inB_e; exact rfl) | (apply dw_condP; exact rfl; all_goals intro hg) | ((fail_if_success (apply ds_known; exact rfl)); apply ds_guardP; exact rfl; exact rfl; exact rfl; all_goals intro hg) | ((fail_if_success (apply dt_known; exact rfl)); apply dt_guardP; exact rfl; exact rfl; exact rfl; all_goals intro hg))
        all_goals try (exfalso; omega)
        exact ⟨.inl rfl, _, rfl, rfl, rfl⟩
  · have hl : wayL p n l = [] := by
      unfold wayL rawW
      split
      · rename_i hq
        split
        · rename_i hm
          exfalso; apply h0
          unfold wayE
          rw [if_neg (by rw [hq]; simp), if_pos hm]
        · rfl
      · rfl
    rw [hl] at h1
    repeat' (first | (apply ds_evC; exact rfl; (first | (with_reducible exact trivial) | omega); (first | ((with_reducible apply hv_row); (exact (Int.toNat_of_nonneg (by omega)).symm); (omega)) | (with_reducible exact rfl)); exact rfl; exact rfl; exact rfl) | apply ds_nil | apply dw_seq2 | (apply ds_region; exact rfl) | apply dw_block | apply dw_skip | apply dw_ret | (apply dw_condF; exact rfl) | apply thenD_n | apply thenD_r | (apply ds_call; exact rfl; exact rfl; apply h1; exact rfl; (exact rfl); exact rfl; rintro _ rfl) | (apply ds_call; exact rfl; exact rfl; apply h2; exact rfl; (exact rfl); exact rfl; rintro _ rfl) | (apply ds_newC; exact rfl; (with_reducible exact trivial); exact rfl; exact rfl; exact rfl) | (apply ds_setC; exact rfl; exact rfl; exact rfl; exact rfl) | (apply dw_condP; exact rfl; all_goals intro hg))
    all_goals try (exfalso; omega)
    all_goals exact ⟨.inl rfl, _, rfl, rfl, rfl⟩
end Go.Proofs.YtapciiffpnociacGreat

/- Programs that are handed in, read as data. Condition: none. -/
namespace Go.Proofs.YtapciiffpnociacGreat
open Go Go.RowKit
theorem plistOf {α : Type} {e : RT} {enc : α → List D} (h : ∀ x, TyD e x → ∃ t, x = enc t) : ∀ (l : List (List D)), (∀ x ∈ l, TyD e x) → ∃ ts : List α, l = ts.map enc
  | [], _ => ⟨[], rfl⟩
  | x :: l, hl => by
    obtain ⟨t, rfl⟩ := h x (hl x (List.mem_cons_self ..))
    obtain ⟨ts, rfl⟩ := plistOf h l fun y hy => hl y (List.mem_cons_of_mem _ hy)
    exact ⟨t :: ts, rfl⟩
theorem psliceOf {α : Type} {c b : Nat} {e : RT} {enc : α → List D} (h : ∀ x, TyD e x → ∃ t, x = enc t) (x : List D) (hx : TyD (.slice c b e) x) : ∃ ts : List α, x = [.slice c (ts.map enc)] := by
  obtain ⟨l, _, _, rfl, h3⟩ := hx
  obtain ⟨ts, rfl⟩ := plistOf h l h3
  exact ⟨ts, rfl⟩
abbrev rtTrm : RT := .struct [.int .i64, .int .i64]
abbrev rtLtl : RT := .struct [.int .i64, .int .i64, .int .i64, .slice 2 16 rtTrm]
abbrev rtRul : RT := .struct [.int .i64, .slice 2 16 rtTrm, .int .i64, .slice 4 48 rtLtl, .int .i64]
abbrev rtPrg : RT := .struct [.slice 1 8 (.int .i64), .slice 1 16 .str, .slice 5 72 rtRul]
theorem pint_of (x : List D) (h : TyD (.int .i64) x) : ∃ n : Int, x = encI n := by
  obtain ⟨n, _, rfl⟩ := h
  exact ⟨n, rfl⟩
theorem pstr_of (x : List D) (h : TyD .str x) : ∃ n : ByteArray, x = encT n := by
  obtain ⟨n, _, rfl⟩ := h
  exact ⟨n, rfl⟩
theorem trm_of (x : List D) (h : TyD rtTrm x) : ∃ t : Trm, x = encTrm t := by
  obtain ⟨a, b, rfl, ⟨k, _, rfl⟩, c, d, rfl, ⟨p, _, rfl⟩, rfl⟩ := h
  exact ⟨⟨k, p⟩, rfl⟩
theorem ltl_of (x : List D) (h : TyD rtLtl x) : ∃ t : Ltl, x = encLtl t := by
  obtain ⟨a, b, rfl, ⟨k, _, rfl⟩, c, d, rfl, ⟨p, _, rfl⟩, e, f, rfl, ⟨q, _, rfl⟩, g, i, rfl, h4, rfl⟩ := h
  obtain ⟨l, rfl⟩ := psliceOf trm_of g h4
  exact ⟨⟨k, p, q, l⟩, rfl⟩
theorem rul_of (x : List D) (h : TyD rtRul x) : ∃ t : Rul, x = encRul t := by
  obtain ⟨a, b, rfl, ⟨k, _, rfl⟩, c, d, rfl, h2, e, f, rfl, ⟨q, _, rfl⟩, g, i, rfl, h4, j, m, rfl, ⟨v, _, rfl⟩, rfl⟩ := h
  obtain ⟨l, rfl⟩ := psliceOf trm_of c h2
  obtain ⟨n, rfl⟩ := psliceOf ltl_of g h4
  exact ⟨⟨k, l, q, n, v⟩, rfl⟩
theorem prg_arg (x : List D) (h : TyD rtPrg x) : ∃ p : Prg, RT.arg rtPrg x = elPrg p := by
  obtain ⟨c, d, rfl, h2, e, f, rfl, h3, g, h, rfl, h4, rfl⟩ := h
  obtain ⟨l, rfl⟩ := psliceOf pint_of c h2
  obtain ⟨m, rfl⟩ := psliceOf pstr_of e h3
  obtain ⟨n, rfl⟩ := psliceOf rul_of g h4
  exact ⟨⟨l, m, n⟩, rfl⟩
abbrev rtInts : RT := .slice 1 8 (.int .i64)
theorem ints_arg (x : List D) (h : TyD rtInts x) : ∃ l : List Int, RT.arg rtInts x = .d (.slice 1 (l.map encI)) := by
  obtain ⟨l, rfl⟩ := psliceOf pint_of x h
  exact ⟨l, rfl⟩
abbrev rtFct : RT := .struct [.int .i64, .slice 1 8 (.int .i64)]
theorem fct_of (x : List D) (h : TyD rtFct x) : ∃ t : Fct, x = encFct t := by
  obtain ⟨a, b, rfl, ⟨k, _, rfl⟩, c, d, rfl, h2, rfl⟩ := h
  obtain ⟨l, rfl⟩ := psliceOf pint_of c h2
  exact ⟨⟨k, l⟩, rfl⟩
theorem fcts_arg (x : List D) (h : TyD (.slice 2 32 rtFct) x) : ∃ l : List Fct, RT.arg (.slice 2 32 rtFct) x = .d (.slice 2 (l.map encFct)) := by
  obtain ⟨l, rfl⟩ := psliceOf fct_of x h
  exact ⟨l, rfl⟩
end Go.Proofs.YtapciiffpnociacGreat
