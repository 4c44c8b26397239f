/- Several texts in one: StrB ScoD ScoF. Condition: none. -/
import Derived.Test.YtapciiffpnociaaB13
import Derived.Test.YtapciiffpnociaaB12

/- The document's SameInts, sameOwnTerms. Condition: none. -/
namespace Go.Proofs.Ytapciiffpnociaa
open Go Go.RowKit
attribute [local irreducible] DW DS DL DQ Ev FnOk FnP thenD inBlockD DT
def sameI (a b : Int) : Bool := decide (a = b)
def sameTrm (a b : Trm) : Bool := decide (a.var = b.var) && decide (a.n = b.n)
theorem ne_not {a b : Int} {c : Bool} (h : decide (a ≠ b) = !c) : sameI a b = c := by
  unfold sameI
  cases c <;> simp_all
theorem trm_not {x y : Trm} {b : Bool} (h : (!(decide (x.var = y.var) && (decide (x.n = y.n) && true))) = !b) : sameTrm x y = b := by
  unfold sameTrm
  rw [Bool.and_true] at h
  exact Bool.not_inj h
set_option maxHeartbeats 8000000 in
theorem sameInts_fn (l m : List (Int)) : Fn 36 [.d (.slice 1 (l.map encI)), .d (.slice 1 (m.map encI))] (fun r => r = .d (.bool (sameL sameI l m))) := by
  refine fnp_enter' _ Try.func36 rfl rfl (by kernel_rfl) ?_
  intro O w0 E0 β0
  refine dw_len_map (t := 0) rfl fun hb => ?_
  repeat' (first | (apply ds_evC; exact rfl; (with_reducible exact trivial); (with_reducible exact rfl); exact rfl; exact rfl; exact rfl) | apply ds_nil | apply dw_seq2 | (apply ds_region; exact rfl) | apply thenD_n)
  refine dw_condP rfl (fun h => ?_) (fun h => ?_)
  · have hne : l.length ≠ m.length := by rw [List.length_map, List.length_map] at h; omega
    repeat' (first | (apply ds_evC; exact rfl; (with_reducible exact trivial); (with_reducible exact rfl); exact rfl; exact rfl; exact rfl) | apply ds_nil | apply dw_seq2 | (apply ds_region; exact rfl) | apply dw_ret | apply thenD_n | apply thenD_r)
    exact ret_b rfl (sameL_len _ _ _ hne).symm
  · have hlen : l.length = m.length := by rw [List.length_map, List.length_map] at h; omega
    repeat' (first | (apply ds_evC; exact rfl; (with_reducible exact trivial); (with_reducible exact rfl); exact rfl; exact rfl; exact rfl) | apply ds_nil | apply dw_seq2 | (apply ds_region; exact rfl) | apply dw_block | apply dw_skip | apply thenD_n)
    refine ds_loop (ι := Nat) (fun i => ⟨0, [(0, .d (.slice 1 (l.map encI))), (1, .d (.slice 1 (m.map encI))), (5, .d (.int .i64 i))], []⟩)
      (fun i => i ≤ l.length ∧ sameL sameI l m = sameL sameI (l.drop i) (m.drop i)) (fun i => l.length - i) 0 ⟨Nat.zero_le _, rfl⟩
      (ent_ren id ⟨rfl, rfl, rfl, trivial⟩ trivial rfl rfl rfl rfl rfl rfl) ?_
    rintro i ⟨h1, h2⟩
    repeat' (first | (apply ds_evC; exact rfl; (with_reducible exact trivial); (with_reducible exact rfl); exact rfl; exact rfl; exact rfl) | apply ds_nil | apply dw_seq2 | (apply ds_region; exact rfl) | apply thenD_n)
    refine dw_condP rfl (fun h => ?_) (fun h => ?_)
    · have hi : i < l.length := by rw [List.length_map] at h; omega
      have hm : i < m.length := by omega
      have hd := sameL_drop sameI l m i hi hm
      repeat' (first | (apply dt_ev; exact rfl; exact rfl; (first | (with_reducible exact trivial) | omega); (first | ((with_reducible apply hv_row); (exact rfl); (omega)) | (with_reducible exact rfl)); exact rfl; exact rfl; exact rfl; exact rfl) | (apply dt_nil0; exact rfl; exact rfl; exact rfl; exact rfl) | apply dw_seq2 | (apply dw_any; kernel_rfl; kernel_rfl; exact rfl; exact rfl) | apply dw_block | apply dw_skip | apply thenD_n)
      refine dw_cond rfl (fun hb => ?_) (fun hb => ?_)
      · have hp : sameI l[i] m[i] = false := by exact ne_not hb
        repeat' (first | (apply ds_evC; exact rfl; (with_reducible exact trivial); (with_reducible exact rfl); exact rfl; exact rfl; exact rfl) | apply ds_nil | apply dw_seq2 | (apply ds_region; exact rfl) | apply dw_ret | apply thenD_n | apply thenD_r | apply inB_r)
        exact ret_b rfl (by rw [h2, hd, hp]; rfl)
      · have hp : sameI l[i] m[i] = true := by exact ne_not hb
        repeat' (first | (apply ds_evC; exact rfl; (first | (with_reducible exact trivial) | omega); (with_reducible exact rfl); exact rfl; exact rfl; exact rfl) | apply ds_nil | (apply ds_region; exact rfl) | apply dw_skip | apply thenD_n | apply inB_n)
        exact ⟨i + 1, ⟨hi, by rw [h2, hd, hp]; rfl⟩, ent_ren id ⟨rfl, rfl, rfl, trivial⟩ trivial rfl rfl rfl rfl rfl rfl, by omega⟩
    · repeat' (first | (apply ds_evC; exact rfl; (with_reducible exact trivial); (with_reducible exact rfl); exact rfl; exact rfl; exact rfl) | apply ds_nil | apply dw_seq2 | (apply ds_region; exact rfl) | apply dw_exit | apply dw_ret | apply thenD_n | apply thenD_e | (apply inB_e; exact rfl))
      exact ret_b rfl (by rw [h2, sameL_end _ _ _ _ (by rw [List.length_map] at h; omega) (by rw [List.length_map] at h; omega)])

set_option maxHeartbeats 8000000 in
theorem sameTerms_fn (l m : List (Trm)) : Fn 113 [.d (.slice 2 (l.map encTrm)), .d (.slice 2 (m.map encTrm))] (fun r => r = .d (.bool (sameL sameTrm l m))) := by
  refine fnp_enter' _ Try.func113 rfl rfl (by kernel_rfl) ?_
  intro O w0 E0 β0
  refine dw_len_map (t := 0) rfl fun hb => ?_
  repeat' (first | (apply ds_evC; exact rfl; (with_reducible exact trivial); (with_reducible exact rfl); exact rfl; exact rfl; exact rfl) | apply ds_nil | apply dw_seq2 | (apply ds_region; exact rfl) | apply thenD_n)
  refine dw_condP rfl (fun h => ?_) (fun h => ?_)
  · have hne : l.length ≠ m.length := by rw [List.length_map, List.length_map] at h; omega
    repeat' (first | (apply ds_evC; exact rfl; (with_reducible exact trivial); (with_reducible exact rfl); exact rfl; exact rfl; exact rfl) | apply ds_nil | apply dw_seq2 | (apply ds_region; exact rfl) | apply dw_ret | apply thenD_n | apply thenD_r)
    exact ret_b rfl (sameL_len _ _ _ hne).symm
  · have hlen : l.length = m.length := by rw [List.length_map, List.length_map] at h; omega
    repeat' (first | (apply ds_evC; exact rfl; (with_reducible exact trivial); (with_reducible exact rfl); exact rfl; exact rfl; exact rfl) | apply ds_nil | apply dw_seq2 | (apply ds_region; exact rfl) | apply dw_block | apply dw_skip | apply thenD_n)
    refine ds_loop (ι := Nat) (fun i => ⟨0, [(0, .d (.slice 2 (l.map encTrm))), (1, .d (.slice 2 (m.map encTrm))), (5, .d (.int .i64 i))], []⟩)
      (fun i => i ≤ l.length ∧ sameL sameTrm l m = sameL sameTrm (l.drop i) (m.drop i)) (fun i => l.length - i) 0 ⟨Nat.zero_le _, rfl⟩
      (ent_ren id ⟨rfl, rfl, rfl, trivial⟩ trivial rfl rfl rfl rfl rfl rfl) ?_
    rintro i ⟨h1, h2⟩
    repeat' (first | (apply ds_evC; exact rfl; (with_reducible exact trivial); (with_reducible exact rfl); exact rfl; exact rfl; exact rfl) | apply ds_nil | apply dw_seq2 | (apply ds_region; exact rfl) | apply thenD_n)
    refine dw_condP rfl (fun h => ?_) (fun h => ?_)
    · have hi : i < l.length := by rw [List.length_map] at h; omega
      have hm : i < m.length := by omega
      have hd := sameL_drop sameTrm l m i hi hm
      repeat' (first | (apply dt_ev; exact rfl; exact rfl; (first | (with_reducible exact trivial) | omega); (first | ((with_reducible apply hv_row); (exact rfl); (omega)) | (with_reducible exact rfl)); exact rfl; exact rfl; exact rfl; exact rfl) | (apply dt_nil0; exact rfl; exact rfl; exact rfl; exact rfl) | apply dw_seq2 | (apply dw_any; kernel_rfl; kernel_rfl; exact rfl; exact rfl) | apply dw_block | apply dw_skip | apply thenD_n)
      refine dw_cond rfl (fun hb => ?_) (fun hb => ?_)
      · have hp : sameTrm l[i] m[i] = false := by exact trm_not hb
        repeat' (first | (apply ds_evC; exact rfl; (with_reducible exact trivial); (with_reducible exact rfl); exact rfl; exact rfl; exact rfl) | apply ds_nil | apply dw_seq2 | (apply ds_region; exact rfl) | apply dw_ret | apply thenD_n | apply thenD_r | apply inB_r)
        exact ret_b rfl (by rw [h2, hd, hp]; rfl)
      · have hp : sameTrm l[i] m[i] = true := by exact trm_not hb
        repeat' (first | (apply ds_evC; exact rfl; (first | (with_reducible exact trivial) | omega); (with_reducible exact rfl); exact rfl; exact rfl; exact rfl) | apply ds_nil | (apply ds_region; exact rfl) | apply dw_skip | apply thenD_n | apply inB_n)
        exact ⟨i + 1, ⟨hi, by rw [h2, hd, hp]; rfl⟩, ent_ren id ⟨rfl, rfl, rfl, trivial⟩ trivial rfl rfl rfl rfl rfl rfl, by omega⟩
    · repeat' (first | (apply ds_evC; exact rfl; (with_reducible exact trivial); (with_reducible exact rfl); exact rfl; exact rfl; exact rfl) | apply ds_nil | apply dw_seq2 | (apply ds_region; exact rfl) | apply dw_exit | apply dw_ret | apply thenD_n | apply thenD_e | (apply inB_e; exact rfl))
      exact ret_b rfl (by rw [h2, sameL_end _ _ _ _ (by rw [List.length_map] at h; omega) (by rw [List.length_map] at h; omega)])

def sameBl (a b : Bool) : Bool := a == b
theorem bl_not {a b c : Bool} (h : (a != b) = !c) : sameBl a b = c := by
  unfold sameBl
  cases a <;> cases b <;> cases c <;> simp_all
set_option maxHeartbeats 8000000 in
theorem sameBools_fn (l m : List (Bool)) : Fn 37 [.d (.slice 1 (l.map encBl)), .d (.slice 1 (m.map encBl))] (fun r => r = .d (.bool (sameL sameBl l m))) := by
  refine fnp_enter' _ Try.func37 rfl rfl (by kernel_rfl) ?_
  intro O w0 E0 β0
  refine dw_len_map (t := 0) rfl fun hb => ?_
  repeat' (first | (apply ds_evC; exact rfl; (with_reducible exact trivial); (with_reducible exact rfl); exact rfl; exact rfl; exact rfl) | apply ds_nil | apply dw_seq2 | (apply ds_region; exact rfl) | apply thenD_n)
  refine dw_condP rfl (fun h => ?_) (fun h => ?_)
  · have hne : l.length ≠ m.length := by rw [List.length_map, List.length_map] at h; omega
    repeat' (first | (apply ds_evC; exact rfl; (with_reducible exact trivial); (with_reducible exact rfl); exact rfl; exact rfl; exact rfl) | apply ds_nil | apply dw_seq2 | (apply ds_region; exact rfl) | apply dw_ret | apply thenD_n | apply thenD_r)
    exact ret_b rfl (sameL_len _ _ _ hne).symm
  · have hlen : l.length = m.length := by rw [List.length_map, List.length_map] at h; omega
    repeat' (first | (apply ds_evC; exact rfl; (with_reducible exact trivial); (with_reducible exact rfl); exact rfl; exact rfl; exact rfl) | apply ds_nil | apply dw_seq2 | (apply ds_region; exact rfl) | apply dw_block | apply dw_skip | apply thenD_n)
    refine ds_loop (ι := Nat) (fun i => ⟨0, [(0, .d (.slice 1 (l.map encBl))), (1, .d (.slice 1 (m.map encBl))), (5, .d (.int .i64 i))], []⟩)
      (fun i => i ≤ l.length ∧ sameL sameBl l m = sameL sameBl (l.drop i) (m.drop i)) (fun i => l.length - i) 0 ⟨Nat.zero_le _, rfl⟩
      (ent_ren id ⟨rfl, rfl, rfl, trivial⟩ trivial rfl rfl rfl rfl rfl rfl) ?_
    rintro i ⟨h1, h2⟩
    repeat' (first | (apply ds_evC; exact rfl; (with_reducible exact trivial); (with_reducible exact rfl); exact rfl; exact rfl; exact rfl) | apply ds_nil | apply dw_seq2 | (apply ds_region; exact rfl) | apply thenD_n)
    refine dw_condP rfl (fun h => ?_) (fun h => ?_)
    · have hi : i < l.length := by rw [List.length_map] at h; omega
      have hm : i < m.length := by omega
      have hd := sameL_drop sameBl l m i hi hm
      repeat' (first | (apply dt_ev; exact rfl; exact rfl; (first | (with_reducible exact trivial) | omega); (first | ((with_reducible apply hv_row); (exact rfl); (omega)) | (with_reducible exact rfl)); exact rfl; exact rfl; exact rfl; exact rfl) | (apply dt_nil0; exact rfl; exact rfl; exact rfl; exact rfl) | apply dw_seq2 | (apply dw_any; kernel_rfl; kernel_rfl; exact rfl; exact rfl) | apply dw_block | apply dw_skip | apply thenD_n)
      refine dw_cond rfl (fun hb => ?_) (fun hb => ?_)
      · have hp : sameBl l[i] m[i] = false := by exact bl_not hb
        repeat' (first | (apply ds_evC; exact rfl; (with_reducible exact trivial); (with_reducible exact rfl); exact rfl; exact rfl; exact rfl) | apply ds_nil | apply dw_seq2 | (apply ds_region; exact rfl) | apply dw_ret | apply thenD_n | apply thenD_r | apply inB_r)
        exact ret_b rfl (by rw [h2, hd, hp]; rfl)
      · have hp : sameBl l[i] m[i] = true := by exact bl_not hb
        repeat' (first | (apply ds_evC; exact rfl; (first | (with_reducible exact trivial) | omega); (with_reducible exact rfl); exact rfl; exact rfl; exact rfl) | apply ds_nil | (apply ds_region; exact rfl) | apply dw_skip | apply thenD_n | apply inB_n)
        exact ⟨i + 1, ⟨hi, by rw [h2, hd, hp]; rfl⟩, ent_ren id ⟨rfl, rfl, rfl, trivial⟩ trivial rfl rfl rfl rfl rfl rfl, by omega⟩
    · repeat' (first | (apply ds_evC; exact rfl; (with_reducible exact trivial); (with_reducible exact rfl); exact rfl; exact rfl; exact rfl) | apply ds_nil | apply dw_seq2 | (apply ds_region; exact rfl) | apply dw_exit | apply dw_ret | apply thenD_n | apply thenD_e | (apply inB_e; exact rfl))
      exact ret_b rfl (by rw [h2, sameL_end _ _ _ _ (by rw [List.length_map] at h; omega) (by rw [List.length_map] at h; omega)])

end Go.Proofs.Ytapciiffpnociaa

/- scope's rule and Check. Condition: none. -/
namespace Go.Proofs.Ytapciiffpnociaa
open Go Go.RowKit
attribute [local irreducible] DW DS DL DQ Ev FnOk FnP thenD inBlockD DT

theorem firstL_zero {α : Type} {f : α → Int} : ∀ {l : List α}, firstL f l = 0 → ∀ x ∈ l, f x = 0
  | [], _, x, hx => by simp at hx
  | y :: l, h, x, hx => by
    unfold firstL at h
    split at h
    · rename_i hn; exact absurd h hn
    · rename_i hn
      rcases List.mem_cons.1 hx with rfl | hx
      · exact Decidable.not_not.1 hn
      · exact firstL_zero h x hx
theorem termE_ok {vars : Int} {t : Trm} (h0 : 0 ≤ vars) (h : termE vars t = 0) : okT vars.toNat t := by
  unfold termE at h
  split at h
  · cases h
  · rename_i hn
    rw [Bool.not_eq_false] at hn
    have := inR_spec hn
    unfold okT
    omega
theorem litE_ok {ar : List Int} {vars : Int} {l : Ltl} (h0 : 0 ≤ vars) (h : litE ar vars l = 0) : (∀ t ∈ l.terms, okT vars.toNat t) ∧ (l.kind = 4 → l.terms.length = 3) := by
  have ht : termsE vars l.terms = 0 → ∀ t ∈ l.terms, okT vars.toNat t := fun h t ht => termE_ok h0 (firstL_zero h t ht)
  unfold litE at h
  split at h
  · cases h
  split at h
  · cases h
  split at h
  · split at h
    · cases h
    split at h
    · cases h
    exact ⟨ht h, fun hk => by omega⟩
  · split at h
    · cases h
    exact ⟨ht h, fun hk => by omega⟩
theorem any_false (l : List Bool) : (l.any fun x => eqB x false) = !l.all id := by
  induction l with
  | nil => rfl
  | cons b l ih => rw [List.any_cons, List.all_cons, ih]; cases b <;> rfl

abbrev prgB (p : Prg) : HB := .blk 52 [.d (.slice 1 (p.arity.map encI)), .d (.slice 1 (p.names.map encT)), .d (.slice 5 (p.rules.map encRul))]

set_option maxHeartbeats 8000000 in
theorem rule_fn (p : Prg) (r : Rul) : Fn 162 [elPrg p, elRul r] (fun x => x = .d (.int .i64 (ruleE p.arity r))) := by
  refine fnp_enter' _ Try.func162 rfl rfl (by kernel_rfl) ?_
  intro O w0 E0 β0
  have la : (p.arity.map encI).length = p.arity.length := List.length_map _
  have lb : (r.terms.map encTrm).length = r.terms.length := List.length_map _
  have lc : (r.body.map encLtl).length = r.body.length := List.length_map _
  refine dw_lenA 0 0 rfl rfl (fun hk => ?_)
  refine dw_lenA 1 1 rfl rfl (fun hk2 => ?_)
  refine dw_lenA 1 3 rfl rfl (fun hk3 => ?_)
  have w1 := swithin_fn r.pred 0 (((p.arity.map encI).length : Int) - 1)
  have w2 := swithin_fn r.vars 0 8
  have w3 := swithin_fn r.fold 0 4
  unfold ruleE
  rw [← la, ← lb, ← lc]
  by_cases hp : inR r.pred 0 (((p.arity.map encI).length : Int) - 1) = true
  · have hp' := inR_spec hp
    have hA := arity_at (p := p) (n := r.pred) (by omega) (by omega)
    rw [hp] at w1 ⊢
    rw [if_neg (show ¬ (true = false) by decide), hA]
    by_cases hv : inR r.vars 0 8 = true
    · have hv' := inR_spec hv
      rw [hv] at w2 ⊢
      rw [if_neg (show ¬ (true = false) by decide)]
      have w4 := terms_fn r.terms r.vars hv'.1 hv'.2
      clear hv hp hA
      have w5 := fun l => lit_fn p l r.vars hv'.1 hv'.2
      generalize termsE r.vars r.terms = te at w4 ⊢
      generalize inR r.fold 0 4 = fo at w3 ⊢
      repeat' (first | (apply ds_evC; exact rfl; (first | (with_reducible exact trivial) | omega); (with_reducible exact rfl); exact rfl; exact rfl; exact rfl) | (apply ds_skip; exact rfl; exact rfl) | apply ds_nil | (apply dt_ev; exact rfl; exact rfl; (first | (with_reducible exact trivial) | omega); (first | ((with_reducible apply hv_row); (exact (Int.toNat_of_nonneg (by omega)).symm); (omega)) | (with_reducible exact rfl)); exact rfl; exact rfl; exact rfl; exact rfl) | (apply dt_nil0; exact rfl; exact rfl; exact rfl; exact rfl) | apply dw_seq2 | (apply ds_region; exact rfl) | (apply dw_any; kernel_rfl; kernel_rfl; exact rfl; exact rfl) | apply dw_block | apply dw_skip | apply dw_ret | (apply dw_condT; exact rfl) | (apply dw_condF; exact rfl) | apply thenD_n | apply thenD_r | apply inB_n | apply inB_r | (apply ds_call; exact rfl; exact rfl; apply w1; exact rfl; (exact rfl); exact rfl; rintro _ rfl) | (apply ds_call; exact rfl; exact rfl; apply w2; exact rfl; (exact rfl); exact rfl; rintro _ rfl) | (apply ds_call; exact rfl; exact rfl; apply w3; exact rfl; (exact rfl); exact rfl; rintro _ rfl) | (apply ds_call; exact rfl; exact rfl; apply w4; exact rfl; (exact rfl); exact rfl; rintro _ rfl) | (apply ds_newC; exact rfl; (with_reducible exact trivial); exact rfl; exact rfl; exact rfl) | (apply dw_condP; exact rfl; all_goals intro hg) | (apply dw_cond; exact rfl; all_goals intro hg) | ((fail_if_success (apply ds_known; exact rfl)); apply ds_guardP; exact rfl; exact rfl; exact rfl; all_goals intro hg))
      all_goals try (refine ret_i rfl ?_; (repeat' split) <;> (first | rfl | (exfalso; omega) | (exfalso; simp_all; done)))
      all_goals
        have hfin : ∀ e, firstL (litE p.arity r.vars) r.body = e → (if (((r.terms.map encTrm).length : Nat) : Int) ≠ p.arity[r.pred.toNat]'(by omega) then 1 else if te ≠ 0 then te else if fo = false then 7 else if r.fold ≠ 0 ∧ ((r.terms.map encTrm).length = 0 ∨ (r.body.map encLtl).length = 0) then 1 else if 4 < (r.body.map encLtl).length then 2 else if firstL (litE p.arity r.vars) r.body ≠ 0 then firstL (litE p.arity r.vars) r.body else if safeB r = false then 4 else 0) = if e ≠ 0 then e else if safeB r = false then 4 else 0 := by
          rintro e rfl
          (repeat' split) <;> (first | rfl | (exfalso; omega) | (exfalso; simp_all; done))
        generalize (if (((r.terms.map encTrm).length : Nat) : Int) ≠ p.arity[r.pred.toNat]'(by omega) then 1 else if te ≠ 0 then te else if fo = false then 7 else if r.fold ≠ 0 ∧ ((r.terms.map encTrm).length = 0 ∨ (r.body.map encLtl).length = 0) then 1 else if 4 < (r.body.map encLtl).length then 2 else if firstL (litE p.arity r.vars) r.body ≠ 0 then firstL (litE p.arity r.vars) r.body else if safeB r = false then 4 else 0) = res at hfin ⊢
        refine ds_loop (ι := Nat) (fun i => ⟨2, [(2, .loc 0 0), (3, .loc 1 0), (4, .d (.int .i64 0)), (69, .d (.slice 4 (r.body.map encLtl))), (70, .d (.int .i64 (r.body.map encLtl).length)), (71, .d (.int .i64 i))], [(0, prgB p), (1, ruleB r)]⟩)
          (fun i => i ≤ r.body.length ∧ firstL (litE p.arity r.vars) r.body = firstL (litE p.arity r.vars) (r.body.drop i)) (fun i => r.body.length - i) 0 ⟨Nat.zero_le _, rfl⟩ (ent_ren id ⟨rfl, rfl, rfl, rfl, rfl, rfl, trivial⟩ ⟨rfl, rfl, trivial⟩ rfl rfl rfl rfl rfl rfl) ?_
        rintro i ⟨g1, g2⟩
        by_cases hi : i < r.body.length
        · rw [firstL_step hi] at g2
          have w6 := w5 r.body[i]
          generalize litE p.arity r.vars r.body[i] = le at w6 g2
          repeat' (first | (apply ds_evC; exact rfl; (first | (with_reducible exact trivial) | omega); (first | ((with_reducible apply hv_row); (exact rfl); (omega)) | (with_reducible exact rfl)); exact rfl; exact rfl; exact rfl) | apply ds_nil | apply dw_seq2 | (apply ds_region; exact rfl) | apply dw_block | apply dw_skip | apply dw_exit | apply dw_ret | apply thenD_n | apply thenD_e | apply thenD_r | apply inB_n | apply inB_r | (apply inB_e; exact rfl) | (apply ds_call; exact rfl; exact rfl; apply w6; exact rfl; (exact rfl); exact rfl; rintro _ rfl) | (apply ds_newC; exact rfl; (with_reducible exact trivial); exact rfl; exact rfl; exact rfl) | (apply ds_setC; exact rfl; exact rfl; exact rfl; exact rfl) | (apply dw_condP; exact rfl; all_goals intro hg))
          all_goals first
            | (exfalso; omega)
            | (refine ret_i rfl ?_; rw [hfin le (by rw [g2, if_pos (by assumption)]), if_pos (by assumption)]; done)
            | exact ⟨i + 1, ⟨by omega, by rw [g2, if_neg (by assumption)]⟩, ent_ren id ⟨rfl, rfl, rfl, rfl, rfl, rfl, trivial⟩ ⟨rfl, rfl, trivial⟩ rfl rfl rfl rfl rfl rfl, by show r.body.length - (i + 1) < r.body.length - i; omega⟩

        · rw [firstL_end (by omega)] at g2
          have hall := firstL_zero g2
          have w7 := bound_fn r hv'.1 hv'.2 (fun l hl => (litE_ok hv'.1 (hall l hl)).1) (fun l hl => (litE_ok hv'.1 (hall l hl)).2)
          have w8 := containsB_fn false (boundL r)
          rw [any_false] at w8
          rw [hfin 0 g2, if_neg (by decide)]
          unfold safeB
          generalize (boundL r).all id = sb at w8 ⊢
          repeat' (first | (apply ds_evC; exact rfl; (first | (with_reducible exact trivial) | omega); (first | ((with_reducible apply hv_row); (exact rfl); (omega)) | (with_reducible exact rfl)); exact rfl; exact rfl; exact rfl) | apply ds_nil | apply dw_seq2 | (apply ds_region; exact rfl) | apply dw_block | apply dw_skip | apply dw_exit | apply dw_ret | apply thenD_n | apply thenD_e | apply thenD_r | (apply inB_e; exact rfl) | (apply ds_call; exact rfl; exact rfl; apply w7; exact rfl; (exact rfl); exact rfl; rintro _ rfl) | (apply ds_call; exact rfl; exact rfl; apply w8; exact rfl; (exact rfl); exact rfl; rintro _ rfl) | (apply ds_newC; exact rfl; (with_reducible exact trivial); exact rfl; exact rfl; exact rfl) | (apply ds_setC; exact rfl; exact rfl; exact rfl; exact rfl) | (apply dw_condP; exact rfl; all_goals intro hg) | (apply dw_cond; exact rfl; all_goals intro hg))
          all_goals first
            | (exfalso; omega)
            | (refine ret_i rfl ?_; simp_all; done)

    · rw [Bool.not_eq_true] at hv
      rw [hv] at w2 ⊢
      repeat' (first | (apply ds_evC; exact rfl; (first | (with_reducible exact trivial) | omega); (with_reducible exact rfl); exact rfl; exact rfl; exact rfl) | apply ds_nil | (apply dt_ev; exact rfl; exact rfl; (first | (with_reducible exact trivial) | omega); (first | ((with_reducible apply hv_row); (exact (Int.toNat_of_nonneg (by omega)).symm); (omega)) | (with_reducible exact rfl)); exact rfl; exact rfl; exact rfl; exact rfl) | (apply dt_nil0; exact rfl; exact rfl; exact rfl; exact rfl) | apply dw_seq2 | (apply ds_region; exact rfl) | (apply dw_any; kernel_rfl; kernel_rfl; exact rfl; exact rfl) | apply dw_block | apply dw_ret | (apply dw_condT; exact rfl) | (apply dw_condF; exact rfl) | apply thenD_n | apply thenD_r | apply inB_r | (apply ds_call; exact rfl; exact rfl; apply w1; exact rfl; (exact rfl); exact rfl; rintro _ rfl) | (apply ds_call; exact rfl; exact rfl; apply w2; exact rfl; (exact rfl); exact rfl; rintro _ rfl) | (apply ds_newC; exact rfl; (with_reducible exact trivial); exact rfl; exact rfl; exact rfl) | (apply dw_condP; exact rfl; all_goals intro hg))
      all_goals exact ret_i rfl (by simp_all)
  · rw [Bool.not_eq_true] at hp
    rw [hp] at w1 ⊢
    rw [if_pos rfl]
    repeat' (first | (apply ds_evC; exact rfl; (first | (with_reducible exact trivial) | omega); (with_reducible exact rfl); exact rfl; exact rfl; exact rfl) | apply ds_nil | apply dw_seq2 | (apply ds_region; exact rfl) | apply dw_block | apply dw_ret | (apply dw_condT; exact rfl) | apply thenD_n | apply thenD_r | apply inB_r | (apply ds_call; exact rfl; exact rfl; apply w1; exact rfl; (exact rfl); exact rfl; rintro _ rfl) | (apply ds_newC; exact rfl; (with_reducible exact trivial); exact rfl; exact rfl; exact rfl))
    all_goals exact ret_i rfl rfl

set_option maxHeartbeats 8000000 in
theorem check_fn (p : Prg) : Fn 103 [elPrg p] (fun x => x = .d (.int .i64 (progE nameS p))) := by
  refine fnp_enter' _ Try.func103 rfl rfl (by kernel_rfl) ?_
  intro O w0 E0 β0
  have la : (p.arity.map encI).length = p.arity.length := List.length_map _
  have lb : (p.names.map encT).length = p.names.length := List.length_map _
  have lc : (p.rules.map encRul).length = p.rules.length := List.length_map _
  refine dw_lenA 0 0 rfl rfl (fun hk => ?_)
  refine dw_lenA 0 2 rfl rfl (fun hk2 => ?_)
  unfold progE
  by_cases h1 : 10 < p.arity.length ∨ 12 < p.rules.length
  · rw [if_pos h1]
    repeat' (first | (apply ds_evC; exact rfl; (with_reducible exact trivial); (with_reducible exact rfl); exact rfl; exact rfl; exact rfl) | (apply ds_skip; exact rfl; exact rfl) | apply ds_nil | apply dw_seq2 | (apply ds_region; exact rfl) | apply dw_block | apply dw_skip | apply dw_ret | (apply dw_condT; exact rfl) | apply thenD_n | apply thenD_r | apply inB_n | apply inB_r | (apply ds_newC; exact rfl; (with_reducible exact trivial); exact rfl; exact rfl; exact rfl) | (apply dw_condP; exact rfl; all_goals intro hg) | ((fail_if_success (apply ds_known; exact rfl)); apply ds_guardP; exact rfl; exact rfl; exact rfl; all_goals intro hg))
    all_goals first
      | (exfalso; omega)
      | exact ret_i rfl rfl
  · rw [if_neg h1]
    by_cases h2 : p.names.length ≠ p.arity.length
    · rw [if_pos h2]
      repeat' (first | (apply ds_evC; exact rfl; (with_reducible exact trivial); (with_reducible exact rfl); exact rfl; exact rfl; exact rfl) | (apply ds_skip; exact rfl; exact rfl) | apply ds_nil | apply dw_seq2 | (apply ds_region; exact rfl) | apply dw_block | apply dw_skip | apply dw_ret | (apply dw_condT; exact rfl) | apply thenD_n | apply thenD_r | apply inB_n | apply inB_r | (apply ds_newC; exact rfl; (with_reducible exact trivial); exact rfl; exact rfl; exact rfl) | (apply dw_condP; exact rfl; all_goals intro hg) | ((fail_if_success (apply ds_known; exact rfl)); apply ds_guardP; exact rfl; exact rfl; exact rfl; all_goals intro hg))
      all_goals first
        | (exfalso; omega)
        | exact ret_i rfl rfl
    · rw [if_neg h2]
      have w1 := preds_fn p (by omega)
      generalize firstI (nameE nameS p) 0 p.names.length = ne at w1 ⊢
      repeat' (first | (apply ds_evC; exact rfl; (with_reducible exact trivial); (with_reducible exact rfl); exact rfl; exact rfl; exact rfl) | (apply ds_skip; exact rfl; exact rfl) | apply ds_nil | apply dw_seq2 | (apply ds_region; exact rfl) | apply dw_block | apply dw_skip | apply dw_ret | (apply dw_condT; exact rfl) | apply thenD_n | apply thenD_r | apply inB_n | apply inB_r | (apply ds_call; exact rfl; exact rfl; apply w1; exact rfl; (exact rfl); exact rfl; rintro _ rfl) | (apply ds_newC; exact rfl; (with_reducible exact trivial); exact rfl; exact rfl; exact rfl) | (apply dw_condP; exact rfl; all_goals intro hg) | ((fail_if_success (apply ds_known; exact rfl)); apply ds_guardP; exact rfl; exact rfl; exact rfl; all_goals intro hg))
      all_goals try (exfalso; omega)
      · exact ret_i rfl (by rw [if_pos hg])
      rw [if_neg hg]
      refine ds_loop (ι := Nat) (fun i => ⟨1, [(1, .loc 0 0), (2, .d (.int .i64 0)), (32, .d (.slice 5 (p.rules.map encRul))), (33, .d (.int .i64 (p.rules.map encRul).length)), (34, .d (.int .i64 i))], [(0, prgB p)]⟩)
        (fun i => i ≤ p.rules.length ∧ firstL (ruleE p.arity) p.rules = firstL (ruleE p.arity) (p.rules.drop i)) (fun i => p.rules.length - i) 0 ⟨Nat.zero_le _, rfl⟩ (ent_ren id ⟨rfl, rfl, rfl, rfl, rfl, trivial⟩ ⟨rfl, trivial⟩ rfl rfl rfl rfl rfl rfl) ?_
      rintro i ⟨g1, g2⟩
      by_cases hi : i < p.rules.length
      · rw [firstL_step hi] at g2
        have w6 := rule_fn p p.rules[i]
        generalize ruleE p.arity p.rules[i] = le at w6 g2
        repeat' (first | (apply ds_evC; exact rfl; (first | (with_reducible exact trivial) | omega); (first | ((with_reducible apply hv_row); (exact rfl); (omega)) | (with_reducible exact rfl)); exact rfl; exact rfl; exact rfl) | apply ds_nil | apply dw_seq2 | (apply ds_region; exact rfl) | apply dw_block | apply dw_skip | apply dw_exit | apply dw_ret | apply thenD_n | apply thenD_e | apply thenD_r | apply inB_n | apply inB_r | (apply inB_e; exact rfl) | (apply ds_call; exact rfl; exact rfl; apply w6; exact rfl; (exact rfl); exact rfl; rintro _ rfl) | (apply ds_newC; exact rfl; (with_reducible exact trivial); exact rfl; exact rfl; exact rfl) | (apply ds_setC; exact rfl; exact rfl; exact rfl; exact rfl) | (apply dw_condP; exact rfl; all_goals intro hg))
        all_goals first
          | (exfalso; omega)
          | (refine ret_i rfl ?_; rw [g2, if_pos (by assumption)]; done)
          | exact ⟨i + 1, ⟨by omega, by rw [g2, if_neg (by assumption)]⟩, ent_ren id ⟨rfl, rfl, rfl, rfl, rfl, trivial⟩ ⟨rfl, trivial⟩ rfl rfl rfl rfl rfl rfl, by show p.rules.length - (i + 1) < p.rules.length - i; omega⟩

      · rw [firstL_end (by omega)] at g2
        repeat' (first | (apply ds_evC; exact rfl; (first | (with_reducible exact trivial) | omega); (first | ((with_reducible apply hv_row); (exact rfl); (omega)) | (with_reducible exact rfl)); exact rfl; exact rfl; exact rfl) | apply ds_nil | apply dw_seq2 | (apply ds_region; exact rfl) | apply dw_block | apply dw_skip | apply dw_exit | apply dw_ret | apply thenD_n | apply thenD_e | (apply inB_e; exact rfl) | (apply ds_newC; exact rfl; (with_reducible exact trivial); exact rfl; exact rfl; exact rfl) | (apply ds_setC; exact rfl; exact rfl; exact rfl; exact rfl) | (apply dw_condP; exact rfl; all_goals intro hg))
        all_goals first
          | (exfalso; omega)
          | exact ret_i rfl g2.symm

end Go.Proofs.Ytapciiffpnociaa

/- The document's small words on programs; its IsSafe. Condition: none. -/
namespace Go.Proofs.Ytapciiffpnociaa
open Go Go.RowKit
attribute [local irreducible] DW DS DL DQ Ev FnOk FnP thenD inBlockD DT

theorem sbetween_fn (n a b : Int) : Fn 84 [.d (.int .i64 n), .d (.int .i64 a), .d (.int .i64 b)] (fun r => r = .d (.bool (inR n a b))) := between_fn n a b
set_option maxHeartbeats 8000000 in
theorem sisNumber_fn (n : Int) : Fn 85 [.d (.int .i64 n)] (fun r => r = .d (.bool (numB n))) := by
  refine fnp_enter' _ Try.func85 rfl rfl (by kernel_rfl) ?_
  intro O w0 E0 β0
  unfold numB
  repeat' (first | (apply ds_evC; exact rfl; (with_reducible exact trivial); (with_reducible exact rfl); exact rfl; exact rfl; exact rfl) | apply ds_nil | apply dw_seq2 | (apply ds_region; exact rfl) | apply dw_ret | apply thenD_n | (apply ds_call; exact rfl; exact rfl; apply sbetween_fn; exact rfl; (exact rfl); exact rfl; rintro _ rfl))
  exact ret_b rfl rfl

set_option maxHeartbeats 8000000 in
theorem rterms_fn (l : List Trm) (vars : Int) (h0 : 0 ≤ vars) (h8 : vars ≤ 8) : Fn 166 [.d (.slice 2 (l.map encTrm)), .d (.int .i64 vars)] (fun r => r = .d (.int .i64 (termsE vars l))) := by
  refine fnp_enter' _ Try.func166 rfl rfl (by kernel_rfl) ?_
  intro O w0 E0 β0
  have la : (l.map encTrm).length = l.length := List.length_map _
  unfold termsE
  refine dw_len (t := 0) rfl (fun hk => ?_)
  repeat' (first | (apply ds_evC; exact rfl; (with_reducible exact trivial); (with_reducible exact rfl); exact rfl; exact rfl; exact rfl) | apply ds_nil | apply dw_seq2 | (apply ds_region; exact rfl) | apply dw_block | apply thenD_n)
  refine ds_loop (ι := Nat) (fun i => ⟨0, [(0, .d (.slice 2 (l.map encTrm))), (1, .d (.int .i64 vars)), (4, .d (.int .i64 0)), (5, .d (.int .i64 i))], []⟩)
    (fun i => i ≤ l.length ∧ firstL (termE vars) l = firstL (termE vars) (l.drop i)) (fun i => l.length - i) 0 ⟨Nat.zero_le _, rfl⟩ (ent_ren id ⟨rfl, rfl, rfl, rfl, trivial⟩ trivial rfl rfl rfl rfl rfl rfl) ?_
  rintro i ⟨g1, g2⟩
  by_cases hi : i < l.length
  · rw [firstL_step hi, show termE vars l[i] = if inR l[i].var (-1) (vars - 1) = false then 5 else if numB l[i].n = false ∨ (0 ≤ l[i].var ∧ l[i].n ≠ 0) then 3 else 0 from rfl] at g2
    repeat' (first | (apply ds_evC; exact rfl; (first | (with_reducible exact trivial) | omega); (first | ((with_reducible apply hv_row); (exact rfl); (omega)) | (with_reducible exact rfl)); exact rfl; exact rfl; exact rfl) | (apply ds_skip; exact rfl; exact rfl) | apply ds_nil | apply dw_seq2 | (apply ds_region; exact rfl) | apply dw_block | apply dw_skip | apply dw_exit | apply dw_ret | (apply dw_condT; exact rfl) | (apply dw_condF; exact rfl) | apply thenD_n | apply thenD_e | apply thenD_r | apply inB_n | apply inB_r | (apply inB_e; exact rfl) | (apply ds_call; exact rfl; exact rfl; apply sbetween_fn; exact rfl; (exact rfl); exact rfl; rintro _ rfl) | (apply ds_call; exact rfl; exact rfl; apply sisNumber_fn; exact rfl; (exact rfl); exact rfl; rintro _ rfl) | (apply dw_condP; exact rfl; all_goals intro hg) | (apply dw_cond; exact rfl; all_goals intro hg) | ((fail_if_success (apply ds_known; exact rfl)); apply ds_guardP; exact rfl; exact rfl; exact rfl; all_goals intro hg) | ((fail_if_success (apply ds_known; exact rfl)); apply ds_guardB; exact rfl; exact rfl; exact rfl; all_goals intro hg))
    all_goals first
      | exact absurd hg (by omega)
      | exact ret_i rfl (by rw [g2]; simp_all <;> omega)
      | exact ⟨i + 1, ⟨by omega, by rw [g2]; simp_all <;> omega⟩, ent_ren id ⟨rfl, rfl, rfl, rfl, trivial⟩ trivial rfl rfl rfl rfl rfl rfl, by show l.length - (i + 1) < l.length - i; omega⟩
  · rw [firstL_end (by omega)] at g2
    repeat' (first | (apply ds_evC; exact rfl; (first | (with_reducible exact trivial) | omega); (first | ((with_reducible apply hv_row); (exact rfl); (omega)) | (with_reducible exact rfl)); exact rfl; exact rfl; exact rfl) | (apply ds_skip; exact rfl; exact rfl) | apply ds_nil | apply dw_seq2 | (apply ds_region; exact rfl) | apply dw_block | apply dw_skip | apply dw_exit | apply dw_ret | (apply dw_condT; exact rfl) | (apply dw_condF; exact rfl) | apply thenD_n | apply thenD_e | apply thenD_r | apply inB_n | apply inB_r | (apply inB_e; exact rfl) | (apply ds_call; exact rfl; exact rfl; apply sbetween_fn; exact rfl; (exact rfl); exact rfl; rintro _ rfl) | (apply ds_call; exact rfl; exact rfl; apply sisNumber_fn; exact rfl; (exact rfl); exact rfl; rintro _ rfl) | (apply dw_condP; exact rfl; all_goals intro hg) | (apply dw_cond; exact rfl; all_goals intro hg) | ((fail_if_success (apply ds_known; exact rfl)); apply ds_guardP; exact rfl; exact rfl; exact rfl; all_goals intro hg) | ((fail_if_success (apply ds_known; exact rfl)); apply ds_guardB; exact rfl; exact rfl; exact rfl; all_goals intro hg))
    all_goals first
      | exact absurd hg (by omega)
      | exact ret_i rfl g2.symm

set_option maxHeartbeats 8000000 in
theorem isWord_fn (s : ByteArray) : Fn 165 [.d (.str s)] (fun r => r = .d (.bool (wordB s))) := by
  refine fnp_enter' _ Try.func165 rfl rfl (by kernel_rfl) ?_
  intro O w0 E0 β0
  unfold wordB wordsL
  repeat' (first | (apply ds_evC; exact rfl; (with_reducible exact trivial); (with_reducible exact rfl); exact rfl; exact rfl; exact rfl) | (apply ds_skip; exact rfl; exact rfl) | apply ds_nil | apply dw_seq2 | (apply ds_region; exact rfl) | apply dw_ret | apply thenD_n | ((fail_if_success (apply ds_known; exact rfl)); apply ds_guardP; exact rfl; exact rfl; exact rfl; all_goals intro hg))
  all_goals exact ret_b rfl (by simp_all [eqS])
def nameR (s : ByteArray) : Bool := isTok 1 s && !wordB s
set_option maxHeartbeats 8000000 in
theorem isName_fn (s : ByteArray) : Fn 110 [.d (.str s)] (fun r => r = .d (.bool (nameR s))) := by
  refine fnp_enter' _ Try.func110 rfl rfl (by kernel_rfl) ?_
  intro O w0 E0 β0
  unfold nameR
  repeat' (first | (apply ds_evC; exact rfl; (with_reducible exact trivial); (with_reducible exact rfl); exact rfl; exact rfl; exact rfl) | (apply ds_skip; exact rfl; exact rfl) | apply ds_nil | apply dw_seq2 | (apply ds_region; exact rfl) | apply dw_ret | apply thenD_n | (apply ds_call; exact rfl; exact rfl; apply isToken_fn; exact rfl; (exact rfl); exact rfl; rintro _ rfl) | (apply ds_call; exact rfl; exact rfl; apply isWord_fn; exact rfl; (exact rfl); exact rfl; rintro _ rfl) | ((fail_if_success (apply ds_known; exact rfl)); apply ds_guardB; exact rfl; exact rfl; exact rfl; all_goals intro hg))
  all_goals exact ret_b rfl (by simp_all)

/-- The first term that a literal binds. -/
def firstOf (bs : List Bool) (l : Ltl) : Nat := if l.kind = 4 then (if firesB bs l then 2 else 3) else 0
theorem bLit_first {bs : List Bool} {l : Ltl} (h3 : l.kind = 4 → l.terms.length = 3) : bLit bs l = if l.kind = 1 ∨ l.kind = 4 then (l.terms.drop (firstOf bs l)).foldl setT bs else bs := by
  unfold bLit firstOf litTs
  by_cases k1 : l.kind = 1
  · have hf : firesB bs l = true := by unfold firesB; rw [decide_eq_true k1]; rfl
    simp [hf, k1]
  · by_cases k4 : l.kind = 4
    · cases hf : firesB bs l with
      | true => simp [k4]
      | false =>
        have hd : l.terms.drop 3 = [] := List.drop_of_length_le (by have := h3 k4; omega)
        simp [k4, hd]
    · have hf : firesB bs l = false := by unfold firesB; rw [decide_eq_false k1, decide_eq_false k4]; rfl
      simp [hf, k1, k4]

abbrev litB (l : Ltl) : HB := .blk 147 [.d (.int .i64 l.kind), .d (.int .i64 l.op), .d (.int .i64 l.pred), .d (.slice 2 (l.terms.map encTrm))]
set_option maxHeartbeats 8000000 in
theorem safe_fn (r : Rul) (hb4 : r.body.length ≤ 4) (h0 : 0 ≤ r.vars) (h8 : r.vars ≤ 8) (hok : ∀ l ∈ r.body, ∀ t ∈ l.terms, okT r.vars.toNat t) (h3 : ∀ l ∈ r.body, l.kind = 4 → l.terms.length = 3) :
    Fn 167 [elRul r] (fun x => x = .d (.bool (safeB r))) := by
  refine fnp_enter' _ Try.func167 rfl rfl (by kernel_rfl) ?_
  intro O w0 E0 β0
  have lb : (r.body.map encLtl).length = r.body.length := List.length_map _
  refine dw_lenA 0 3 rfl rfl (fun hk => ?_)
  repeat' (first | (apply ds_evC; exact rfl; (with_reducible exact trivial); (with_reducible exact rfl); exact rfl; exact rfl; exact rfl) | apply ds_nil | apply dw_seq2 | (apply ds_region; exact rfl) | apply thenD_n | (apply ds_newC; exact rfl; (with_reducible exact trivial); exact rfl; exact rfl; exact rfl))
  refine ds_mk ((List.replicate r.vars.toNat false).map encBl) rfl rfl (Int.toNat_of_nonneg h0).symm rfl rfl rfl rfl rfl rfl (by show 1 * _ ≤ _; omega) (by unfold maxLen; omega) (by rw [List.map_replicate]; rfl) rfl rfl ?_
  repeat' (first | (apply ds_evC; exact rfl; (with_reducible exact trivial); (with_reducible exact rfl); exact rfl; exact rfl; exact rfl) | apply ds_nil | apply dw_seq2 | (apply ds_region; exact rfl) | apply dw_block | apply thenD_n)
  refine ds_loop (ι := Nat × List Bool) (fun x => ⟨2, [(1, .loc 0 0), (2, .d (.bool false)), (3, .row 1), (4, .d (.int .i64 x.1))], [(0, ruleB r), (1, .row 4 1 (x.2.map encBl))]⟩)
    (fun x => x.1 ≤ r.body.length + 1 ∧ x.2 = bIter r.body x.1 (List.replicate r.vars.toNat false)) (fun x => r.body.length + 1 - x.1)
    (0, List.replicate r.vars.toNat false) ⟨Nat.zero_le _, rfl⟩ (ent_ren id ⟨rfl, rfl, rfl, rfl, trivial⟩ ⟨rfl, rfl, trivial⟩ rfl rfl rfl rfl rfl rfl) ?_
  rintro ⟨n, b0⟩ ⟨g1, g2⟩
  dsimp only at g1 g2 ⊢
  have hlen : b0.length = r.vars.toNat := by rw [g2, bIter_len, List.length_replicate]
  by_cases hn : n < r.body.length + 1
  · repeat' (first | (apply ds_evC; exact rfl; (with_reducible exact trivial); (with_reducible exact rfl); exact rfl; exact rfl; exact rfl) | apply ds_nil | apply dw_seq2 | (apply ds_region; exact rfl) | apply dw_block | apply dw_skip | apply dw_exit | apply thenD_n | apply thenD_e | (apply inB_e; exact rfl) | (apply dw_condP; exact rfl; all_goals intro hg))
    all_goals try (exfalso; omega)
    refine ds_loop (ι := Nat × List Bool) (fun x => ⟨2, [(1, .loc 0 0), (2, .d (.bool false)), (3, .row 1), (4, .d (.int .i64 n)), (5, .d (.int .i64 x.1))], [(0, ruleB r), (1, .row 4 1 (x.2.map encBl))]⟩)
      (fun x => x.1 ≤ r.body.length ∧ x.2 = (r.body.take x.1).foldl bLit b0) (fun x => r.body.length - x.1)
      (0, b0) ⟨Nat.zero_le _, rfl⟩ (ent_ren id ⟨rfl, rfl, rfl, rfl, rfl, trivial⟩ ⟨rfl, rfl, trivial⟩ rfl rfl rfl rfl rfl rfl) ?_
    rintro ⟨i, bs⟩ ⟨f1, f2⟩
    dsimp only at f1 f2 ⊢
    have hbl : bs.length = r.vars.toNat := by rw [f2, bLits_len, hlen]
    by_cases hi : i < r.body.length
    · have hlok := hok r.body[i] (List.getElem_mem hi)
      have h3' := h3 r.body[i] (List.getElem_mem hi)
      have hf : bLit bs r.body[i] = (r.body.take (i + 1)).foldl bLit b0 := by rw [foldl_take bLit b0 hi, ← f2]
      rw [bLit_first h3'] at hf
      repeat' ((fail_if_success (apply dw_stopR 10)); (first | (apply ds_evC; exact rfl; (first | (with_reducible exact trivial) | omega); (first | ((with_reducible apply hv_row); (exact rfl); (omega)) | (with_reducible exact rfl)); exact rfl; exact rfl; exact rfl) | apply ds_nil | apply dw_seq2 | (apply ds_region; exact rfl) | apply dw_block | apply dw_skip | apply dw_exit | apply thenD_n | apply thenD_e | apply inB_n | (apply inB_e; exact rfl) | (apply ds_newC; exact rfl; (with_reducible exact trivial); exact rfl; exact rfl; exact rfl) | (apply ds_setC; exact rfl; exact rfl; exact rfl; exact rfl) | (apply dw_condP; exact rfl; all_goals intro hg)))
      all_goals try (exfalso; omega)
      generalize r.body[i] = l at hlok h3' hf ⊢
      have ll : (l.terms.map encTrm).length = l.terms.length := List.length_map _
      have lbs : (bs.map encBl).length = bs.length := List.length_map _
      refine dw_cut (ι := Unit) (fun _ => ⟨3, [(1, .loc 0 0), (2, .d (.bool false)), (3, .row 1), (4, .d (.int .i64 n)), (5, .d (.int .i64 i)), (6, .loc 2 0), (7, .d (.int .i64 (firstOf bs l)))], [(0, ruleB r), (1, .row 4 1 (bs.map encBl)), (2, litB l)]⟩) (fun _ => True) ?_ ?_
      · by_cases k4 : l.kind = 4
        · have h3l := h3' k4
          have hf4 := fires4 (bs := bs) (by omega) k4 h3l
          have hlok' : ∀ t ∈ l.terms, okT bs.length t := by rw [hbl]; exact hlok
          repeat' (first | (apply ds_evC; exact rfl; (with_reducible exact trivial); (with_reducible exact rfl); exact rfl; exact rfl; exact rfl) | apply ds_nil | apply dw_seq2 | (apply ds_region; exact rfl) | apply dw_block | apply dw_skip | apply thenD_n | (apply dw_condP; exact rfl; all_goals intro hg))
          all_goals try (exfalso; omega)
          refine ds_loop (ι := Nat × Int) (fun x => ⟨3, [(1, .loc 0 0), (2, .d (.bool false)), (3, .row 1), (4, .d (.int .i64 n)), (5, .d (.int .i64 i)), (6, .loc 2 0), (7, .d (.int .i64 x.2)), (8, .d (.int .i64 x.1))], [(0, ruleB r), (1, .row 4 1 (bs.map encBl)), (2, litB l)]⟩)
            (fun x => x.1 ≤ 2 ∧ x.2 = if (l.terms.take x.1).all (isT bs) then 2 else 3) (fun x => 2 - x.1)
            (0, 2) ⟨Nat.zero_le _, rfl⟩ (ent_ren id ⟨rfl, rfl, rfl, rfl, rfl, rfl, rfl, rfl, trivial⟩ ⟨rfl, rfl, rfl, trivial⟩ rfl rfl rfl rfl rfl rfl) ?_
          rintro ⟨j, f⟩ ⟨e1, e2⟩
          dsimp only at e1 e2 ⊢
          by_cases hj : j < 2
          · have hq := hlok' (l.terms[j]'(by omega)) (List.getElem_mem _)
            have e3 : (l.terms.take (j + 1)).all (isT bs) = ((l.terms.take j).all (isT bs) && isT bs (l.terms[j]'(by omega))) := by
              rw [List.take_succ_eq_append_getElem (by omega), List.all_append]
              simp
            by_cases hneg : (l.terms[j]'(by omega)).var < 0
            · rw [isT_pos hneg, Bool.and_true] at e3
              repeat' (first | (apply ds_evC; exact rfl; (first | (with_reducible exact trivial) | omega); (first | ((with_reducible apply hv_prow); (exact (Int.toNat_of_nonneg (by omega)).symm)) | ((with_reducible apply hv_ldrow); (apply hv_get; (omega)); exact rfl) | ((with_reducible apply hv_row); (exact rfl); (omega)) | (with_reducible exact rfl)); exact rfl; exact rfl; exact rfl) | (apply ds_skip; exact rfl; exact rfl) | apply ds_nil | apply dw_seq2 | (apply ds_region; exact rfl) | apply dw_block | apply dw_skip | apply dw_exit | (apply dw_condF; exact rfl) | apply thenD_n | apply thenD_e | apply inB_n | (apply inB_e; exact rfl) | (apply dw_condP; exact rfl; all_goals intro hg) | (apply dw_cond; exact rfl; all_goals intro hg) | ((fail_if_success (apply ds_known; exact rfl)); apply ds_guardP; exact rfl; exact rfl; exact rfl; all_goals intro hg))
              all_goals try (exfalso; omega)
              all_goals exact ⟨(j + 1, f), ⟨by omega, by dsimp only; rw [e3, e2]⟩, ent_ren id ⟨rfl, rfl, rfl, rfl, rfl, rfl, rfl, rfl, trivial⟩ ⟨rfl, rfl, rfl, trivial⟩ rfl rfl rfl rfl rfl rfl, by show 2 - (j + 1) < 2 - j; omega⟩
            · rw [isT_neg hneg hq] at e3
              unfold okT at hq
              repeat' (first | (apply ds_evC; exact rfl; (first | (with_reducible exact trivial) | omega); (first | ((with_reducible apply hv_prow); (exact (Int.toNat_of_nonneg (by omega)).symm)) | ((with_reducible apply hv_ldrow); (apply hv_get; (omega)); exact rfl) | ((with_reducible apply hv_row); (exact rfl); (omega)) | (with_reducible exact rfl)); exact rfl; exact rfl; exact rfl) | (apply ds_skip; exact rfl; exact rfl) | apply ds_nil | apply dw_seq2 | (apply ds_region; exact rfl) | apply dw_block | apply dw_skip | apply dw_exit | (apply dw_condF; exact rfl) | apply thenD_n | apply thenD_e | apply inB_n | (apply inB_e; exact rfl) | (apply dw_condP; exact rfl; all_goals intro hg) | (apply dw_cond; exact rfl; all_goals intro hg) | ((fail_if_success (apply ds_known; exact rfl)); apply ds_guardP; exact rfl; exact rfl; exact rfl; all_goals intro hg))
              all_goals try (exfalso; omega)
              · have hb : bs[(l.terms[j]'(by omega)).var.toNat]'(by omega) = false := by simpa using hg
                exact ⟨(j + 1, 3), ⟨by omega, by dsimp only; rw [e3, hb, Bool.and_false]; rfl⟩, ent_ren id ⟨rfl, rfl, rfl, rfl, rfl, rfl, rfl, rfl, trivial⟩ ⟨rfl, rfl, rfl, trivial⟩ rfl rfl rfl rfl rfl rfl, by show 2 - (j + 1) < 2 - j; omega⟩
              · have hb : bs[(l.terms[j]'(by omega)).var.toNat]'(by omega) = true := by simpa using hg
                exact ⟨(j + 1, f), ⟨by omega, by dsimp only; rw [e3, hb, Bool.and_true, e2]⟩, ent_ren id ⟨rfl, rfl, rfl, rfl, rfl, rfl, rfl, rfl, trivial⟩ ⟨rfl, rfl, rfl, trivial⟩ rfl rfl rfl rfl rfl rfl, by show 2 - (j + 1) < 2 - j; omega⟩
          · repeat' (first | (apply ds_evC; exact rfl; (first | (with_reducible exact trivial) | omega); (first | ((with_reducible apply hv_prow); (exact (Int.toNat_of_nonneg (by omega)).symm)) | ((with_reducible apply hv_ldrow); (apply hv_get; (omega)); exact rfl) | ((with_reducible apply hv_row); (exact rfl); (omega)) | (with_reducible exact rfl)); exact rfl; exact rfl; exact rfl) | (apply ds_skip; exact rfl; exact rfl) | apply ds_nil | apply dw_seq2 | (apply ds_region; exact rfl) | apply dw_block | apply dw_skip | apply dw_exit | (apply dw_condF; exact rfl) | apply thenD_n | apply thenD_e | apply inB_n | (apply inB_e; exact rfl) | (apply dw_condP; exact rfl; all_goals intro hg) | (apply dw_cond; exact rfl; all_goals intro hg) | ((fail_if_success (apply ds_known; exact rfl)); apply ds_guardP; exact rfl; exact rfl; exact rfl; all_goals intro hg))
            all_goals try (exfalso; omega)
            refine ⟨(), trivial, ?_⟩
            have hff : f = (firstOf bs l : Int) := by
              unfold firstOf
              rw [if_pos k4, e2, show j = 2 by omega]
              have : firesB bs l = (l.terms.take 2).all (isT bs) := by unfold firesB; rw [decide_eq_false (by omega), decide_eq_true k4]; simp
              rw [this]
              split <;> rfl
            rw [hff]
            exact ent_ren id ⟨rfl, rfl, rfl, rfl, rfl, rfl, rfl, trivial⟩ ⟨rfl, rfl, rfl, trivial⟩ rfl rfl rfl rfl rfl rfl
        · repeat' (first | (apply ds_evC; exact rfl; (with_reducible exact trivial); (with_reducible exact rfl); exact rfl; exact rfl; exact rfl) | apply ds_nil | apply dw_seq2 | (apply ds_region; exact rfl) | apply dw_block | apply dw_skip | apply thenD_n | (apply dw_condP; exact rfl; all_goals intro hg))
          all_goals try (exfalso; omega)
          refine ⟨(), trivial, ?_⟩
          unfold firstOf
          rw [if_neg k4]
          exact ent_ren id ⟨rfl, rfl, rfl, rfl, rfl, rfl, rfl, trivial⟩ ⟨rfl, rfl, rfl, trivial⟩ rfl rfl rfl rfl rfl rfl
      · intro _ _
        have hfl : firstOf bs l ≤ 3 := by unfold firstOf; split <;> (try split) <;> omega
        refine dw_lenC 2 3 rfl rfl (fun hkl => ?_)
        repeat' (first | (apply ds_evC; exact rfl; (with_reducible exact trivial); (with_reducible exact rfl); exact rfl; exact rfl; exact rfl) | apply ds_nil | apply dw_seq2 | (apply ds_region; exact rfl) | apply dw_block | apply thenD_n)
        by_cases hk14 : l.kind = 1 ∨ l.kind = 4
        · rw [if_pos hk14] at hf
          have hlok' : ∀ t ∈ l.terms, okT bs.length t := by rw [hbl]; exact hlok
          refine ds_loop (ι := Nat × List Bool) (fun x => ⟨3, [(1, .loc 0 0), (2, .d (.bool false)), (3, .row 1), (4, .d (.int .i64 n)), (5, .d (.int .i64 i)), (6, .loc 2 0), (9, .d (.int .i64 x.1))], [(0, ruleB r), (1, .row 4 1 (x.2.map encBl)), (2, litB l)]⟩)
            (fun x => x.2.length = bs.length ∧ (l.terms.drop x.1).foldl setT x.2 = (l.terms.drop (firstOf bs l)).foldl setT bs ∧ x.1 ≤ l.terms.length + 3) (fun x => l.terms.length + 3 - x.1)
            (firstOf bs l, bs) ⟨rfl, rfl, by dsimp only; omega⟩ (ent_ren id ⟨rfl, rfl, rfl, rfl, rfl, rfl, rfl, trivial⟩ ⟨rfl, rfl, rfl, trivial⟩ rfl rfl rfl rfl rfl rfl) ?_
          rintro ⟨j, bj⟩ ⟨e1, e2, e3⟩
          dsimp only at e1 e2 e3 ⊢
          have lbj : (bj.map encBl).length = bj.length := List.length_map _
          by_cases hj : j < l.terms.length
          · have hq := hlok' l.terms[j] (List.getElem_mem hj)
            rw [← e1] at hq
            rw [List.drop_eq_getElem_cons hj, List.foldl_cons] at e2
            by_cases hneg : l.terms[j].var < 0
            · have hst : setT bj l.terms[j] = bj := by unfold setT; rw [if_pos hneg]
              rw [hst] at e2
              repeat' (first | (apply ds_evC; exact rfl; (first | (with_reducible exact trivial) | omega); (first | ((with_reducible apply hv_prow); (exact (Int.toNat_of_nonneg (by omega)).symm)) | ((with_reducible apply hv_row); (exact rfl); (omega)) | (with_reducible exact rfl)); exact rfl; exact rfl; exact rfl) | (apply ds_skip; exact rfl; exact rfl) | apply ds_nil | (apply ds_stP; exact rfl; exact rfl; (apply hv_get; (omega)); exact rfl; exact rfl; (exact hv_set rfl); exact rfl; exact rfl; exact rfl; exact rfl; exact rfl; exact rfl) | apply dw_seq2 | (apply ds_region; exact rfl) | apply dw_block | apply dw_skip | apply dw_exit | (apply dw_condT; exact rfl) | (apply dw_condF; exact rfl) | apply thenD_n | apply thenD_e | apply inB_n | (apply inB_e; exact rfl) | (apply dw_condP; exact rfl; all_goals intro hg) | ((fail_if_success (apply ds_known; exact rfl)); apply ds_guardP; exact rfl; exact rfl; exact rfl; all_goals intro hg))
              all_goals try (exfalso; omega)
              all_goals exact ⟨(j + 1, bj), ⟨e1, e2, by dsimp only; omega⟩, ent_ren id ⟨rfl, rfl, rfl, rfl, rfl, rfl, rfl, trivial⟩ ⟨rfl, rfl, rfl, trivial⟩ rfl rfl rfl rfl rfl rfl, by show l.terms.length + 3 - (j + 1) < l.terms.length + 3 - j; omega⟩
            · have hst : setT bj l.terms[j] = bj.set l.terms[j].var.toNat true := by unfold setT; rw [if_neg hneg]
              rw [hst] at e2
              unfold okT at hq
              repeat' (first | (apply ds_evC; exact rfl; (first | (with_reducible exact trivial) | omega); (first | ((with_reducible apply hv_prow); (exact (Int.toNat_of_nonneg (by omega)).symm)) | ((with_reducible apply hv_row); (exact rfl); (omega)) | (with_reducible exact rfl)); exact rfl; exact rfl; exact rfl) | (apply ds_skip; exact rfl; exact rfl) | apply ds_nil | (apply ds_stP; exact rfl; exact rfl; (apply hv_get; (omega)); exact rfl; exact rfl; (exact hv_set rfl); exact rfl; exact rfl; exact rfl; exact rfl; exact rfl; exact rfl) | apply dw_seq2 | (apply ds_region; exact rfl) | apply dw_block | apply dw_skip | apply dw_exit | (apply dw_condT; exact rfl) | (apply dw_condF; exact rfl) | apply thenD_n | apply thenD_e | apply inB_n | (apply inB_e; exact rfl) | (apply dw_condP; exact rfl; all_goals intro hg) | ((fail_if_success (apply ds_known; exact rfl)); apply ds_guardP; exact rfl; exact rfl; exact rfl; all_goals intro hg))
              all_goals try (exfalso; omega)
              all_goals exact ⟨(j + 1, bj.set l.terms[j].var.toNat true), ⟨by dsimp only; rw [List.length_set]; exact e1, e2, by dsimp only; omega⟩, ent_ren id ⟨rfl, rfl, rfl, rfl, rfl, rfl, rfl, trivial⟩ ⟨rfl, rfl, rfl, trivial⟩ rfl rfl rfl rfl rfl rfl, by show l.terms.length + 3 - (j + 1) < l.terms.length + 3 - j; omega⟩
          · rw [List.drop_of_length_le (by omega)] at e2
            have e2 : bj = (l.terms.drop (firstOf bs l)).foldl setT bs := e2
            repeat' (first | (apply ds_evC; exact rfl; (first | (with_reducible exact trivial) | omega); (first | ((with_reducible apply hv_prow); (exact (Int.toNat_of_nonneg (by omega)).symm)) | ((with_reducible apply hv_row); (exact rfl); (omega)) | (with_reducible exact rfl)); exact rfl; exact rfl; exact rfl) | (apply ds_skip; exact rfl; exact rfl) | apply ds_nil | (apply ds_stP; exact rfl; exact rfl; (apply hv_get; (omega)); exact rfl; exact rfl; (exact hv_set rfl); exact rfl; exact rfl; exact rfl; exact rfl; exact rfl; exact rfl) | apply dw_seq2 | (apply ds_region; exact rfl) | apply dw_block | apply dw_skip | apply dw_exit | (apply dw_condT; exact rfl) | (apply dw_condF; exact rfl) | apply thenD_n | apply thenD_e | apply inB_n | (apply inB_e; exact rfl) | (apply dw_condP; exact rfl; all_goals intro hg) | ((fail_if_success (apply ds_known; exact rfl)); apply ds_guardP; exact rfl; exact rfl; exact rfl; all_goals intro hg))
            all_goals try (exfalso; omega)
            all_goals exact ⟨(i + 1, bj), ⟨by omega, by dsimp only; rw [e2, hf]⟩, ent_ren id ⟨rfl, rfl, rfl, rfl, rfl, trivial⟩ ⟨rfl, rfl, trivial⟩ rfl rfl rfl rfl rfl rfl, by show r.body.length - (i + 1) < r.body.length - i; omega⟩
        · rw [if_neg hk14] at hf
          refine ds_loop (ι := Unit) (fun _ => ⟨3, [(1, .loc 0 0), (2, .d (.bool false)), (3, .row 1), (4, .d (.int .i64 n)), (5, .d (.int .i64 i)), (6, .loc 2 0), (9, .d (.int .i64 (firstOf bs l)))], [(0, ruleB r), (1, .row 4 1 (bs.map encBl)), (2, litB l)]⟩)
            (fun _ => True) (fun _ => 0) () trivial (ent_ren id ⟨rfl, rfl, rfl, rfl, rfl, rfl, rfl, trivial⟩ ⟨rfl, rfl, rfl, trivial⟩ rfl rfl rfl rfl rfl rfl) ?_
          intro _ _
          repeat' (first | (apply ds_evC; exact rfl; (first | (with_reducible exact trivial) | omega); (first | ((with_reducible apply hv_prow); (exact (Int.toNat_of_nonneg (by omega)).symm)) | ((with_reducible apply hv_row); (exact rfl); (omega)) | (with_reducible exact rfl)); exact rfl; exact rfl; exact rfl) | (apply ds_skip; exact rfl; exact rfl) | apply ds_nil | (apply ds_stP; exact rfl; exact rfl; (apply hv_get; (omega)); exact rfl; exact rfl; (exact hv_set rfl); exact rfl; exact rfl; exact rfl; exact rfl; exact rfl; exact rfl) | apply dw_seq2 | (apply ds_region; exact rfl) | apply dw_block | apply dw_skip | apply dw_exit | (apply dw_condT; exact rfl) | (apply dw_condF; exact rfl) | apply thenD_n | apply thenD_e | apply inB_n | (apply inB_e; exact rfl) | (apply dw_condP; exact rfl; all_goals intro hg) | ((fail_if_success (apply ds_known; exact rfl)); apply ds_guardP; exact rfl; exact rfl; exact rfl; all_goals intro hg))
          all_goals try (exfalso; omega)
          all_goals exact ⟨(i + 1, bs), ⟨by omega, by rw [hf]⟩, ent_ren id ⟨rfl, rfl, rfl, rfl, rfl, trivial⟩ ⟨rfl, rfl, trivial⟩ rfl rfl rfl rfl rfl rfl, by show r.body.length - (i + 1) < r.body.length - i; omega⟩
    · repeat' (first | (apply ds_evC; exact rfl; (first | (with_reducible exact trivial) | omega); (first | ((with_reducible apply hv_row); (exact rfl); (omega)) | (with_reducible exact rfl)); exact rfl; exact rfl; exact rfl) | apply ds_nil | apply dw_seq2 | (apply ds_region; exact rfl) | apply dw_block | apply dw_skip | apply dw_exit | apply thenD_n | apply thenD_e | apply inB_n | (apply inB_e; exact rfl) | (apply ds_newC; exact rfl; (with_reducible exact trivial); exact rfl; exact rfl; exact rfl) | (apply ds_setC; exact rfl; exact rfl; exact rfl; exact rfl) | (apply dw_condP; exact rfl; all_goals intro hg))
      all_goals try (exfalso; omega)
      refine ⟨(n + 1, bs), ⟨by omega, ?_⟩, ent_ren id ⟨rfl, rfl, rfl, rfl, trivial⟩ ⟨rfl, rfl, trivial⟩ rfl rfl rfl rfl rfl rfl, by show r.body.length + 1 - (n + 1) < r.body.length + 1 - n; omega⟩
      dsimp only
      rw [bIter_succ, ← g2, f2, List.take_of_length_le (by omega)]; rfl
  · repeat' (first | (apply ds_evC; exact rfl; (with_reducible exact trivial); (with_reducible exact rfl); exact rfl; exact rfl; exact rfl) | apply ds_nil | apply dw_seq2 | (apply ds_region; exact rfl) | apply dw_block | apply dw_skip | apply dw_exit | apply thenD_n | apply thenD_e | (apply inB_e; exact rfl) | (apply dw_condP; exact rfl; all_goals intro hg))
    all_goals try (exfalso; omega)
    have hb : b0 = boundL r := by rw [g2, show n = r.body.length + 1 by omega]; rfl
    unfold safeB
    rw [← hb]
    have lb0 : (b0.map encBl).length = b0.length := List.length_map _
    refine ds_loop (ι := Nat) (fun x => ⟨2, [(1, .loc 0 0), (2, .d (.bool false)), (3, .row 1), (10, .d (.int .i64 x))], [(0, ruleB r), (1, .row 4 1 (b0.map encBl))]⟩)
      (fun x => x ≤ b0.length ∧ b0.all id = (b0.drop x).all id) (fun x => b0.length - x)
      0 ⟨Nat.zero_le _, rfl⟩ (ent_ren id ⟨rfl, rfl, rfl, rfl, trivial⟩ ⟨rfl, rfl, trivial⟩ rfl rfl rfl rfl rfl rfl) ?_
    rintro j ⟨e1, e2⟩
    dsimp only at e1 e2 ⊢
    by_cases hj : j < b0.length
    · rw [List.drop_eq_getElem_cons hj, List.all_cons] at e2
      repeat' (first | (apply ds_evC; exact rfl; (first | (with_reducible exact trivial) | omega); (first | ((with_reducible apply hv_prow); (exact rfl)) | ((with_reducible apply hv_ldrow); (apply hv_get; (omega)); exact rfl) | (with_reducible exact rfl)); exact rfl; exact rfl; exact rfl) | apply ds_nil | apply dw_seq2 | (apply ds_region; exact rfl) | apply dw_block | apply dw_skip | apply dw_exit | apply dw_ret | apply thenD_n | apply thenD_e | apply thenD_r | apply inB_n | apply inB_r | (apply inB_e; exact rfl) | (apply dw_condP; exact rfl; all_goals intro hg) | (apply dw_cond; exact rfl; all_goals intro hg))
      all_goals try (exfalso; omega)
      · refine ret_b rfl ?_
        have hbj : b0[j] = false := by simpa using hg
        rw [e2, hbj]; rfl
      · have hbj : b0[j] = true := by simpa using hg
        exact ⟨j + 1, ⟨by omega, by rw [e2, hbj]; rfl⟩, ent_ren id ⟨rfl, rfl, rfl, rfl, trivial⟩ ⟨rfl, rfl, trivial⟩ rfl rfl rfl rfl rfl rfl, by show b0.length - (j + 1) < b0.length - j; omega⟩
    · rw [List.drop_of_length_le (by omega)] at e2
      repeat' (first | (apply ds_evC; exact rfl; (first | (with_reducible exact trivial) | omega); (first | ((with_reducible apply hv_prow); (exact rfl)) | ((with_reducible apply hv_ldrow); (apply hv_get; (omega)); exact rfl) | (with_reducible exact rfl)); exact rfl; exact rfl; exact rfl) | apply ds_nil | apply dw_seq2 | (apply ds_region; exact rfl) | apply dw_block | apply dw_skip | apply dw_exit | apply dw_ret | apply thenD_n | apply thenD_e | apply thenD_r | apply inB_n | apply inB_r | (apply inB_e; exact rfl) | (apply dw_condP; exact rfl; all_goals intro hg) | (apply dw_cond; exact rfl; all_goals intro hg))
      all_goals try (exfalso; omega)
      all_goals exact ret_b rfl (by rw [e2]; rfl)
end Go.Proofs.Ytapciiffpnociaa
