/- The document's reading of updates. Condition: none. -/
import Derived.Test.YtapciiffpnociaaWirJ
import Derived.Test.YtapciiffpnociaaWirI
namespace Go.Proofs.Ytapciiffpnociaa
open Go Go.RowKit
attribute [local irreducible] DW DS DL DQ Ev FnOk FnP thenD inBlockD DT

theorem rdMany_none {α : Type} (f : Rd → α × Rd) (n : Nat) : rdMany f n none = ([], none) := by cases n <;> rfl
theorem rdMany_some {α : Type} (f : Rd → α × Rd) {n i : Nat} (h : i < n) (l : List UInt8) : rdMany f (n - i) (some l) = ((f (some l)).1 :: (rdMany f (n - (i + 1)) (f (some l)).2).1, (rdMany f (n - (i + 1)) (f (some l)).2).2) := by
  rw [show n - i = (n - (i + 1)) + 1 by omega]; rfl
theorem rdOf_true (S : List UInt8) (a : Nat) : rdOf S a true = none := rfl
theorem rdOf_false (S : List UInt8) (a : Nat) : rdOf S a false = some (S.drop a) := rfl

set_option maxHeartbeats 8000000 in
theorem rids_fn (S : List UInt8) (a : Nat) (bad : Bool) (ha : a ≤ S.length) :
    FnH 89 [.loc 0 0] 1 1 (tkH S a bad) (fun k2 res H2 => k2 = 1 ∧ ∃ a' bad', a' ≤ S.length ∧ rdOf S a' bad' = (rdList rdId (rdOf S a bad)).2 ∧ res = .d (.slice 2 ((rdList rdId (rdOf S a bad)).1.map encId)) ∧ H2 = tkH S a' bad') := by
  refine fn_enterR _ Try.func89 rfl rfl (by kernel_rfl) ?_
  intro O w0 E0 β0
  repeat' (first | (apply ds_evC; exact rfl; (with_reducible exact trivial); (with_reducible exact rfl); exact rfl; exact rfl; exact rfl) | apply ds_nil | apply dw_seq2 | apply ds_region | apply thenD_n)
  (refine ds_callF id (rtake_fn S a bad 1 ha (by omega) (by omega)) rfl rfl rfl rfl ⟨rfl, trivial⟩ rfl rfl rfl rfl rfl rfl ?_ ?_)
  · rintro k2 res H2 ⟨rfl, a1, b1, h1, h2, rfl, rfl⟩
    exact ⟨rfl, rfl⟩
  rintro k2 res H2 ⟨rfl, a1, b1, h1, h2, rfl, rfl⟩
  change DS _ _ _ _ _ _ _ _
  unfold rdList
  have hN := tk1_small (rdOf S a bad)
  rw [← h2]
  generalize (tk 1 (rdOf S a bad)).1 = n at hN
  repeat' (first | (apply ds_evC; exact rfl; (with_reducible exact trivial); (with_reducible exact rfl); exact rfl; exact rfl; exact rfl) | apply ds_nil | apply dw_seq2 | apply ds_region | apply dw_block | apply thenD_n)
  refine dw_ent (ent_nilrow (t := 3) 36 2 rfl) ?_
  refine ds_loop (ι := Nat × Nat × Bool × List UId) (fun x => ⟨2, [(0, .loc 0 0), (3, .row 1), (4, .d (.int .i64 n)), (5, .d (.int .i64 x.1))], [(0, tkB S x.2.1 x.2.2.1), (1, .row 36 2 (x.2.2.2.map encId))]⟩)
    (fun x => x.1 ≤ n.toNat ∧ x.2.1 ≤ S.length ∧ x.2.2.2.length = x.1 ∧ rdMany rdId n.toNat (rdOf S a1 b1) = (x.2.2.2 ++ (rdMany rdId (n.toNat - x.1) (rdOf S x.2.1 x.2.2.1)).1, (rdMany rdId (n.toNat - x.1) (rdOf S x.2.1 x.2.2.1)).2)) (fun x => n.toNat - x.1)
    (0, a1, b1, []) ⟨Nat.zero_le _, h1, rfl, rfl⟩ (ent_ren id ⟨rfl, rfl, rfl, rfl, trivial⟩ ⟨rfl, rfl, trivial⟩ rfl rfl rfl rfl rfl rfl) ?_
  rintro ⟨i, a2, b2, xs⟩ ⟨g1, g2, g3, g4⟩
  dsimp only at g1 g2 g3 g4 ⊢
  have lx : (xs.map encId).length = xs.length := List.length_map _
  cases b2 with
  | true =>
    rw [rdOf_true, rdMany_none] at g4
    rw [g4]
    repeat' (first | (apply ds_evC; exact rfl; (with_reducible exact trivial); (with_reducible exact rfl); exact rfl; exact rfl; exact rfl) | (apply ds_skip; exact rfl; exact rfl) | apply ds_nil | apply dw_seq2 | apply ds_region | apply dw_exit | (apply dw_condF; exact rfl) | apply thenD_n | apply thenD_e | (apply inB_e; exact rfl) | ((fail_if_success (apply ds_known; exact rfl)); apply ds_guardP; exact rfl; exact rfl; exact rfl; all_goals intro hg))
    all_goals
      refine dw_ent (ent_seal 2 rfl rfl rfl) ?_
      repeat' (apply dw_ret)
      exact ⟨.inl rfl, _, rfl, id, 1, .d (.slice 2 (xs.map encId)), tkH S a2 true, rfl, ⟨rfl, trivial⟩, rfl, rfl, rfl, rfl, rfl, rfl, rfl, a2, true, g2, rfl, by simp, rfl⟩
  | false =>
    repeat' (first | (apply ds_evC; exact rfl; (with_reducible exact trivial); (with_reducible exact rfl); exact rfl; exact rfl; exact rfl) | (apply ds_skip; exact rfl; exact rfl) | apply ds_nil | apply dw_seq2 | apply ds_region | apply dw_block | apply dw_skip | apply dw_exit | (apply dw_condT; exact rfl) | (apply dw_condF; exact rfl) | apply thenD_n | apply thenD_e | (apply inB_e; exact rfl) | ((fail_if_success (apply ds_known; exact rfl)); apply ds_guardP; exact rfl; exact rfl; exact rfl; all_goals intro hg))
    · have hi : i < n.toNat := by omega
      rw [rdOf_false, rdMany_some rdId hi] at g4
      (refine ds_callF id (rtake_fn S a2 false 1 g2 (by omega) (by omega)) rfl rfl rfl rfl ⟨rfl, trivial⟩ rfl rfl rfl rfl rfl rfl ?_ ?_)
      · rintro k2 res H2 ⟨rfl, a3, b3, c1, c2, rfl, rfl⟩
        exact ⟨rfl, rfl⟩
      rintro k2 res H2 ⟨rfl, a3, b3, c1, c2, rfl, rfl⟩
      change DS _ _ _ _ _ _ _ _
      repeat' (first | (apply ds_evC; exact rfl; (with_reducible exact trivial); (with_reducible exact rfl); exact rfl; exact rfl; exact rfl) | apply ds_nil | apply dw_seq2 | apply ds_region | apply thenD_n)
      (refine ds_callF id (rtake_fn S a3 b3 2 c1 (by omega) (by omega)) rfl rfl rfl rfl ⟨rfl, trivial⟩ rfl rfl rfl rfl rfl rfl ?_ ?_)
      · rintro k2 res H2 ⟨rfl, a4, b4, d1, d2, rfl, rfl⟩
        exact ⟨rfl, rfl⟩
      rintro k2 res H2 ⟨rfl, a4, b4, d1, d2, rfl, rfl⟩
      change DS _ _ _ _ _ _ _ _
      have hid : rdId (some (S.drop a2)) = (⟨(tk 1 (rdOf S a2 false)).1, (tk 2 (rdOf S a3 b3)).1⟩, rdOf S a4 b4) := by
        unfold rdId
        rw [← rdOf_false, ← c2, ← d2]
      rw [hid] at g4
      dsimp only at g4
      generalize (tk 1 (rdOf S a2 false)).1 = u1 at g4 ⊢
      generalize (tk 2 (rdOf S a3 b3)).1 = u2 at g4 ⊢
      repeat' (first | (apply ds_evC; exact rfl; (first | (with_reducible exact trivial) | omega); (with_reducible exact rfl); exact rfl; exact rfl; exact rfl) | apply ds_nil | apply ds_region | apply thenD_n | apply inB_n | (apply ds_bsC; exact rfl; exact rfl; exact rfl; exact rfl) | (apply ds_tradeC; exact rfl; (unfold maxLen; simp <;> omega); exact rfl; exact rfl; exact rfl; exact rfl))
      refine ⟨(i + 1, a4, b4, xs ++ [⟨u1, u2⟩]), ⟨hi, d1, by simp; omega, by rw [g4]; simp⟩, ?_, by show n.toNat - (i + 1) < n.toNat - i; omega⟩
      dsimp only
      rw [List.map_append]
      exact ent_ren (fun j => match j with | 0 => 0 | _ => 2) ⟨rfl, rfl, rfl, rfl, trivial⟩ ⟨rfl, rfl, trivial⟩ rfl rfl rfl rfl rfl rfl
    · have hi : n.toNat - i = 0 := by omega
      rw [hi] at g4
      refine dw_ent (ent_seal 2 rfl rfl rfl) ?_
      repeat' (apply dw_ret)
      rw [g4]
      exact ⟨.inl rfl, _, rfl, id, 1, .d (.slice 2 (xs.map encId)), tkH S a2 false, rfl, ⟨rfl, trivial⟩, rfl, rfl, rfl, rfl, rfl, rfl, rfl, a2, false, g2, rfl, by simp [rdMany], rfl⟩
end Go.Proofs.Ytapciiffpnociaa
