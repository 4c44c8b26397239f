/- The document's DecodeOf. Condition: none. -/
import Derived.Test.YtapciiffpnociaaWirK
namespace Go.Proofs.Ytapciiffpnociaa
open Go Go.RowKit
attribute [local irreducible] DW DS DL DQ Ev FnOk FnP thenD inBlockD DT

theorem decode_bad {S : List UInt8} {a : Nat} {b : Bool} {u : Upd} (h : b = true ∨ (b = false ∧ (a : Int) < (strB S).size)) (hu : rdUpd (some S) = (u, rdOf S a b)) : decodeU S = (noUpd, 1) := by
  unfold decodeU
  rw [hu]
  rcases h with rfl | ⟨rfl, h⟩
  · rfl
  · rw [strB_len] at h
    rw [rdOf_false]
    cases hd : S.drop a with
    | nil => have := congrArg List.length hd; rw [List.length_drop] at this; simp at this; omega
    | cons c l => rfl
theorem decode_end {S : List UInt8} {a : Nat} {b : Bool} {u : Upd} (h1 : b = false) (h2 : ¬ (a : Int) < (strB S).size) (hu : rdUpd (some S) = (u, rdOf S a b)) : decodeU S = if checkU u = 0 then (u, 0) else (noUpd, checkU u) := by
  unfold decodeU
  rw [hu, h1, rdOf_false]
  rw [strB_len] at h2
  rw [List.drop_of_length_le (by omega)]

abbrev zeroU : HB := .blk 40 [.d (.int .i64 0), .d (.int .i64 0), .nils, .nils, .nils]

set_option maxHeartbeats 8000000 in
theorem decodeOf_fn (S : List UInt8) : Fn 24 [.d (.str (strB S))] (fun r => r = .tup [elUpd (decodeU S).1, .d (.int .i64 (decodeU S).2)]) := by
  refine fnp_enter' _ Try.func24 rfl rfl (by kernel_rfl) ?_
  intro O w0 E0 β0
  repeat' (first | (apply ds_evC; exact rfl; (with_reducible exact trivial); (with_reducible exact rfl); exact rfl; exact rfl; exact rfl) | apply ds_nil | apply dw_seq2 | apply ds_region | apply thenD_n | (apply ds_newC; exact rfl; (with_reducible exact trivial); exact rfl; exact rfl; exact rfl) | (apply ds_setC; exact rfl; exact rfl; exact rfl; exact rfl))
  refine ds_callF (fun _ => 1) (rtake_fn S 0 false 1 (Nat.zero_le _) (by omega) (by omega)) rfl rfl rfl rfl ⟨rfl, trivial⟩ rfl rfl rfl rfl rfl rfl ?_ ?_
  · rintro k2 res H2 ⟨rfl, a1, b1, h1, h2, rfl, rfl⟩
    exact ⟨rfl, rfl⟩
  rintro k2 res H2 ⟨rfl, a1, b1, h1, h2, rfl, rfl⟩
  change DS _ _ _ _ _ _ _ _
  repeat' (first | (apply ds_evC; exact rfl; (with_reducible exact trivial); (with_reducible exact rfl); exact rfl; exact rfl; exact rfl) | apply ds_nil | apply dw_seq2 | apply ds_region | apply thenD_n)
  refine ds_callF (fun _ => 1) (rtake_fn S a1 b1 2 h1 (by omega) (by omega)) rfl rfl rfl rfl ⟨rfl, trivial⟩ rfl rfl rfl rfl rfl rfl ?_ ?_
  · rintro k2 res H2 ⟨rfl, a2, b2, h3, h4, rfl, rfl⟩
    exact ⟨rfl, rfl⟩
  rintro k2 res H2 ⟨rfl, a2, b2, h3, h4, rfl, rfl⟩
  change DS _ _ _ _ _ _ _ _
  have hid : rdId (some S) = (⟨(tk 1 (rdOf S 0 false)).1, (tk 2 (rdOf S a1 b1)).1⟩, rdOf S a2 b2) := by
    unfold rdId
    rw [h4, h2, rdOf_false, List.drop_zero]
  generalize (tk 1 (rdOf S 0 false)).1 = u1 at hid ⊢
  generalize (tk 2 (rdOf S a1 b1)).1 = u2 at hid ⊢
  repeat' (first | (apply ds_evC; exact rfl; (with_reducible exact trivial); (with_reducible exact rfl); exact rfl; exact rfl; exact rfl) | apply ds_nil | apply dw_seq2 | apply ds_region | apply thenD_n | (apply ds_setC; exact rfl; exact rfl; exact rfl; exact rfl))
  refine ds_callF (fun _ => 1) (rids_fn S a2 b2 h3) rfl rfl rfl rfl ⟨rfl, trivial⟩ rfl rfl rfl rfl rfl rfl ?_ ?_
  · rintro k2 res H2 ⟨rfl, a3, b3, h5, h6, rfl, rfl⟩
    exact ⟨rfl, rfl⟩
  rintro k2 res H2 ⟨rfl, a3, b3, h5, h6, rfl, rfl⟩
  change DS _ _ _ _ _ _ _ _
  generalize hps : (rdList rdId (rdOf S a2 b2)).1 = ps
  repeat' (first | (apply ds_evC; exact rfl; (with_reducible exact trivial); (with_reducible exact rfl); exact rfl; exact rfl; exact rfl) | apply ds_nil | apply dw_seq2 | apply ds_region | apply thenD_n | (apply ds_setC; exact rfl; exact rfl; exact rfl; exact rfl))
  refine ds_callF (fun _ => 1) (rtake_fn S a3 b3 1 h5 (by omega) (by omega)) rfl rfl rfl rfl ⟨rfl, trivial⟩ rfl rfl rfl rfl rfl rfl ?_ ?_
  · rintro k2 res H2 ⟨rfl, a4, b4, h7, h8, rfl, rfl⟩
    exact ⟨rfl, rfl⟩
  rintro k2 res H2 ⟨rfl, a4, b4, h7, h8, rfl, rfl⟩
  change DS _ _ _ _ _ _ _ _
  have hN := tk1_small (rdOf S a3 b3)
  have hfs : rdList rdFact (rdOf S a3 b3) = rdMany rdFact (tk 1 (rdOf S a3 b3)).1.toNat (rdOf S a4 b4) := by unfold rdList; rw [h8]
  generalize (tk 1 (rdOf S a3 b3)).1 = n at hN hfs ⊢
  repeat' (first | (apply ds_evC; exact rfl; (with_reducible exact trivial); (with_reducible exact rfl); exact rfl; exact rfl; exact rfl) | apply ds_nil | apply dw_seq2 | apply ds_region | apply dw_block | apply thenD_n)
  refine dw_ent (ent_cellrow 2 3 89 2 rfl rfl rfl) ?_
  refine ds_loop (ι := Nat × Nat × Bool × List Fct) (fun x => ⟨4, [(0, .d (.str (strB S))), (2, .loc 0 0), (3, .d (.int .i64 0)), (4, .loc 1 0), (5, .loc 2 0), (8, .d (.int .i64 n)), (9, .d (.int .i64 x.1))], [(0, zeroU), (1, tkB S x.2.1 x.2.2.1), (2, updB u1 u2 ps (.row 3) .nils), (3, .row 89 2 (x.2.2.2.map encFct))]⟩)
    (fun x => x.1 ≤ n.toNat ∧ x.2.1 ≤ S.length ∧ x.2.2.2.length = x.1 ∧ rdMany rdFact n.toNat (rdOf S a4 b4) = (x.2.2.2 ++ (rdMany rdFact (n.toNat - x.1) (rdOf S x.2.1 x.2.2.1)).1, (rdMany rdFact (n.toNat - x.1) (rdOf S x.2.1 x.2.2.1)).2)) (fun x => n.toNat - x.1)
    (0, a4, b4, []) ⟨Nat.zero_le _, h7, rfl, rfl⟩ (ent_ren id ⟨rfl, rfl, rfl, rfl, rfl, rfl, rfl, trivial⟩ ⟨rfl, rfl, rfl, rfl, trivial⟩ rfl rfl rfl rfl rfl rfl) ?_
  rintro ⟨i, a5, b5, xs⟩ ⟨g1, g2, g3, g4⟩
  dsimp only at g1 g2 g3 g4 ⊢
  have lx : (xs.map encFct).length = xs.length := List.length_map _
  have fin : ∀ q, rdMany rdFact n.toNat (rdOf S a4 b4) = (xs, q) → rdUpd (some S) = (⟨⟨u1, u2⟩, ps, xs, (rdList rdId q).1⟩, (rdList rdId q).2) := by
    intro q hq
    unfold rdUpd
    rw [hid]
    dsimp only
    rw [hps, ← h6, hfs, hq]
  have hck := fun ts => checkUpdate_fn ⟨⟨u1, u2⟩, ps, xs, ts⟩
  by_cases hgo : i < n.toNat ∧ b5 = false
  · obtain ⟨hi, rfl⟩ := hgo
    rw [rdOf_false, rdMany_some rdFact hi] at g4
    repeat' (first | (apply ds_evC; exact rfl; (with_reducible exact trivial); (with_reducible exact rfl); exact rfl; exact rfl; exact rfl) | (apply ds_skip; exact rfl; exact rfl) | apply ds_nil | apply dw_seq2 | apply ds_region | apply dw_block | apply dw_skip | apply dw_exit | (apply dw_condT; exact rfl) | (apply dw_condF; exact rfl) | apply thenD_n | apply thenD_e | (apply inB_e; exact rfl) | (apply ds_newC; exact rfl; (with_reducible exact trivial); exact rfl; exact rfl; exact rfl) | ((fail_if_success (apply ds_known; exact rfl)); apply ds_guardP; exact rfl; exact rfl; exact rfl; all_goals intro hg))
    all_goals try (exfalso; omega)
    refine ds_callF (fun _ => 1) (rtake_fn S a5 false 1 g2 (by omega) (by omega)) rfl rfl rfl rfl ⟨rfl, trivial⟩ rfl rfl rfl rfl rfl rfl ?_ ?_
    · rintro k2 res H2 ⟨rfl, a6, b6, c1, c2, rfl, rfl⟩
      exact ⟨rfl, rfl⟩
    rintro k2 res H2 ⟨rfl, a6, b6, c1, c2, rfl, rfl⟩
    change DS _ _ _ _ _ _ _ _
    repeat' (first | (apply ds_evC; exact rfl; (with_reducible exact trivial); (with_reducible exact rfl); exact rfl; exact rfl; exact rfl) | apply ds_nil | apply dw_seq2 | apply ds_region | apply thenD_n | (apply ds_setC; exact rfl; exact rfl; exact rfl; exact rfl))
    refine ds_callF (fun _ => 1) (rtake_fn S a6 b6 1 c1 (by omega) (by omega)) rfl rfl rfl rfl ⟨rfl, trivial⟩ rfl rfl rfl rfl rfl rfl ?_ ?_
    · rintro k2 res H2 ⟨rfl, a7, b7, d1, d2, rfl, rfl⟩
      exact ⟨rfl, rfl⟩
    rintro k2 res H2 ⟨rfl, a7, b7, d1, d2, rfl, rfl⟩
    change DS _ _ _ _ _ _ _ _
    have hM := tk1_small (rdOf S a6 b6)
    have hft : rdFact (some (S.drop a5)) = (⟨(tk 1 (rdOf S a5 false)).1, (rdMany (tk 4) (tk 1 (rdOf S a6 b6)).1.toNat (rdOf S a7 b7)).1⟩, (rdMany (tk 4) (tk 1 (rdOf S a6 b6)).1.toNat (rdOf S a7 b7)).2) := by
      unfold rdFact rdList
      rw [d2, c2, rdOf_false]
    generalize (tk 1 (rdOf S a5 false)).1 = v1 at hft ⊢
    generalize (tk 1 (rdOf S a6 b6)).1 = m at hft hM ⊢
    repeat' (first | (apply ds_evC; exact rfl; (with_reducible exact trivial); (with_reducible exact rfl); exact rfl; exact rfl; exact rfl) | apply ds_nil | apply dw_seq2 | apply ds_region | apply dw_block | apply thenD_n)
    refine dw_ent (ent_cellrow 4 1 3 1 rfl rfl rfl) ?_
    refine ds_loop (ι := Nat × Nat × Bool × List Int) (fun x => ⟨6, [(0, .d (.str (strB S))), (2, .loc 0 0), (3, .d (.int .i64 0)), (4, .loc 1 0), (5, .loc 2 0), (8, .d (.int .i64 n)), (9, .d (.int .i64 i)), (10, .loc 4 0), (11, .d (.int .i64 m)), (12, .d (.int .i64 x.1))], [(0, zeroU), (1, tkB S x.2.1 x.2.2.1), (2, updB u1 u2 ps (.row 3) .nils), (3, .row 89 2 (xs.map encFct)), (4, .blk 89 [.d (.int .i64 v1), .row 5]), (5, .row 3 1 (x.2.2.2.map encI))]⟩)
      (fun x => x.1 ≤ m.toNat ∧ x.2.1 ≤ S.length ∧ x.2.2.2.length = x.1 ∧ rdMany (tk 4) m.toNat (rdOf S a7 b7) = (x.2.2.2 ++ (rdMany (tk 4) (m.toNat - x.1) (rdOf S x.2.1 x.2.2.1)).1, (rdMany (tk 4) (m.toNat - x.1) (rdOf S x.2.1 x.2.2.1)).2)) (fun x => m.toNat - x.1)
      (0, a7, b7, []) ⟨Nat.zero_le _, d1, rfl, rfl⟩ (ent_ren id ⟨rfl, rfl, rfl, rfl, rfl, rfl, rfl, rfl, rfl, rfl, trivial⟩ ⟨rfl, rfl, rfl, rfl, rfl, rfl, trivial⟩ rfl rfl rfl rfl rfl rfl) ?_
    rintro ⟨j, a8, b8, ys⟩ ⟨f1, f2, f3, f4⟩
    dsimp only at f1 f2 f3 f4 ⊢
    have ly : (ys.map encI).length = ys.length := List.length_map _
    by_cases hgj : j < m.toNat ∧ b8 = false
    · obtain ⟨hj, rfl⟩ := hgj
      rw [rdOf_false, rdMany_some (tk 4) hj] at f4
      repeat' (first | (apply ds_evC; exact rfl; (with_reducible exact trivial); (with_reducible exact rfl); exact rfl; exact rfl; exact rfl) | (apply ds_skip; exact rfl; exact rfl) | apply ds_nil | apply dw_seq2 | apply ds_region | apply dw_block | apply dw_skip | apply dw_exit | (apply dw_condT; exact rfl) | (apply dw_condF; exact rfl) | apply thenD_n | apply thenD_e | (apply inB_e; exact rfl) | ((fail_if_success (apply ds_known; exact rfl)); apply ds_guardP; exact rfl; exact rfl; exact rfl; all_goals intro hg))
      all_goals try (exfalso; omega)
      refine ds_callF (fun _ => 1) (rtake_fn S a8 false 4 f2 (by omega) (by omega)) rfl rfl rfl rfl ⟨rfl, trivial⟩ rfl rfl rfl rfl rfl rfl ?_ ?_
      · rintro k2 res H2 ⟨rfl, a9, b9, e1, e2, rfl, rfl⟩
        exact ⟨rfl, rfl⟩
      rintro k2 res H2 ⟨rfl, a9, b9, e1, e2, rfl, rfl⟩
      change DS _ _ _ _ _ _ _ _
      rw [← rdOf_false, ← e2] at f4
      generalize (tk 4 (rdOf S a8 false)).1 = v at f4 ⊢
      repeat' (first | (apply ds_evC; exact rfl; (first | (with_reducible exact trivial) | omega); (with_reducible exact rfl); exact rfl; exact rfl; exact rfl) | apply ds_nil | apply ds_region | apply thenD_n | apply inB_n | (apply ds_setC; exact rfl; exact rfl; exact rfl; exact rfl) | (apply ds_bsC; exact rfl; exact rfl; exact rfl; exact rfl) | (apply ds_tradeC; exact rfl; (unfold maxLen; simp <;> omega); exact rfl; exact rfl; exact rfl; exact rfl))
      refine ⟨(j + 1, a9, b9, ys ++ [v]), ⟨hj, e1, by simp; omega, by rw [f4]; simp⟩, ?_, by show m.toNat - (j + 1) < m.toNat - j; omega⟩
      dsimp only
      rw [List.map_append]
      exact ent_ren (fun j => match j with | 0 => 0 | 1 => 1 | 2 => 2 | 3 => 3 | 4 => 4 | _ => 6) ⟨rfl, rfl, rfl, rfl, rfl, rfl, rfl, rfl, rfl, rfl, trivial⟩ ⟨rfl, rfl, rfl, rfl, rfl, rfl, trivial⟩ rfl rfl rfl rfl rfl rfl
    · have hq : rdMany (tk 4) m.toNat (rdOf S a7 b7) = (ys, rdOf S a8 b8) := by
        cases b8 with
        | true => rw [f4, rdOf_true, rdMany_none]; simp
        | false =>
          have : ¬ j < m.toNat := fun h => hgj ⟨h, rfl⟩
          rw [f4, show m.toNat - j = 0 by omega]; simp [rdMany]
      rw [hq] at hft
      rw [hft] at g4
      refine dw_ent (ent_cellseal 4 1 5 rfl rfl rfl rfl rfl) ?_
      repeat' (first | (apply ds_evC; exact rfl; (first | (with_reducible exact trivial) | omega); (with_reducible exact rfl); exact rfl; exact rfl; exact rfl) | (apply ds_skip; exact rfl; exact rfl) | apply ds_nil | apply dw_seq2 | apply ds_region | apply dw_block | apply dw_skip | apply dw_exit | (apply dw_condF; exact rfl) | apply thenD_n | apply thenD_e | apply inB_n | (apply inB_e; exact rfl) | (apply ds_setC; exact rfl; exact rfl; exact rfl; exact rfl) | (apply ds_bsC; exact rfl; exact rfl; exact rfl; exact rfl) | (apply ds_tradeC; exact rfl; (unfold maxLen; simp <;> omega); exact rfl; exact rfl; exact rfl; exact rfl) | (apply dw_cond; exact rfl; all_goals intro hg) | ((fail_if_success (apply ds_known; exact rfl)); apply ds_guardP; exact rfl; exact rfl; exact rfl; all_goals intro hg))
      · exfalso; simp only [Bool.not_eq_true'] at *; exact hgj ⟨by omega, by assumption⟩
      all_goals
        refine ⟨(i + 1, a8, b8, xs ++ [⟨v1, ys⟩]), ⟨hi, f2, by simp; omega, by rw [g4]; simp⟩, ?_, by show n.toNat - (i + 1) < n.toNat - i; omega⟩
        dsimp only
        rw [List.map_append]
        exact ent_ren (fun j => match j with | 0 => 0 | 1 => 1 | 2 => 2 | _ => 6) ⟨rfl, rfl, rfl, rfl, rfl, rfl, rfl, trivial⟩ ⟨rfl, rfl, rfl, rfl, trivial⟩ rfl rfl rfl rfl rfl rfl
  · have hq : rdMany rdFact n.toNat (rdOf S a4 b4) = (xs, rdOf S a5 b5) := by
      cases b5 with
      | true => rw [g4, rdOf_true, rdMany_none]; simp
      | false =>
        have : ¬ i < n.toNat := fun h => hgo ⟨h, rfl⟩
        rw [g4, show n.toNat - i = 0 by omega]; simp [rdMany]
    have hu := fin _ hq
    repeat' (first | (apply ds_evC; exact rfl; (with_reducible exact trivial); (with_reducible exact rfl); exact rfl; exact rfl; exact rfl) | (apply ds_skip; exact rfl; exact rfl) | apply ds_nil | apply dw_seq2 | apply ds_region | apply dw_block | apply dw_skip | apply dw_exit | (apply dw_condF; exact rfl) | apply thenD_n | apply thenD_e | (apply inB_e; exact rfl) | (apply ds_newC; exact rfl; (with_reducible exact trivial); exact rfl; exact rfl; exact rfl) | (apply dw_cond; exact rfl; all_goals intro hg) | ((fail_if_success (apply ds_known; exact rfl)); apply ds_guardP; exact rfl; exact rfl; exact rfl; all_goals intro hg))
    · exfalso; simp only [Bool.not_eq_true'] at *; exact hgo ⟨by omega, by assumption⟩
    all_goals
      refine ds_ent (ent_cellseal 2 3 3 rfl rfl rfl rfl rfl) ?_
      refine ds_callF (fun _ => 1) (rids_fn S a5 b5 g2) rfl rfl rfl rfl ⟨rfl, trivial⟩ rfl rfl rfl rfl rfl rfl ?_ ?_
      · rintro k2 res H2 ⟨rfl, a6, b6, c1, c2, rfl, rfl⟩
        exact ⟨rfl, rfl⟩
      rintro k2 res H2 ⟨rfl, a6, b6, c1, c2, rfl, rfl⟩
      change DS _ _ _ _ _ _ _ _
      rw [← c2] at hu
      have hck := hck (rdList rdId (rdOf S a5 b5)).1
      generalize (rdList rdId (rdOf S a5 b5)).1 = ts at hu hck ⊢
      repeat' (first | (apply ds_evC; exact rfl; (with_reducible exact trivial); (with_reducible exact rfl); exact rfl; exact rfl; exact rfl) | (apply ds_skip; exact rfl; exact rfl) | apply ds_nil | apply dw_seq2 | apply ds_region | apply dw_skip | (apply dw_condT; exact rfl) | apply thenD_n | (apply ds_call; exact rfl; exact rfl; apply hck; exact rfl; (exact rfl); exact rfl; rintro _ rfl) | (apply ds_setC; exact rfl; exact rfl; exact rfl; exact rfl) | (apply dw_condP; exact rfl; all_goals intro hg) | ((fail_if_success (apply ds_known; exact rfl)); apply ds_guardB; exact rfl; exact rfl; exact rfl; all_goals intro hg))
      · refine dw_ent (ent_cellnil 0 2 2 rfl rfl rfl) ?_
        refine dw_ent (ent_cellnil 0 3 2 rfl rfl rfl) ?_
        refine dw_ent (ent_cellnil 0 4 2 rfl rfl rfl) ?_
        repeat' (first | apply dw_ret | apply thenD_r)
        rw [decode_bad (.inl (by assumption)) hu]
        exact ⟨.inl rfl, _, rfl, rfl, rfl⟩
      · refine dw_ent (ent_cellnil 0 2 2 rfl rfl rfl) ?_
        refine dw_ent (ent_cellnil 0 3 2 rfl rfl rfl) ?_
        refine dw_ent (ent_cellnil 0 4 2 rfl rfl rfl) ?_
        repeat' (first | apply dw_ret | apply thenD_r)
        rw [decode_bad (.inr ⟨by assumption, by assumption⟩) hu]
        exact ⟨.inl rfl, _, rfl, rfl, rfl⟩
      · rw [decode_end (by assumption) (by assumption) hu, if_neg (by assumption)]
        refine dw_ent (ent_cellnil 0 2 2 rfl rfl rfl) ?_
        refine dw_ent (ent_cellnil 0 3 2 rfl rfl rfl) ?_
        refine dw_ent (ent_cellnil 0 4 2 rfl rfl rfl) ?_
        repeat' (first | apply dw_ret | apply thenD_r)
        exact ⟨.inl rfl, _, rfl, rfl, rfl⟩
      · have h0 : checkU ⟨⟨u1, u2⟩, ps, xs, ts⟩ = 0 := Decidable.not_not.1 (by assumption)
        have hd : decodeU S = (⟨⟨u1, u2⟩, ps, xs, ts⟩, checkU ⟨⟨u1, u2⟩, ps, xs, ts⟩) := by
          rw [decode_end (by assumption) (by assumption) hu, if_pos h0, h0]
        rw [hd]
        repeat' (apply dw_ret)
        exact ⟨.inl rfl, _, rfl, rfl, rfl⟩
end Go.Proofs.Ytapciiffpnociaa
