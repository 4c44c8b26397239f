/- The program's reader of updates; Decode. Condition: none. -/
import Derived.Test.YtapciiffpnociaaWirH
namespace Go.Proofs.Ytapciiffpnociaa
open Go Go.RowKit
attribute [local irreducible] DW DS DL DQ Ev FnOk FnP thenD inBlockD DT

theorem tk1_small (r : Rd) : 0 ≤ (tk 1 r).1 ∧ (tk 1 r).1 < 256 := by
  cases h : tk 1 r with
  | mk n q =>
    cases q with
    | some q => exact tk1_range h
    | none =>
      cases r with
      | none => cases h; simp
      | some l =>
        rw [tk_eq] at h
        split at h
        · cases h; simp
        · cases h
set_option maxHeartbeats 8000000 in
theorem rdId_fn (r : Rd) : FnH 74 [.loc 0 0] 1 1 (rdH r) (fun k2 res H2 => k2 = 1 ∧ res = elId (rdId r).1 ∧ H2 = rdH (rdId r).2) := by
  refine fn_enterF _ Try.func74 rfl rfl (by kernel_rfl) ?_
  intro O w0 E0 β0
  repeat' (first | (apply ds_evC; exact rfl; (with_reducible exact trivial); (with_reducible exact rfl); exact rfl; exact rfl; exact rfl) | apply ds_nil | apply dw_seq2 | apply ds_region | apply thenD_n | (apply ds_newC; exact rfl; (with_reducible exact trivial); exact rfl; exact rfl; exact rfl))
  (refine ds_callF id (take_fn r 1 (by omega) (by omega)) rfl rfl rfl rfl ⟨rfl, trivial⟩ rfl rfl rfl rfl rfl rfl ?_ ?_)
  · rintro k2 res H2 ⟨rfl, rfl, rfl⟩
    exact ⟨rfl, rfl⟩
  rintro k2 res H2 ⟨rfl, rfl, rfl⟩
  change DS _ _ _ _ _ _ _ _
  repeat' (first | (apply ds_evC; exact rfl; (with_reducible exact trivial); (with_reducible exact rfl); exact rfl; exact rfl; exact rfl) | apply ds_nil | apply dw_seq2 | apply ds_region | apply thenD_n)
  (refine ds_callF id (take_fn (tk 1 r).2 2 (by omega) (by omega)) rfl rfl rfl rfl ⟨rfl, trivial⟩ rfl rfl rfl rfl rfl rfl ?_ ?_)
  · rintro k2 res H2 ⟨rfl, rfl, rfl⟩
    exact ⟨rfl, rfl⟩
  rintro k2 res H2 ⟨rfl, rfl, rfl⟩
  change DS _ _ _ _ _ _ _ _
  repeat' (first | (apply ds_evC; exact rfl; (with_reducible exact trivial); (with_reducible exact rfl); exact rfl; exact rfl; exact rfl) | apply ds_nil | apply dw_seq2 | apply ds_region | apply dw_ret | apply thenD_n | (apply ds_setC; exact rfl; exact rfl; exact rfl; exact rfl))
  exact ⟨.inl rfl, _, rfl, 1, rdH _, ⟨rfl, trivial⟩, rfl, rfl, rfl, rfl, rfl, rfl, rfl⟩

/-- The reader, the variable that points to it, a list of ids that grows. -/
abbrev idsH (r : Rd) (xs : List UId) : Hp := [(0, rdB r), (1, .blk 113 [.loc 0 0]), (2, .blk 37 [.row 3]), (3, .row 36 2 (xs.map encId))]
theorem idsH_snoc (r : Rd) (xs : List UId) (x : UId) : idsH r (xs ++ [x]) = [(0, rdB r), (1, .blk 113 [.loc 0 0]), (2, .blk 37 [.row 3]), (3, .row 36 2 (xs.map encId ++ [encId x]))] := by simp [idsH]
set_option maxHeartbeats 8000000 in
theorem idOne_fn (r : Rd) (xs : List UId) (hx : xs.length ≤ 300) : FnH 152 [.loc 1 0, .loc 2 0] 3 4 (idsH r xs) (fun k2 res H2 => k2 = 4 ∧ res = .tup [] ∧ H2 = idsH (rdId r).2 (xs ++ [(rdId r).1])) := by
  refine fn_enterR _ Try.func152 rfl rfl (by kernel_rfl) ?_
  intro O w0 E0 β0
  have lx : (xs.map encId).length = xs.length := List.length_map _
  repeat' (first | (apply ds_evC; exact rfl; (with_reducible exact trivial); (with_reducible exact rfl); exact rfl; exact rfl; exact rfl) | apply dw_seq2 | apply ds_region)
  (refine ds_callF id (rdId_fn r) rfl rfl rfl rfl ⟨rfl, trivial⟩ rfl rfl rfl rfl rfl rfl ?_ ?_)
  · rintro k2 res H2 ⟨rfl, rfl, rfl⟩
    exact ⟨rfl, rfl⟩
  rintro k2 res H2 ⟨rfl, rfl, rfl⟩
  change DS _ _ _ _ _ _ _ _
  rw [idsH_snoc]
  repeat' (first | (apply ds_evC; exact rfl; (with_reducible exact trivial); (with_reducible exact rfl); exact rfl; exact rfl; exact rfl) | apply ds_nil | apply ds_region | apply thenD_n | (apply ds_newC; exact rfl; (with_reducible exact trivial); exact rfl; exact rfl; exact rfl) | (apply ds_setC; exact rfl; exact rfl; exact rfl; exact rfl) | (apply ds_bsC; exact rfl; exact rfl; exact rfl; exact rfl) | (apply ds_tradeC; exact rfl; (unfold maxLen; simp <;> omega); exact rfl; exact rfl; exact rfl; exact rfl))
  exact ⟨.inr rfl, _, rfl, fun j => match j with | 3 => 5 | j => j, 4, .tup [], [(0, rdB (rdId r).2), (1, .blk 113 [.loc 0 0]), (2, .blk 37 [.row 3]), (3, .row 36 2 (xs.map encId ++ [encId (rdId r).1]))], rfl, ⟨rfl, rfl, rfl, rfl, trivial⟩, rfl, rfl, rfl, rfl, rfl, rfl, rfl, rfl, rfl⟩

set_option maxHeartbeats 8000000 in
theorem timesId_fn  (r : Rd) : FnH 76 [.loc 0 0, .fn 152 [.loc 1 0, .loc 2 0]] 3 4 (idsH r []) (fun k2 res H2 => k2 = 4 ∧ res = .tup [] ∧ H2 = idsH (rdList rdId r).2 (rdList rdId r).1) := by
  refine fn_enterF _ Try.func76 rfl rfl (by kernel_rfl) ?_
  intro O w0 E0 β0
  repeat' (first | (apply ds_evC; exact rfl; (with_reducible exact trivial); (with_reducible exact rfl); exact rfl; exact rfl; exact rfl) | apply dw_seq2 | apply ds_region)
  (refine ds_callF id (take_fn r 1 (by omega) (by omega)) rfl rfl rfl rfl ⟨rfl, trivial⟩ rfl rfl rfl rfl rfl rfl ?_ ?_)
  · rintro k2 res H2 ⟨rfl, rfl, rfl⟩
    exact ⟨rfl, rfl⟩
  rintro k2 res H2 ⟨rfl, rfl, rfl⟩
  change DS _ _ _ _ _ _ _ _
  repeat' (first | (apply ds_evC; exact rfl; (with_reducible exact trivial); (with_reducible exact rfl); exact rfl; exact rfl; exact rfl) | apply ds_nil | apply dw_block | apply thenD_n)
  unfold rdList
  have hN := tk1_small r
  generalize htk : tk 1 r = q at hN
  obtain ⟨n, r1⟩ := q
  dsimp only at hN ⊢
  refine ds_loop (ι := Nat × Rd × List (UId)) (fun x => ⟨4, [(0, .loc 0 0), (1, .fn 152 [.loc 1 0, .loc 2 0]), (4, .d (.int .i64 x.1))], idsH x.2.1 x.2.2⟩)
    (fun x => x.1 + x.2.2.length ≤ 256 ∧ (rdMany rdId n.toNat r1).1 = x.2.2 ++ (rdMany rdId x.1 x.2.1).1 ∧ (rdMany rdId n.toNat r1).2 = (rdMany rdId x.1 x.2.1).2) (fun x => x.1) (n.toNat, r1, []) ⟨by simp; omega, rfl, rfl⟩ ?_ ?_
  · dsimp only
    rw [Int.toNat_of_nonneg hN.1]
    exact ent_ren id ⟨rfl, rfl, rfl, trivial⟩ ⟨rfl, rfl, rfl, rfl, trivial⟩ rfl rfl rfl rfl rfl rfl
  rintro ⟨m, r2, xs⟩ ⟨g1, g2, g3⟩
  dsimp only at g1 g2 g3 ⊢
  rw [g2, g3]
  cases m with
  | zero =>
    repeat' (first | (apply ds_evC; exact rfl; (with_reducible exact trivial); (with_reducible exact rfl); exact rfl; exact rfl; exact rfl) | (apply ds_skip; exact rfl; exact rfl) | apply ds_nil | apply dw_seq2 | apply ds_region | apply dw_exit | (apply dw_condF; exact rfl) | apply thenD_n | apply thenD_e | (apply inB_e; exact rfl))
    all_goals first
      | (exfalso; omega)
      | exact ⟨.inr rfl, _, rfl, 4, idsH r2 xs, ⟨rfl, rfl, rfl, rfl, trivial⟩, rfl, rfl, rfl, rfl, rfl, rfl, by simp [rdMany]⟩
  | succ m =>
    cases r2 with
    | none =>
      repeat' (first | (apply ds_evC; exact rfl; (with_reducible exact trivial); (with_reducible exact rfl); exact rfl; exact rfl; exact rfl) | (apply ds_skip; exact rfl; exact rfl) | apply ds_nil | apply dw_seq2 | apply ds_region | apply dw_exit | (apply dw_condF; exact rfl) | apply thenD_n | apply thenD_e | (apply inB_e; exact rfl) | ((fail_if_success (apply ds_known; exact rfl)); apply ds_guardP; exact rfl; exact rfl; exact rfl; all_goals intro hg))
      all_goals first
        | (exfalso; omega)
        | exact ⟨.inr rfl, _, rfl, 4, idsH none xs, ⟨rfl, rfl, rfl, rfl, trivial⟩, rfl, rfl, rfl, rfl, rfl, rfl, by simp [rdMany]⟩
    | some l =>
      repeat' (first | (apply ds_evC; exact rfl; (with_reducible exact trivial); (with_reducible exact rfl); exact rfl; exact rfl; exact rfl) | (apply ds_skip; exact rfl; exact rfl) | apply ds_nil | apply dw_seq2 | apply ds_region | apply dw_block | apply dw_skip | apply dw_exit | (apply dw_condT; exact rfl) | (apply dw_condF; exact rfl) | apply thenD_n | apply thenD_e | (apply inB_e; exact rfl) | ((fail_if_success (apply ds_known; exact rfl)); apply ds_guardP; exact rfl; exact rfl; exact rfl; all_goals intro hg))
      all_goals try (exfalso; omega)
      refine ds_callVF id (idOne_fn  (some l) xs (by omega)) rfl rfl rfl rfl rfl rfl ⟨rfl, rfl, rfl, rfl, trivial⟩ rfl rfl rfl rfl rfl rfl ?_ ?_
      · rintro k2 res H2 ⟨rfl, rfl, rfl⟩
        exact ⟨rfl, rfl⟩
      rintro k2 res H2 ⟨rfl, rfl, rfl⟩
      change DS _ _ _ _ _ _ _ _
      refine ds_ent (ent_ren (k' := 4) (L' := [(0, .loc 0 0), (1, .fn 152 [.loc 1 0, .loc 2 0]), (4, .d (.int .i64 ((m + 1 : Nat) : Int)))]) (H' := idsH (rdId (some l)).2 (xs ++ [(rdId (some l)).1])) (fun j => match j with | 0 => 0 | 1 => 1 | 2 => 2 | _ => 7) ⟨rfl, rfl, rfl, trivial⟩ ⟨rfl, rfl, rfl, rfl, trivial⟩ rfl rfl rfl rfl rfl rfl) ?_
      repeat' (first | (apply ds_evC; exact rfl; (first | (with_reducible exact trivial) | omega); (with_reducible exact rfl); exact rfl; exact rfl; exact rfl) | apply ds_nil | apply ds_region | apply thenD_n | apply inB_n)
      refine ⟨(m, (rdId (some l)).2, xs ++ [(rdId (some l)).1]), ⟨by simp; omega, by simp [rdMany], rfl⟩, ?_, Nat.lt_succ_self m⟩
      dsimp only
      rw [show ((m + 1 : Nat) : Int) - 1 = (m : Int) by omega]
      exact ent_ren id ⟨rfl, rfl, rfl, trivial⟩ ⟨rfl, rfl, rfl, rfl, trivial⟩ rfl rfl rfl rfl rfl rfl


set_option maxHeartbeats 8000000 in
theorem rdIds_fn (r : Rd) : FnH 75 [.loc 0 0] 1 1 (rdH r) (fun k2 res H2 => k2 = 1 ∧ res = .d (.slice 2 ((rdList rdId r).1.map encId)) ∧ H2 = rdH (rdList rdId r).2) := by
  refine fn_enterR _ Try.func75 rfl rfl (by kernel_rfl) ?_
  intro O w0 E0 β0
  repeat' (first | (apply ds_evC; exact rfl; (with_reducible exact trivial); (with_reducible exact rfl); exact rfl; exact rfl; exact rfl) | apply ds_nil | apply dw_seq2 | apply ds_region | apply thenD_n | (apply ds_newC; exact rfl; (with_reducible exact trivial); exact rfl; exact rfl; exact rfl))
  refine ds_ent (ent_cellrow 2 0 36 2 rfl rfl rfl) ?_
  (refine ds_callF id (timesId_fn r) rfl rfl rfl rfl ⟨rfl, rfl, rfl, rfl, trivial⟩ rfl rfl rfl rfl rfl rfl ?_ ?_)
  · rintro k2 res H2 ⟨rfl, rfl, rfl⟩
    exact ⟨rfl, rfl⟩
  rintro k2 res H2 ⟨rfl, rfl, rfl⟩
  change DS _ _ _ _ _ _ _ _
  refine ds_ent (ent_cellseal 2 0 7 rfl rfl rfl rfl rfl) ?_
  repeat' (first | (apply ds_evC; exact rfl; (with_reducible exact trivial); (with_reducible exact rfl); exact rfl; exact rfl; exact rfl) | apply ds_nil | apply dw_seq2 | apply ds_region | apply dw_ret | apply thenD_n)
  exact ⟨.inl rfl, _, rfl, id, 1, .d (.slice 2 ((rdList rdId r).1.map encId)), rdH (rdList rdId r).2, rfl, ⟨rfl, trivial⟩, rfl, rfl, rfl, rfl, rfl, rfl, rfl, rfl, rfl⟩

/-- The reader, the variable that points to it, a fact whose numbers grow. -/
abbrev fctH (p : Int) (r : Rd) (xs : List Int) : Hp := [(0, rdB r), (1, .blk 113 [.loc 0 0]), (2, .blk 89 [.d (.int .i64 p), .row 3]), (3, .row 3 1 (xs.map encI))]
theorem fctH_snoc (p : Int) (r : Rd) (xs : List Int) (x : Int) : fctH p r (xs ++ [x]) = [(0, rdB r), (1, .blk 113 [.loc 0 0]), (2, .blk 89 [.d (.int .i64 p), .row 3]), (3, .row 3 1 (xs.map encI ++ [encI x]))] := by simp [fctH]
set_option maxHeartbeats 8000000 in
theorem argOne_fn (p : Int) (r : Rd) (xs : List Int) (hx : xs.length ≤ 300) : FnH 79 [.loc 1 0, .loc 2 0] 3 4 (fctH p r xs) (fun k2 res H2 => k2 = 4 ∧ res = .tup [] ∧ H2 = fctH p (tk 4 r).2 (xs ++ [(tk 4 r).1])) := by
  refine fn_enterR _ Try.func79 rfl rfl (by kernel_rfl) ?_
  intro O w0 E0 β0
  have lx : (xs.map encI).length = xs.length := List.length_map _
  repeat' (first | (apply ds_evC; exact rfl; (with_reducible exact trivial); (with_reducible exact rfl); exact rfl; exact rfl; exact rfl) | apply dw_seq2 | apply ds_region)
  (refine ds_callF id (take_fn r 4 (by omega) (by omega)) rfl rfl rfl rfl ⟨rfl, trivial⟩ rfl rfl rfl rfl rfl rfl ?_ ?_)
  · rintro k2 res H2 ⟨rfl, rfl, rfl⟩
    exact ⟨rfl, rfl⟩
  rintro k2 res H2 ⟨rfl, rfl, rfl⟩
  change DS _ _ _ _ _ _ _ _
  rw [fctH_snoc]
  repeat' (first | (apply ds_evC; exact rfl; (with_reducible exact trivial); (with_reducible exact rfl); exact rfl; exact rfl; exact rfl) | apply ds_nil | apply ds_region | apply thenD_n | (apply ds_setC; exact rfl; exact rfl; exact rfl; exact rfl) | (apply ds_bsC; exact rfl; exact rfl; exact rfl; exact rfl) | (apply ds_tradeC; exact rfl; (unfold maxLen; simp <;> omega); exact rfl; exact rfl; exact rfl; exact rfl))
  exact ⟨.inr rfl, _, rfl, fun j => match j with | 3 => 4 | j => j, 4, .tup [], [(0, rdB (tk 4 r).2), (1, .blk 113 [.loc 0 0]), (2, .blk 89 [.d (.int .i64 p), .row 3]), (3, .row 3 1 (xs.map encI ++ [encI (tk 4 r).1]))], rfl, ⟨rfl, rfl, rfl, rfl, trivial⟩, rfl, rfl, rfl, rfl, rfl, rfl, rfl, rfl, rfl⟩

set_option maxHeartbeats 8000000 in
theorem timesArg_fn (p : Int) (r : Rd) : FnH 76 [.loc 0 0, .fn 79 [.loc 1 0, .loc 2 0]] 3 4 (fctH p r []) (fun k2 res H2 => k2 = 4 ∧ res = .tup [] ∧ H2 = fctH p (rdList (tk 4) r).2 (rdList (tk 4) r).1) := by
  refine fn_enterF _ Try.func76 rfl rfl (by kernel_rfl) ?_
  intro O w0 E0 β0
  repeat' (first | (apply ds_evC; exact rfl; (with_reducible exact trivial); (with_reducible exact rfl); exact rfl; exact rfl; exact rfl) | apply dw_seq2 | apply ds_region)
  (refine ds_callF id (take_fn r 1 (by omega) (by omega)) rfl rfl rfl rfl ⟨rfl, trivial⟩ rfl rfl rfl rfl rfl rfl ?_ ?_)
  · rintro k2 res H2 ⟨rfl, rfl, rfl⟩
    exact ⟨rfl, rfl⟩
  rintro k2 res H2 ⟨rfl, rfl, rfl⟩
  change DS _ _ _ _ _ _ _ _
  repeat' (first | (apply ds_evC; exact rfl; (with_reducible exact trivial); (with_reducible exact rfl); exact rfl; exact rfl; exact rfl) | apply ds_nil | apply dw_block | apply thenD_n)
  unfold rdList
  have hN := tk1_small r
  generalize htk : tk 1 r = q at hN
  obtain ⟨n, r1⟩ := q
  dsimp only at hN ⊢
  refine ds_loop (ι := Nat × Rd × List (Int)) (fun x => ⟨4, [(0, .loc 0 0), (1, .fn 79 [.loc 1 0, .loc 2 0]), (4, .d (.int .i64 x.1))], fctH p x.2.1 x.2.2⟩)
    (fun x => x.1 + x.2.2.length ≤ 256 ∧ (rdMany (tk 4) n.toNat r1).1 = x.2.2 ++ (rdMany (tk 4) x.1 x.2.1).1 ∧ (rdMany (tk 4) n.toNat r1).2 = (rdMany (tk 4) x.1 x.2.1).2) (fun x => x.1) (n.toNat, r1, []) ⟨by simp; omega, rfl, rfl⟩ ?_ ?_
  · dsimp only
    rw [Int.toNat_of_nonneg hN.1]
    exact ent_ren id ⟨rfl, rfl, rfl, trivial⟩ ⟨rfl, rfl, rfl, rfl, trivial⟩ rfl rfl rfl rfl rfl rfl
  rintro ⟨m, r2, xs⟩ ⟨g1, g2, g3⟩
  dsimp only at g1 g2 g3 ⊢
  rw [g2, g3]
  cases m with
  | zero =>
    repeat' (first | (apply ds_evC; exact rfl; (with_reducible exact trivial); (with_reducible exact rfl); exact rfl; exact rfl; exact rfl) | (apply ds_skip; exact rfl; exact rfl) | apply ds_nil | apply dw_seq2 | apply ds_region | apply dw_exit | (apply dw_condF; exact rfl) | apply thenD_n | apply thenD_e | (apply inB_e; exact rfl))
    all_goals first
      | (exfalso; omega)
      | exact ⟨.inr rfl, _, rfl, 4, fctH p r2 xs, ⟨rfl, rfl, rfl, rfl, trivial⟩, rfl, rfl, rfl, rfl, rfl, rfl, by simp [rdMany]⟩
  | succ m =>
    cases r2 with
    | none =>
      repeat' (first | (apply ds_evC; exact rfl; (with_reducible exact trivial); (with_reducible exact rfl); exact rfl; exact rfl; exact rfl) | (apply ds_skip; exact rfl; exact rfl) | apply ds_nil | apply dw_seq2 | apply ds_region | apply dw_exit | (apply dw_condF; exact rfl) | apply thenD_n | apply thenD_e | (apply inB_e; exact rfl) | ((fail_if_success (apply ds_known; exact rfl)); apply ds_guardP; exact rfl; exact rfl; exact rfl; all_goals intro hg))
      all_goals first
        | (exfalso; omega)
        | exact ⟨.inr rfl, _, rfl, 4, fctH p none xs, ⟨rfl, rfl, rfl, rfl, trivial⟩, rfl, rfl, rfl, rfl, rfl, rfl, by simp [rdMany]⟩
    | some l =>
      repeat' (first | (apply ds_evC; exact rfl; (with_reducible exact trivial); (with_reducible exact rfl); exact rfl; exact rfl; exact rfl) | (apply ds_skip; exact rfl; exact rfl) | apply ds_nil | apply dw_seq2 | apply ds_region | apply dw_block | apply dw_skip | apply dw_exit | (apply dw_condT; exact rfl) | (apply dw_condF; exact rfl) | apply thenD_n | apply thenD_e | (apply inB_e; exact rfl) | ((fail_if_success (apply ds_known; exact rfl)); apply ds_guardP; exact rfl; exact rfl; exact rfl; all_goals intro hg))
      all_goals try (exfalso; omega)
      refine ds_callVF id (argOne_fn p (some l) xs (by omega)) rfl rfl rfl rfl rfl rfl ⟨rfl, rfl, rfl, rfl, trivial⟩ rfl rfl rfl rfl rfl rfl ?_ ?_
      · rintro k2 res H2 ⟨rfl, rfl, rfl⟩
        exact ⟨rfl, rfl⟩
      rintro k2 res H2 ⟨rfl, rfl, rfl⟩
      change DS _ _ _ _ _ _ _ _
      refine ds_ent (ent_ren (k' := 4) (L' := [(0, .loc 0 0), (1, .fn 79 [.loc 1 0, .loc 2 0]), (4, .d (.int .i64 ((m + 1 : Nat) : Int)))]) (H' := fctH p ((tk 4) (some l)).2 (xs ++ [((tk 4) (some l)).1])) (fun j => match j with | 0 => 0 | 1 => 1 | 2 => 2 | _ => 7) ⟨rfl, rfl, rfl, trivial⟩ ⟨rfl, rfl, rfl, rfl, trivial⟩ rfl rfl rfl rfl rfl rfl) ?_
      repeat' (first | (apply ds_evC; exact rfl; (first | (with_reducible exact trivial) | omega); (with_reducible exact rfl); exact rfl; exact rfl; exact rfl) | apply ds_nil | apply ds_region | apply thenD_n | apply inB_n)
      refine ⟨(m, ((tk 4) (some l)).2, xs ++ [((tk 4) (some l)).1]), ⟨by simp; omega, by simp [rdMany], rfl⟩, ?_, Nat.lt_succ_self m⟩
      dsimp only
      rw [show ((m + 1 : Nat) : Int) - 1 = (m : Int) by omega]
      exact ent_ren id ⟨rfl, rfl, rfl, trivial⟩ ⟨rfl, rfl, rfl, rfl, trivial⟩ rfl rfl rfl rfl rfl rfl


/-- The reader, the variable that points to it, an update whose facts grow. -/
abbrev updB (a n : Int) (ps : List UId) (says takes : SV) : HB := .blk 40 [.d (.int .i64 a), .d (.int .i64 n), .d (.slice 2 (ps.map encId)), says, takes]
abbrev updH (a n : Int) (ps : List UId) (r : Rd) (xs : List Fct) : Hp := [(0, rdB r), (1, .blk 113 [.loc 0 0]), (2, updB a n ps (.row 3) .nils), (3, .row 89 2 (xs.map encFct))]
theorem updH_snoc (a n : Int) (ps : List UId) (r : Rd) (xs : List Fct) (x : Fct) : updH a n ps r (xs ++ [x]) = [(0, rdB r), (1, .blk 113 [.loc 0 0]), (2, updB a n ps (.row 3) .nils), (3, .row 89 2 (xs.map encFct ++ [encFct x]))] := by simp [updH]
set_option maxHeartbeats 8000000 in
theorem fctOne_fn (a n : Int) (ps : List UId) (r : Rd) (xs : List Fct) (hx : xs.length ≤ 300) : FnH 77 [.loc 1 0, .loc 2 0] 3 4 (updH a n ps r xs) (fun k2 res H2 => k2 = 4 ∧ res = .tup [] ∧ H2 = updH a n ps (rdFact r).2 (xs ++ [(rdFact r).1])) := by
  refine fn_enterR _ Try.func77 rfl rfl (by kernel_rfl) ?_
  intro O w0 E0 β0
  have lx : (xs.map encFct).length = xs.length := List.length_map _
  repeat' (first | (apply ds_evC; exact rfl; (with_reducible exact trivial); (with_reducible exact rfl); exact rfl; exact rfl; exact rfl) | apply dw_seq2 | apply ds_region)
  (refine ds_callF id (take_fn r 1 (by omega) (by omega)) rfl rfl rfl rfl ⟨rfl, trivial⟩ rfl rfl rfl rfl rfl rfl ?_ ?_)
  · rintro k2 res H2 ⟨rfl, rfl, rfl⟩
    exact ⟨rfl, rfl⟩
  rintro k2 res H2 ⟨rfl, rfl, rfl⟩
  change DS _ _ _ _ _ _ _ _
  repeat' (first | (apply ds_evC; exact rfl; (with_reducible exact trivial); (with_reducible exact rfl); exact rfl; exact rfl; exact rfl) | apply ds_nil | apply dw_seq2 | apply ds_region | apply thenD_n | (apply ds_newC; exact rfl; (with_reducible exact trivial); exact rfl; exact rfl; exact rfl) | (apply ds_setC; exact rfl; exact rfl; exact rfl; exact rfl))
  refine ds_ent (ent_cellrow 4 1 3 1 rfl rfl rfl) ?_
  refine ds_callF (fun j => match j with | 0 => 0 | 1 => 1 | 2 => 4 | _ => 5) (timesArg_fn (tk 1 r).1 (tk 1 r).2) rfl rfl rfl rfl ⟨rfl, rfl, rfl, rfl, trivial⟩ rfl rfl rfl rfl rfl rfl ?_ ?_
  · rintro k2 res H2 ⟨rfl, rfl, rfl⟩
    exact ⟨rfl, rfl⟩
  rintro k2 res H2 ⟨rfl, rfl, rfl⟩
  change DS _ _ _ _ _ _ _ _
  refine ds_ent (ent_cellseal 4 1 9 rfl rfl rfl rfl rfl) ?_
  rw [updH_snoc]
  repeat' (first | (apply ds_evC; exact rfl; (with_reducible exact trivial); (with_reducible exact rfl); exact rfl; exact rfl; exact rfl) | apply ds_nil | apply ds_region | apply thenD_n | (apply ds_setC; exact rfl; exact rfl; exact rfl; exact rfl) | (apply ds_bsC; exact rfl; exact rfl; exact rfl; exact rfl) | (apply ds_tradeC; exact rfl; (unfold maxLen; simp <;> omega); exact rfl; exact rfl; exact rfl; exact rfl))
  exact ⟨.inr rfl, _, rfl, fun j => match j with | 3 => 10 | j => j, 4, .tup [], [(0, rdB (rdFact r).2), (1, .blk 113 [.loc 0 0]), (2, updB a n ps (.row 3) .nils), (3, .row 89 2 (xs.map encFct ++ [encFct (rdFact r).1]))], rfl, ⟨rfl, rfl, rfl, rfl, trivial⟩, rfl, rfl, rfl, rfl, rfl, rfl, rfl, rfl, rfl⟩

set_option maxHeartbeats 8000000 in
theorem timesFct_fn (a0 n0 : Int) (ps : List UId) (r : Rd) : FnH 76 [.loc 0 0, .fn 77 [.loc 1 0, .loc 2 0]] 3 4 (updH a0 n0 ps r []) (fun k2 res H2 => k2 = 4 ∧ res = .tup [] ∧ H2 = updH a0 n0 ps (rdList rdFact r).2 (rdList rdFact r).1) := by
  refine fn_enterF _ Try.func76 rfl rfl (by kernel_rfl) ?_
  intro O w0 E0 β0
  repeat' (first | (apply ds_evC; exact rfl; (with_reducible exact trivial); (with_reducible exact rfl); exact rfl; exact rfl; exact rfl) | apply dw_seq2 | apply ds_region)
  (refine ds_callF id (take_fn r 1 (by omega) (by omega)) rfl rfl rfl rfl ⟨rfl, trivial⟩ rfl rfl rfl rfl rfl rfl ?_ ?_)
  · rintro k2 res H2 ⟨rfl, rfl, rfl⟩
    exact ⟨rfl, rfl⟩
  rintro k2 res H2 ⟨rfl, rfl, rfl⟩
  change DS _ _ _ _ _ _ _ _
  repeat' (first | (apply ds_evC; exact rfl; (with_reducible exact trivial); (with_reducible exact rfl); exact rfl; exact rfl; exact rfl) | apply ds_nil | apply dw_block | apply thenD_n)
  unfold rdList
  have hN := tk1_small r
  generalize htk : tk 1 r = q at hN
  obtain ⟨n, r1⟩ := q
  dsimp only at hN ⊢
  refine ds_loop (ι := Nat × Rd × List (Fct)) (fun x => ⟨4, [(0, .loc 0 0), (1, .fn 77 [.loc 1 0, .loc 2 0]), (4, .d (.int .i64 x.1))], updH a0 n0 ps x.2.1 x.2.2⟩)
    (fun x => x.1 + x.2.2.length ≤ 256 ∧ (rdMany rdFact n.toNat r1).1 = x.2.2 ++ (rdMany rdFact x.1 x.2.1).1 ∧ (rdMany rdFact n.toNat r1).2 = (rdMany rdFact x.1 x.2.1).2) (fun x => x.1) (n.toNat, r1, []) ⟨by simp; omega, rfl, rfl⟩ ?_ ?_
  · dsimp only
    rw [Int.toNat_of_nonneg hN.1]
    exact ent_ren id ⟨rfl, rfl, rfl, trivial⟩ ⟨rfl, rfl, rfl, rfl, trivial⟩ rfl rfl rfl rfl rfl rfl
  rintro ⟨m, r2, xs⟩ ⟨g1, g2, g3⟩
  dsimp only at g1 g2 g3 ⊢
  rw [g2, g3]
  cases m with
  | zero =>
    repeat' (first | (apply ds_evC; exact rfl; (with_reducible exact trivial); (with_reducible exact rfl); exact rfl; exact rfl; exact rfl) | (apply ds_skip; exact rfl; exact rfl) | apply ds_nil | apply dw_seq2 | apply ds_region | apply dw_exit | (apply dw_condF; exact rfl) | apply thenD_n | apply thenD_e | (apply inB_e; exact rfl))
    all_goals first
      | (exfalso; omega)
      | exact ⟨.inr rfl, _, rfl, 4, updH a0 n0 ps r2 xs, ⟨rfl, rfl, rfl, rfl, trivial⟩, rfl, rfl, rfl, rfl, rfl, rfl, by simp [rdMany]⟩
  | succ m =>
    cases r2 with
    | none =>
      repeat' (first | (apply ds_evC; exact rfl; (with_reducible exact trivial); (with_reducible exact rfl); exact rfl; exact rfl; exact rfl) | (apply ds_skip; exact rfl; exact rfl) | apply ds_nil | apply dw_seq2 | apply ds_region | apply dw_exit | (apply dw_condF; exact rfl) | apply thenD_n | apply thenD_e | (apply inB_e; exact rfl) | ((fail_if_success (apply ds_known; exact rfl)); apply ds_guardP; exact rfl; exact rfl; exact rfl; all_goals intro hg))
      all_goals first
        | (exfalso; omega)
        | exact ⟨.inr rfl, _, rfl, 4, updH a0 n0 ps none xs, ⟨rfl, rfl, rfl, rfl, trivial⟩, rfl, rfl, rfl, rfl, rfl, rfl, by simp [rdMany]⟩
    | some l =>
      repeat' (first | (apply ds_evC; exact rfl; (with_reducible exact trivial); (with_reducible exact rfl); exact rfl; exact rfl; exact rfl) | (apply ds_skip; exact rfl; exact rfl) | apply ds_nil | apply dw_seq2 | apply ds_region | apply dw_block | apply dw_skip | apply dw_exit | (apply dw_condT; exact rfl) | (apply dw_condF; exact rfl) | apply thenD_n | apply thenD_e | (apply inB_e; exact rfl) | ((fail_if_success (apply ds_known; exact rfl)); apply ds_guardP; exact rfl; exact rfl; exact rfl; all_goals intro hg))
      all_goals try (exfalso; omega)
      refine ds_callVF id (fctOne_fn a0 n0 ps (some l) xs (by omega)) rfl rfl rfl rfl rfl rfl ⟨rfl, rfl, rfl, rfl, trivial⟩ rfl rfl rfl rfl rfl rfl ?_ ?_
      · rintro k2 res H2 ⟨rfl, rfl, rfl⟩
        exact ⟨rfl, rfl⟩
      rintro k2 res H2 ⟨rfl, rfl, rfl⟩
      change DS _ _ _ _ _ _ _ _
      refine ds_ent (ent_ren (k' := 4) (L' := [(0, .loc 0 0), (1, .fn 77 [.loc 1 0, .loc 2 0]), (4, .d (.int .i64 ((m + 1 : Nat) : Int)))]) (H' := updH a0 n0 ps (rdFact (some l)).2 (xs ++ [(rdFact (some l)).1])) (fun j => match j with | 0 => 0 | 1 => 1 | 2 => 2 | _ => 7) ⟨rfl, rfl, rfl, trivial⟩ ⟨rfl, rfl, rfl, rfl, trivial⟩ rfl rfl rfl rfl rfl rfl) ?_
      repeat' (first | (apply ds_evC; exact rfl; (first | (with_reducible exact trivial) | omega); (with_reducible exact rfl); exact rfl; exact rfl; exact rfl) | apply ds_nil | apply ds_region | apply thenD_n | apply inB_n)
      refine ⟨(m, (rdFact (some l)).2, xs ++ [(rdFact (some l)).1]), ⟨by simp; omega, by simp [rdMany], rfl⟩, ?_, Nat.lt_succ_self m⟩
      dsimp only
      rw [show ((m + 1 : Nat) : Int) - 1 = (m : Int) by omega]
      exact ent_ren id ⟨rfl, rfl, rfl, trivial⟩ ⟨rfl, rfl, rfl, rfl, trivial⟩ rfl rfl rfl rfl rfl rfl


set_option maxHeartbeats 8000000 in
theorem decode_fn (s : List UInt8) : Fn 21 [.d (.str (strB s))] (fun r => r = .tup [elUpd (decodeU s).1, .d (.int .i64 (decodeU s).2)]) := by
  refine fnp_enter' _ Try.func21 rfl rfl (by kernel_rfl) ?_
  intro O w0 E0 β0
  repeat' (first | (apply ds_evC; exact rfl; (with_reducible exact trivial); (with_reducible exact rfl); exact rfl; exact rfl; exact rfl) | apply ds_nil | apply dw_seq2 | apply ds_region | apply thenD_n | (apply ds_newC; exact rfl; (with_reducible exact trivial); exact rfl; exact rfl; exact rfl) | (apply ds_setC; exact rfl; exact rfl; exact rfl; exact rfl))
  refine ds_ent (ent_ren (k' := 3) (L' := [(2, .loc 2 0), (3, .d (.int .i64 0)), (4, .loc 1 0), (10, .loc 0 0)]) (H' := [(0, rdB (some s)), (1, .blk 113 [.loc 0 0]), (2, .blk 40 [.d (.int .i64 0), .d (.int .i64 0), .nils, .nils, .nils])]) (fun j => match j with | 0 => 1 | 1 => 2 | _ => 0) ⟨rfl, rfl, rfl, rfl, trivial⟩ ⟨rfl, rfl, rfl, trivial⟩ rfl rfl rfl rfl rfl rfl) ?_
  (refine ds_callF id (rdId_fn (some s)) rfl rfl rfl rfl ⟨rfl, trivial⟩ rfl rfl rfl rfl rfl rfl ?_ ?_)
  · rintro k2 res H2 ⟨rfl, rfl, rfl⟩
    exact ⟨rfl, rfl⟩
  rintro k2 res H2 ⟨rfl, rfl, rfl⟩
  change DS _ _ _ _ _ _ _ _
  repeat' (first | (apply ds_evC; exact rfl; (with_reducible exact trivial); (with_reducible exact rfl); exact rfl; exact rfl; exact rfl) | apply ds_nil | apply dw_seq2 | apply ds_region | apply thenD_n | (apply ds_newC; exact rfl; (with_reducible exact trivial); exact rfl; exact rfl; exact rfl) | (apply ds_setC; exact rfl; exact rfl; exact rfl; exact rfl))
  (refine ds_callF id (rdIds_fn (rdId (some s)).2) rfl rfl rfl rfl ⟨rfl, trivial⟩ rfl rfl rfl rfl rfl rfl ?_ ?_)
  · rintro k2 res H2 ⟨rfl, rfl, rfl⟩
    exact ⟨rfl, rfl⟩
  rintro k2 res H2 ⟨rfl, rfl, rfl⟩
  change DS _ _ _ _ _ _ _ _
  repeat' (first | (apply ds_evC; exact rfl; (with_reducible exact trivial); (with_reducible exact rfl); exact rfl; exact rfl; exact rfl) | apply ds_nil | apply dw_seq2 | apply ds_region | apply thenD_n | (apply ds_setC; exact rfl; exact rfl; exact rfl; exact rfl))
  refine ds_ent (ent_cellrow 3 3 89 2 rfl rfl rfl) ?_
  refine ds_callF (fun j => match j with | 0 => 0 | 1 => 1 | 2 => 3 | _ => 4) (timesFct_fn (rdId (some s)).1.author (rdId (some s)).1.number (rdList rdId (rdId (some s)).2).1 (rdList rdId (rdId (some s)).2).2) rfl rfl rfl rfl ⟨rfl, rfl, rfl, rfl, trivial⟩ rfl rfl rfl rfl rfl rfl ?_ ?_
  · rintro k2 res H2 ⟨rfl, rfl, rfl⟩
    exact ⟨rfl, rfl⟩
  rintro k2 res H2 ⟨rfl, rfl, rfl⟩
  change DS _ _ _ _ _ _ _ _
  refine ds_ent (ent_cellseal 3 3 8 rfl rfl rfl rfl rfl) ?_
  repeat' (first | (apply ds_evC; exact rfl; (with_reducible exact trivial); (with_reducible exact rfl); exact rfl; exact rfl; exact rfl) | apply ds_nil | apply dw_seq2 | apply ds_region | apply thenD_n)
  (refine ds_callF id (rdIds_fn (rdList rdFact (rdList rdId (rdId (some s)).2).2).2) rfl rfl rfl rfl ⟨rfl, trivial⟩ rfl rfl rfl rfl rfl rfl ?_ ?_)
  · rintro k2 res H2 ⟨rfl, rfl, rfl⟩
    exact ⟨rfl, rfl⟩
  rintro k2 res H2 ⟨rfl, rfl, rfl⟩
  change DS _ _ _ _ _ _ _ _
  have hu : rdUpd (some s) = (⟨(rdId (some s)).1, (rdList rdId (rdId (some s)).2).1, (rdList rdFact (rdList rdId (rdId (some s)).2).2).1, (rdList rdId (rdList rdFact (rdList rdId (rdId (some s)).2).2).2).1⟩, (rdList rdId (rdList rdFact (rdList rdId (rdId (some s)).2).2).2).2) := rfl
  have hck := checkU_fn ⟨(rdId (some s)).1, (rdList rdId (rdId (some s)).2).1, (rdList rdFact (rdList rdId (rdId (some s)).2).2).1, (rdList rdId (rdList rdFact (rdList rdId (rdId (some s)).2).2).2).1⟩
  have hq : ∀ q : Rd, (q.isNone = true ∨ (q.isNone = false ∧ 0 < ((strB (q.getD [])).size : Int))) → ∀ u : Upd, rdUpd (some s) = (u, q) → decodeU s = (noUpd, 1) := by
    intro q hq u h
    unfold decodeU
    rw [h]
    cases q with
    | none => rfl
    | some l =>
      cases l with
      | nil => rcases hq with hq | ⟨_, hq⟩ <;> simp [strB, ByteArray.size] at hq
      | cons b l => rfl
  have hq2 : ∀ q : Rd, q.isNone = false → ¬ 0 < ((strB (q.getD [])).size : Int) → ∀ u : Upd, rdUpd (some s) = (u, q) → decodeU s = if checkU u = 0 then (u, 0) else (noUpd, checkU u) := by
    intro q h1 h2 u h
    unfold decodeU
    rw [h]
    cases q with
    | none => simp at h1
    | some l =>
      cases l with
      | nil => rfl
      | cons b l => rw [strB_len] at h2; simp at h2
  repeat' (first | (apply ds_evC; exact rfl; (with_reducible exact trivial); (with_reducible exact rfl); exact rfl; exact rfl; exact rfl) | (apply ds_skip; exact rfl; exact rfl) | apply ds_nil | apply dw_seq2 | apply ds_region | apply dw_skip | (apply dw_condT; exact rfl) | apply thenD_n | (apply ds_call; exact rfl; exact rfl; apply hck; exact rfl; (exact rfl); exact rfl; rintro _ rfl) | (apply ds_setC; exact rfl; exact rfl; exact rfl; exact rfl) | (apply dw_condP; exact rfl; all_goals intro hg) | ((fail_if_success (apply ds_known; exact rfl)); apply ds_guardB; exact rfl; exact rfl; exact rfl; all_goals intro hg))
  · refine dw_ent (ent_cellnil 2 2 2 rfl rfl rfl) ?_
    refine dw_ent (ent_cellnil 2 3 2 rfl rfl rfl) ?_
    refine dw_ent (ent_cellnil 2 4 2 rfl rfl rfl) ?_
    repeat' (first | apply dw_ret | apply thenD_r)
    rw [hq _ (.inl hg) _ hu]
    exact ⟨.inl rfl, _, rfl, rfl, rfl⟩
  · refine dw_ent (ent_cellnil 2 2 2 rfl rfl rfl) ?_
    refine dw_ent (ent_cellnil 2 3 2 rfl rfl rfl) ?_
    refine dw_ent (ent_cellnil 2 4 2 rfl rfl rfl) ?_
    repeat' (first | apply dw_ret | apply thenD_r)
    rw [hq _ (.inr ⟨by assumption, by assumption⟩) _ hu]
    exact ⟨.inl rfl, _, rfl, rfl, rfl⟩
  · rw [hq2 _ (by assumption) (by assumption) _ hu, if_neg hg]
    refine dw_ent (ent_cellnil 2 2 2 rfl rfl rfl) ?_
    refine dw_ent (ent_cellnil 2 3 2 rfl rfl rfl) ?_
    refine dw_ent (ent_cellnil 2 4 2 rfl rfl rfl) ?_
    repeat' (first | apply dw_ret | apply thenD_r)
    exact ⟨.inl rfl, _, rfl, rfl, rfl⟩
  · rw [hq2 _ (by assumption) (by assumption) _ hu, if_pos (Decidable.not_not.1 hg)]
    repeat' (apply dw_ret)
    exact ⟨.inl rfl, _, rfl, rfl, rfl⟩
end Go.Proofs.Ytapciiffpnociaa
