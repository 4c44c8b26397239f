/- The document's taker of numbers from bytes. Condition: none. -/
import Derived.Test.YtapciiffpnociaaWirH
namespace Go.Proofs.Ytapciiffpnociaa
open Go Go.RowKit
attribute [local irreducible] DW DS DL DQ Ev FnOk FnP thenD inBlockD DT

abbrev tkB (S : List UInt8) (a : Nat) (bad : Bool) : HB := .blk 128 [.d (.str (strB S)), .d (.int .i64 a), .d (.bool bad)]
abbrev tkH (S : List UInt8) (a : Nat) (bad : Bool) : Hp := [(0, tkB S a bad)]
/-- What the taker has ahead. -/
def rdOf (S : List UInt8) (a : Nat) (bad : Bool) : Rd := if bad then none else some (S.drop a)

theorem leN_snoc : ∀ (l : List UInt8) (b : UInt8), leN (l ++ [b]) = leN l + b.toNat * 256 ^ l.length
  | [], b => by simp [leN]
  | c :: l, b => by
    simp only [List.cons_append, leN, leN_snoc l b, List.length_cons, Nat.pow_succ]
    rw [Nat.mul_add]
    have : 256 * (b.toNat * 256 ^ l.length) = b.toNat * (256 ^ l.length * 256) := by
      rw [Nat.mul_comm (256 ^ l.length) 256, ← Nat.mul_assoc, ← Nat.mul_assoc, Nat.mul_comm 256 b.toNat]
    omega

set_option maxHeartbeats 8000000 in
theorem rtake_fn (S : List UInt8) (a : Nat) (bad : Bool) (k : Nat) (ha : a ≤ S.length) (hk : 1 ≤ k) (hk4 : k ≤ 4) :
    FnH 88 [.loc 0 0, .d (.int .i64 k)] 1 1 (tkH S a bad) (fun k2 res H2 => k2 = 1 ∧ ∃ a' bad', a' ≤ S.length ∧ rdOf S a' bad' = (tk k (rdOf S a bad)).2 ∧ res = .d (.int .i64 (tk k (rdOf S a bad)).1) ∧ H2 = tkH S a' bad') := by
  refine fn_enterR _ Try.func88 rfl rfl (by kernel_rfl) ?_
  intro O w0 E0 β0
  refine dw_strC 0 0 rfl rfl fun hS => ?_
  have hsz := strB_len S
  repeat' (first | (apply ds_evC; exact rfl; (with_reducible exact trivial); (with_reducible exact rfl); exact rfl; exact rfl; exact rfl) | apply ds_nil | (apply dt_ev; exact rfl; exact rfl; (with_reducible exact trivial); (with_reducible exact rfl); exact rfl; exact rfl; exact rfl; exact rfl) | apply dw_seq2 | apply ds_region | (apply dw_any; kernel_rfl; kernel_rfl; exact rfl) | apply thenD_n)
  cases bad with
  | true =>
    repeat' (first | (apply ds_evC; exact rfl; (with_reducible exact trivial); (with_reducible exact rfl); exact rfl; exact rfl; exact rfl) | apply ds_nil | (apply dt_ev; exact rfl; exact rfl; (with_reducible exact trivial); (with_reducible exact rfl); exact rfl; exact rfl; exact rfl; exact rfl) | (apply dt_skipD; exact rfl; exact rfl; exact rfl) | (apply dt_nil0; exact rfl; exact rfl; exact rfl; exact rfl) | apply dw_seq2 | apply ds_region | apply dw_ret | (apply dw_condT; exact rfl) | apply thenD_n | apply thenD_r | (apply ds_setC; exact rfl; exact rfl; exact rfl; exact rfl))
    exact ⟨.inl rfl, _, rfl, id, 1, _, tkH S a true, rfl, ⟨rfl, trivial⟩, rfl, rfl, rfl, rfl, rfl, rfl, rfl, a, true, ha, rfl, rfl, rfl⟩
  | false =>
    have hr : rdOf S a false = some (S.drop a) := rfl
    have hdl : (S.drop a).length = S.length - a := List.length_drop
    rw [hr]
    repeat' (first | (apply dt_ev; exact rfl; exact rfl; (first | (with_reducible exact trivial) | omega); (with_reducible exact rfl); exact rfl; exact rfl; exact rfl; exact rfl) | (apply dt_nil0; exact rfl; exact rfl; exact rfl; exact rfl) | apply thenD_n)
    refine dw_condP rfl (fun h => ?_) (fun h => ?_)
    · have ht : tk k (some (S.drop a)) = (0, none) := by rw [tk_eq, if_pos (by omega)]
      rw [ht]
      repeat' (first | (apply ds_evC; exact rfl; (with_reducible exact trivial); (with_reducible exact rfl); exact rfl; exact rfl; exact rfl) | apply ds_nil | apply dw_seq2 | apply ds_region | apply dw_ret | apply thenD_n | apply thenD_r | (apply ds_setC; exact rfl; exact rfl; exact rfl; exact rfl))
      exact ⟨.inl rfl, _, rfl, id, 1, _, tkH S a true, rfl, ⟨rfl, trivial⟩, rfl, rfl, rfl, rfl, rfl, rfl, rfl, a, true, ha, rfl, rfl, rfl⟩
    · have ht : tk k (some (S.drop a)) = (sgn (leN ((S.drop a).take k)), some ((S.drop a).drop k)) := by rw [tk_eq, if_neg (by omega)]
      have hlt : ((S.drop a).take k).length = k := by rw [List.length_take]; omega
      rw [ht]
      repeat' (first | (apply ds_evC; exact rfl; (with_reducible exact trivial); (with_reducible exact rfl); exact rfl; exact rfl; exact rfl) | apply ds_nil | apply dw_seq2 | apply ds_region | apply dw_block | apply dw_skip | apply thenD_n)
      refine ds_loop (ι := Nat) (fun i => ⟨1, [(0, .loc 0 0), (1, .d (.int .i64 k)), (5, .d (.int .i64 (leN ((S.drop a).take i) : Nat))), (6, .d (.int .i64 ((256 ^ i : Nat) : Int))), (7, .d (.int .i64 i))], tkH S (a + i) false⟩)
        (fun i => i ≤ k) (fun i => k - i) 0 (Nat.zero_le _) (ent_ren id ⟨rfl, rfl, rfl, rfl, rfl, trivial⟩ ⟨rfl, trivial⟩ rfl rfl rfl rfl rfl rfl) ?_
      intro i hi
      have hle := leN_lt ((S.drop a).take i)
      have hil : ((S.drop a).take i).length = i := by rw [List.length_take]; omega
      rw [hil] at hle
      have h256 : 256 ^ i ≤ 4294967296 := Nat.le_trans (Nat.pow_le_pow_right (by omega) (show i ≤ 4 by omega)) (by decide)
      repeat' (first | (apply ds_evC; exact rfl; (with_reducible exact trivial); (with_reducible exact rfl); exact rfl; exact rfl; exact rfl) | apply ds_nil | apply dw_seq2 | apply ds_region | apply thenD_n)
      refine dw_condP rfl (fun h => ?_) (fun h => ?_)
      · have hik : i < k := by omega
        have h3 : 256 ^ i ≤ 16777216 := Nat.le_trans (Nat.pow_le_pow_right (by omega) (show i ≤ 3 by omega)) (by decide)
        have hq : a + i < (strB S).size := by omega
        have hb := ((strB S)[a + i]'hq).toNat_lt
        have hm : ((strB S)[a + i]'hq).toNat * 256 ^ i ≤ 255 * 16777216 := Nat.mul_le_mul (by omega) h3
        have hm2 : ((((strB S)[a + i]'hq).toNat : Nat) : Int) * ((256 ^ i : Nat) : Int) = ((((strB S)[a + i]'hq).toNat * 256 ^ i : Nat) : Int) := rfl
        have hsn : leN ((S.drop a).take (i + 1)) = leN ((S.drop a).take i) + ((strB S)[a + i]'hq).toNat * 256 ^ i := by
          rw [List.take_succ_eq_append_getElem (show i < (S.drop a).length by omega), leN_snoc, hil, strB_at, List.getElem_drop]
        generalize hP : ((strB S)[a + i]'hq).toNat * 256 ^ i = P at hm hm2 hsn
        repeat' (first | (apply ds_evC; exact rfl; (first | (with_reducible exact trivial) | omega); (with_reducible exact rfl); exact rfl; exact rfl; exact rfl) | apply ds_nil | (apply dt_ev; exact rfl; exact rfl; (first | (with_reducible exact trivial) | (with_reducible exact u8_range _) | omega); (first | ((with_reducible apply hv_sat); (exact rfl); omega) | (with_reducible exact rfl)); exact rfl; exact rfl; exact rfl; exact rfl) | (apply dt_nil0; exact rfl; exact rfl; exact rfl; exact rfl) | apply dw_seq2 | apply ds_region | (apply dw_any; kernel_rfl; kernel_rfl; exact rfl) | apply dw_block | apply dw_skip | apply thenD_n | apply inB_n | (apply ds_setC; exact rfl; exact rfl; exact rfl; exact rfl))
        refine ⟨i + 1, hik, ?_, by omega⟩
        dsimp only
        rw [hm2, hsn, show ((256 ^ (i + 1) : Nat) : Int) = ((256 ^ i : Nat) : Int) * 256 by rw [Nat.pow_succ]; rfl]
        exact ent_ren id ⟨rfl, rfl, rfl, rfl, rfl, trivial⟩ ⟨rfl, trivial⟩ rfl rfl rfl rfl rfl rfl
      · have hik : i = k := by omega
        subst hik
        have hlt2 : leN ((S.drop a).take i) < 4294967296 := Nat.lt_of_lt_of_le hle h256
        repeat' (first | (apply ds_evC; exact rfl; (with_reducible exact trivial); (with_reducible exact rfl); exact rfl; exact rfl; exact rfl) | apply ds_nil | apply dw_seq2 | apply ds_region | apply dw_exit | apply thenD_n | apply thenD_e | (apply inB_e; exact rfl))
        refine dw_condP rfl (fun hb => ?_) (fun hb => ?_)
        · repeat' (first | (apply ds_evC; exact rfl; (first | (with_reducible exact trivial) | omega); (with_reducible exact rfl); exact rfl; exact rfl; exact rfl) | apply ds_nil | apply dw_seq2 | apply ds_region | apply dw_ret | apply thenD_n)
          have hs : sgn (leN ((S.drop a).take i)) = (leN ((S.drop a).take i) : Int) - 4294967296 := by unfold sgn; rw [if_pos (by omega)]
          rw [hs]
          exact ⟨.inl rfl, _, rfl, id, 1, _, tkH S (a + i) false, rfl, ⟨rfl, trivial⟩, rfl, rfl, rfl, rfl, rfl, rfl, rfl, a + i, false, by omega, by show some _ = some _; rw [List.drop_drop], rfl, rfl⟩
        · repeat' (first | (apply ds_evC; exact rfl; (with_reducible exact trivial); (with_reducible exact rfl); exact rfl; exact rfl; exact rfl) | apply ds_nil | apply dw_seq2 | apply ds_region | apply dw_skip | apply dw_ret | apply thenD_n)
          have hs : sgn (leN ((S.drop a).take i)) = (leN ((S.drop a).take i) : Int) := by unfold sgn; rw [if_neg (by omega)]
          rw [hs]
          exact ⟨.inl rfl, _, rfl, id, 1, _, tkH S (a + i) false, rfl, ⟨rfl, trivial⟩, rfl, rfl, rfl, rfl, rfl, rfl, rfl, a + i, false, by omega, by show some _ = some _; rw [List.drop_drop], rfl, rfl⟩
end Go.Proofs.Ytapciiffpnociaa
