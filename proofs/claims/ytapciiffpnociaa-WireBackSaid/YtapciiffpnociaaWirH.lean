/- The program's reader of bytes. Condition: none. -/
import Derived.Test.YtapciiffpnociaaWirF
namespace Go.Proofs.Ytapciiffpnociaa
open Go Go.RowKit
attribute [local irreducible] DW DS DL DQ Ev FnOk FnP thenD inBlockD DT

abbrev rdB (r : Rd) : HB := .blk 115 [.d (.str (strB (r.getD []))), .d (.bool r.isNone)]
abbrev rdH (r : Rd) : Hp := [(0, rdB r)]

theorem strB_at (l : List UInt8) (n : Nat) (h : n < (strB l).size) : (strB l)[n]'h = l[n]'(by simpa [strB, ByteArray.size] using h) := by simp [strB, ByteArray.getElem_eq_getElem_data]
theorem strB_len (l : List UInt8) : (strB l).size = l.length := by simp [strB, ByteArray.size]
theorem strB_drop (l : List UInt8) (k : Nat) : (strB l).extract k (strB l).size = strB (l.drop k) := by
  rw [strB_len]
  apply ByteArray.ext
  apply Array.ext'
  simp only [strB, ByteArray.data_extract, Array.toList_extract, List.extract_eq_take_drop]
  exact List.take_of_length_le (by simp)
theorem or_nat (u b : Nat) (hb : b < 256) : 256 * u ||| b = 256 * u + b := by
  have : u <<< 8 + b = u <<< 8 ||| b := Nat.shiftLeft_add_eq_or_of_lt hb u
  rw [Nat.shiftLeft_eq, Nat.mul_comm] at this
  exact this.symm
theorem or_byte (u : Nat) (b : UInt8) (hu : u < 16777216) : orN .u32 (shlN .u32 (u : Int) 8) (b.toNat : Int) = ((b.toNat + 256 * u : Nat) : Int) := by
  have hb := b.toNat_lt
  have e1 : shlN .u32 (u : Int) 8 = ((256 * u : Nat) : Int) := by
    unfold shlN
    rw [IntKind.wrap_u32]
    show ((u : Int) * 256) % 4294967296 = _
    omega
  rw [e1]
  unfold orN
  have e4 : ((2 ^ IntKind.u32.bits : Nat) : Int) = 4294967296 := rfl
  rw [e4]
  clear e4 e1
  have e2 : ((((256 * u : Nat) : Int) % 4294967296).toNat ||| (((b.toNat : Nat) : Int) % 4294967296).toNat : Nat) = 256 * u + b.toNat := by
    rw [show ((((256 * u : Nat) : Int) % 4294967296).toNat) = 256 * u by omega, show ((((b.toNat : Nat) : Int) % 4294967296).toNat) = b.toNat by omega]
    exact or_nat u b.toNat hb
  rw [e2, IntKind.wrap_u32]
  omega
theorem wrap_byte (b : UInt8) : IntKind.u32.wrap (b.toNat : Int) = b.toNat := by
  have := b.toNat_lt
  rw [IntKind.wrap_u32]; omega
theorem wrap_sgn (n : Nat) (h : n < 4294967296) : IntKind.i32.wrap (n : Int) = sgn n := by
  rw [IntKind.wrap_i32]
  unfold sgn
  split <;> omega
theorem sgn_range (n : Nat) (h : n < 4294967296) : -2147483648 ≤ sgn n ∧ sgn n ≤ 2147483647 := by
  unfold sgn
  split <;> omega
theorem leN_drop (l : List UInt8) (j : Nat) (h : j < l.length) : leN (l.drop j) = l[j].toNat + 256 * leN (l.drop (j + 1)) := by
  rw [List.drop_eq_getElem_cons h, leN]

set_option maxHeartbeats 8000000 in
theorem take_fn (r : Rd) (k : Nat) (hk : 1 ≤ k) (hk4 : k ≤ 4) : FnH 78 [.loc 0 0, .d (.int .i64 k)] 1 1 (rdH r) (fun k2 res H2 => k2 = 1 ∧ res = .d (.int .i64 (tk k r).1) ∧ H2 = rdH (tk k r).2) := by
  refine fn_enterF _ Try.func78 rfl rfl (by kernel_rfl) ?_
  intro O w0 E0 β0
  have hsz := strB_len (r.getD [])
  repeat' (first | (apply ds_evC; exact rfl; (with_reducible exact trivial); (with_reducible exact rfl); exact rfl; exact rfl; exact rfl) | apply ds_nil | apply dw_seq2 | apply ds_region | apply thenD_n)
  refine dw_condP rfl (fun h => ?_) (fun h => ?_)
  · have ht : tk k r = (0, none) := by
      cases r with
      | none => rfl
      | some l => rw [tk_eq, if_pos (by have := h; rw [strB_len] at this; simpa using this)]
    repeat' (first | (apply ds_evC; exact rfl; (with_reducible exact trivial); (with_reducible exact rfl); exact rfl; exact rfl; exact rfl) | apply ds_nil | apply dw_seq2 | apply ds_region | apply dw_ret | apply thenD_n | apply thenD_r | (apply ds_setC; exact rfl; exact rfl; exact rfl; exact rfl))
    rw [ht]
    exact ⟨.inl rfl, _, rfl, 1, rdH none, ⟨rfl, trivial⟩, rfl, rfl, rfl, rfl, rfl, rfl, rfl⟩
  · cases r with
    | none => exfalso; have := h; rw [strB_len] at this; simp at this; omega
    | some l =>
      have hl : k ≤ l.length := by have := h; rw [strB_len] at this; simp at this; omega
      have ht : tk k (some l) = (sgn (leN (l.take k)), some (l.drop k)) := by rw [tk_eq, if_neg (by omega)]
      have hlt : (l.take k).length = k := by rw [List.length_take]; omega
      have hle := leN_lt (l.take k)
      rw [hlt] at hle
      have h256 : 256 ^ k ≤ 4294967296 := Nat.le_trans (Nat.pow_le_pow_right (by omega) hk4) (by decide)
      rw [ht]
      change DW _ _ _ _ _ [(0, .blk 115 [.d (.str (strB l)), .d (.bool false)])]
      have hsz : (strB l).size = l.length := strB_len l
      repeat' (first | (apply ds_evC; exact rfl; (first | (with_reducible exact trivial) | omega); (with_reducible exact rfl); exact rfl; exact rfl; exact rfl) | apply ds_nil | apply dw_seq2 | apply ds_region | apply dw_block | apply dw_skip | apply thenD_n)
      refine ds_loop (ι := Nat) (fun j => ⟨1, [(0, .loc 0 0), (1, .d (.int .i64 k)), (5, .d (.int .u32 (leN ((l.take k).drop j) : Nat))), (6, .d (.int .i64 ((j : Int) - 1)))], [(0, .blk 115 [.d (.str (strB l)), .d (.bool false)])]⟩)
        (fun j => j ≤ k) (fun j => j) k (Nat.le_refl _) ?_ ?_
      · rw [List.drop_of_length_le (by omega)]
        exact ent_ren id ⟨rfl, rfl, rfl, rfl, trivial⟩ ⟨rfl, trivial⟩ rfl rfl rfl rfl rfl rfl
      intro j hj
      repeat' (first | (apply ds_evC; exact rfl; (with_reducible exact trivial); (with_reducible exact rfl); exact rfl; exact rfl; exact rfl) | apply ds_nil | apply dw_seq2 | apply ds_region | apply thenD_n)
      refine dw_condP rfl (fun h => ?_) (fun h => ?_)
      · have hjk : j - 1 < (l.take k).length := by omega
        have hd := leN_drop (l.take k) (j - 1) hjk
        rw [show j - 1 + 1 = j by omega] at hd
        have hu : leN ((l.take k).drop j) < 16777216 := by
          have := leN_lt ((l.take k).drop j)
          rw [List.length_drop, hlt] at this
          exact Nat.lt_of_lt_of_le this (Nat.le_trans (Nat.pow_le_pow_right (by omega) (show k - j ≤ 3 by omega)) (by decide))
        have hb : ∀ hq : ((j : Int) - 1).toNat < (strB l).size, (strB l)[((j : Int) - 1).toNat]'hq = (l.take k)[j - 1] := by
          intro hq
          rw [strB_at, List.getElem_take]
          congr 1
          omega
        repeat' (first | (apply ds_evC; exact rfl; (first | (with_reducible exact trivial) | omega); (first | ((with_reducible apply hv_sat); (exact (Int.toNat_of_nonneg (by omega)).symm); omega) | (with_reducible exact rfl)); exact rfl; exact rfl; exact rfl) | apply ds_nil | apply dw_seq2 | apply ds_region | apply dw_block | apply dw_skip | apply thenD_n | apply inB_n)
        refine ⟨j - 1, by omega, ?_, by omega⟩
        dsimp only
        rw [hb _, wrap_byte, or_byte _ _ hu, ← hd, show (j : Int) - 1 - 1 = ((j - 1 : Nat) : Int) - 1 by omega]
        exact ent_ren id ⟨rfl, rfl, rfl, rfl, trivial⟩ ⟨rfl, trivial⟩ rfl rfl rfl rfl rfl rfl
      · have hj0 : j = 0 := by omega
        subst hj0
        rw [List.drop_zero]
        have hw := wrap_sgn (leN (l.take k)) (by omega)
        have hr := sgn_range (leN (l.take k)) (by omega)
        rw [← hw] at hr
        repeat' (first | (apply ds_evC; exact rfl; (first | (with_reducible exact trivial) | omega); (first | ((with_reducible apply hv_ext); (exact rfl); (exact rfl)) | (with_reducible exact rfl)); exact rfl; exact rfl; exact rfl) | apply ds_nil | apply dw_seq2 | apply ds_region | apply dw_exit | apply dw_ret | apply thenD_n | apply thenD_e | (apply inB_e; exact rfl) | (apply ds_setC; exact rfl; exact rfl; exact rfl; exact rfl))
        rw [strB_drop, hw]
        exact ⟨.inl rfl, _, rfl, 1, rdH (some (l.drop k)), ⟨rfl, trivial⟩, rfl, rfl, rfl, rfl, rfl, rfl, rfl⟩
end Go.Proofs.Ytapciiffpnociaa
