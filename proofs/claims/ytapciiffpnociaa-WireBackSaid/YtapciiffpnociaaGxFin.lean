/- A plain logic over the walk: calls that are handed owned blocks; a row that is let go. No program is named here. Condition: none. -/
import Derived.Test.YtapciiffpnociaaGxBld
namespace Go.Proofs.Ytapciiffpnociaa
open Go Go.RowKit

section
variable {Γ : Ctx} {k : Nat → Prop} {L : Sl} {H : Hp} {K : Next'} {Q : Post} {ops : List Oper} {rest : List Oper} {a : Act} {w : World} {e : Env} {t t' ty : TypeId} {x y : Operand}

theorem Models.del (m : Models Γ k L H e a w) (i : Nat) : Models Γ k L (Hp.del H i) e a w ∧ ∀ b, Γ.X e (Hp.del H i) b → Γ.X e H b := by
  have hd := Hp.del_mem (i := i) H m.ids
  have hown : ∀ b, b ∈ ownedL e (Hp.del H i) → b ∈ ownedL e H := by
    intro b hb
    obtain ⟨p, hp, ho⟩ := List.mem_filterMap.1 hb
    exact List.mem_filterMap.2 ⟨p, (hd p hp).1, ho⟩
  have hX : ∀ b, Γ.X e (Hp.del H i) b → Γ.X e H b := fun b hx => hx.imp id (hown b)
  refine ⟨⟨⟨m.top, fun p hp => ⟨(m.heap p (hd p hp).1).1, HRel.keep (Nat.le_refl _) (fun _ _ _ => rfl) (fun b _ h => hX b h) p (fun _ _ => rfl) (m.heap p (hd p hp).1).2⟩, Hp.del_ids H m.ids,
    filterMap_nodup _ H m.nodup _ (nodup_of_map (Hp.del_ids H m.ids)) fun p hp => (hd p hp).1, fun b hb => m.mine b (hown b hb), m.os, m.tape, m.output, m.size, m.block, m.obound, m.jle, m.anchor⟩, m.defers, m.len, fun t => ?_⟩, hX⟩
  exact Rel.keep (Nat.le_refl _) (fun _ _ _ => rfl) (fun b _ h => hX b h) _ _ (m.slot t)

/-- A row of ours is let go: from here on it is data. -/
theorem row_data (m : Models Γ k L H e a w) {i es : Nat} {te : TypeId} {xs : List (List D)} (hH : Hp.get H i = some (.row te es xs)) : RepC (Γ.X e (Hp.del H i)) w (e.η i) (.slice es xs) := by
  have hmem := Hp.mem_of hH
  obtain ⟨vs, ho, hxe, hone, hrep⟩ := (m.heap _ hmem).2
  obtain ⟨m2, hX⟩ := m.del i
  have hd := Hp.del_mem (i := i) H m.ids
  rcases ho.2 with ⟨h1, h2⟩ | ⟨g, cap, cur, hv, _, hg, hnc, hcm, hcs, htake⟩
  · have : xs = [] := List.eq_nil_of_length_eq_zero h2
    subst this
    rw [h1]; exact .nil
  · rw [hv]
    have hgm : HB.owned e (i, .row te es xs) = some g := by simp [HB.owned, hv, Value.ownBlock]
    refine .slice (fun i' j => vs.getD (i' * es + j) undef) rfl hnc hcm (fun hx => ?_) (Array.getElem?_eq_some_iff.1 hg).1 hxe (fun i' hi j hj => ?_) (fun i' hi j hj => ?_)
    · rcases hx with hx | hx
      · exact (m.mine g (List.mem_filterMap.2 ⟨_, hmem, hgm⟩)).2 hx
      · obtain ⟨p, hp, hpg⟩ := List.mem_filterMap.1 hx
        exact m.owned_ne (hd p hp).1 hmem (hd p hp).2 hpg hgm
    · obtain ⟨v, p1, p2⟩ := hrep i' hi j hj
      rw [cell_of_row w g _ cur te (0, 0) hg]
      have : (cur.toList.take (xs.length * es))[i' * es + j]? = some v := by rw [htake]; exact p1
      rw [List.getElem?_take] at this
      split at this
      · rw [Array.getElem?_toList] at this; rw [Nat.zero_add, this, List.getD, p1]; rfl
      · cases this
    · obtain ⟨v, p1, p2⟩ := hrep i' hi j hj
      simp only [List.getD, p1, Option.getD_some]
      exact RepC.keep (Nat.le_refl _) (fun _ _ _ => rfl) (fun b _ h => hX b h) p2

end
section
variable {Γ : Ctx} {k : Nat} {L : Sl} {H : Hp} {K : Next'} {Q : Post} {ops : List Oper} {rest : List Oper} {a : Act} {w : World} {e : Env} {t t' ty : TypeId} {x y : Operand}
theorem dw_seal {c : Code} {i es : Nat} {te : TypeId} {xs : List (List D)} (t : Nat) (hL : L.get t = .row i) (hH : Hp.get H i = some (.row te es xs)) (hk : DW Γ c Q k ((t, .d (.slice es xs)) :: L) (Hp.del H i)) : DW Γ c Q k L H := by
  intro e a w m
  obtain ⟨m2, _⟩ := m.del i
  refine hk e a w ⟨m2.toHeap, m2.defers, m2.len, fun t' => ?_⟩
  rw [Sl.get_cons]
  split
  · rename_i ht
    subst ht
    have hs := m.slot t
    rw [hL] at hs
    rw [hs.2.1]
    exact row_data m hH
  · exact m2.slot t'

/-- A nil slice is data without elements. -/
theorem dw_nild {c : Code} (t es : Nat) (hL : L.get t = .nils) (hk : DW Γ c Q k ((t, .d (.slice es [])) :: L) H) : DW Γ c Q k L H := by
  intro e a w m
  refine hk e a w ⟨m.toHeap, m.defers, m.len, fun t' => ?_⟩
  rw [Sl.get_cons]
  split
  · rename_i ht
    subst ht
    have hs := m.slot t
    rw [hL] at hs
    rw [hs]
    exact .nil
  · exact m.slot t'

end
section
variable {Γ : Ctx} {k : Nat → Prop} {L : Sl} {H : Hp} {K : Next'} {Q : Post} {ops : List Oper} {rest : List Oper} {a : Act} {w : World} {e : Env} {t t' ty : TypeId} {x y : Operand}
/-- Strings cut. -/
theorem ev_slice_str {s : ByteArray} {n m' : Int} {lo hi : Operand} (ht : Γ.sh t = .str) (hx : opSV L x = .d (.str s)) (hxo : opOkB x = true) (hl : opSV L lo = .d (.int .i64 n)) (hh : opSV L hi = .d (.int .i64 m')) (h0 : 0 ≤ n) (h1 : n ≤ m') (h2 : m' ≤ s.size) :
    Ev Γ k L H (.slice t x (some lo) (some hi) none) ty (.d (.str (s.extract n.toNat m'.toNat))) := by
  intro e a w m
  have hs : s.size ≤ maxLen := by
    have hr := m.op x (opOkB_spec hxo)
    rw [hx] at hr
    generalize a.eval x = v at hr
    cases hr; assumption
  refine ⟨.string (s.extract n.toNat m'.toNat), fun _ _ _ _ w' _ => ?_, .str (by simp [ByteArray.size_extract]; omega)⟩
  have h3 : 0 ≤ m' := by omega
  have h4 : n ≤ (m'.toNat : Int) := by omega
  simp [execOp, Instr.sliceAt, Instr.slice, Instr.sliceBounds, Instr.sliceBound, evS m hx, evI m hl, evI m hh, asIntOf, run_underlying (Ctx.str ht), h0, h2, h3]
  intro hc
  omega
theorem nat_add_lit (a b : Nat) : (a : Int) + (b : Int) = ((a + b : Nat) : Int) := rfl
theorem nat_add_1 (a : Nat) : (a : Int) + 1 = ((a + 1 : Nat) : Int) := rfl
theorem nat_add_2 (a : Nat) : (a : Int) + 2 = ((a + 2 : Nat) : Int) := rfl
theorem nat_lit_0 : (0 : Int) = ((0 : Nat) : Int) := rfl
theorem nat_lit_1 : (1 : Int) = ((1 : Nat) : Int) := rfl
theorem ev_slice_strN {s : ByteArray} {n m' : Int} {i j : Nat} {lo hi : Operand} (ht : Γ.sh t = .str) (hx : opSV L x = .d (.str s)) (hxo : opOkB x = true) (hl : opSV L lo = .d (.int .i64 n)) (hh : opSV L hi = .d (.int .i64 m')) (hn : n = (i : Int)) (hm : m' = (j : Int)) (h1 : i ≤ j) (h2 : j ≤ s.size) :
    Ev Γ k L H (.slice t x (some lo) (some hi) none) ty (.d (.str (s.extract i j))) := by
  subst hn; subst hm
  have := ev_slice_str (Γ := Γ) (k := k) (L := L) (H := H) (ty := ty) (t := t) (x := x) (lo := lo) (hi := hi) ht hx hxo hl hh (by omega) (by omega) (by omega)
  simpa using this
theorem ev_slice_str_lo {s : ByteArray} {n : Int} {lo : Operand} (ht : Γ.sh t = .str) (hx : opSV L x = .d (.str s)) (hxo : opOkB x = true) (hl : opSV L lo = .d (.int .i64 n)) (h0 : 0 ≤ n) (h1 : n ≤ s.size) :
    Ev Γ k L H (.slice t x (some lo) none none) ty (.d (.str (s.extract n.toNat s.size))) := by
  intro e a w m
  have hs : s.size ≤ maxLen := by
    have hr := m.op x (opOkB_spec hxo)
    rw [hx] at hr
    generalize a.eval x = v at hr
    cases hr; assumption
  refine ⟨.string (s.extract n.toNat s.size), fun _ _ _ _ w' _ => ?_, .str (by simp [ByteArray.size_extract]; omega)⟩
  simp [execOp, Instr.sliceAt, Instr.slice, Instr.sliceBounds, Instr.sliceBound, evS m hx, evI m hl, asIntOf, run_underlying (Ctx.str ht), h0, h1]

/-- Bytes and ints. -/
theorem ev_conv_u8 {n : Int} {td : TypeId} (ht : Γ.sh t = .int .u8) (hd : Γ.sh td = .int .i64) (hx : opSV L x = .d (.int .u8 n)) (hb : 0 ≤ n ∧ n ≤ 255) : Ev Γ k L H (.convert t td x) ty (.d (.int .i64 n)) := by
  intro e a w m
  have h1 : Γ.P.underlying t = some (.int .u8) := by
    obtain ⟨u, inf, z, h1, _, _, h4, _⟩ := ti_parts (Γ.ti (by rw [ht]; intro h; cases h))
    rw [h1]
    have : shOf Γ.P u = .int .u8 := h4 ▸ ht
    cases u <;> simp [shOf] at this ⊢
    exact this
  have h2 : Γ.P.underlying td = some (.int .i64) := by
    obtain ⟨u, inf, z, h1, _, _, h4, _⟩ := ti_parts (Γ.ti (by rw [hd]; intro h; cases h))
    rw [h1]
    have : shOf Γ.P u = .int .i64 := h4 ▸ hd
    cases u <;> simp [shOf] at this ⊢
    exact this
  have hw : -9223372036854775808 ≤ n ∧ n ≤ 9223372036854775807 := by omega
  refine ⟨.int .i64 n, fun _ _ _ _ w' _ => ?_, .int (WalkArith.wf_i64 hw)⟩
  simp [execOp, Go.convert, evI m hx, run_underlying h1, run_underlying h2, Conv.intToInt, IntWalk.i64_in n hw]

theorem ev_conv_byte {c : UInt8} {td : TypeId} (ht : Γ.sh t = .int .u8) (hd : Γ.sh td = .int .i64) (hx : opSV L x = .d (.int .u8 (c.toNat : Int))) : Ev Γ k L H (.convert t td x) ty (.d (.int .i64 (c.toNat : Int))) :=
  ev_conv_u8 ht hd hx (by have := c.toNat_lt; omega)
theorem ev_index_byte {s : ByteArray} {n : Int} {j : Nat} (ht : Γ.sh t = .str) (hx : opSV L x = .d (.str s)) (hy : opSV L y = .d (.int .i64 n)) (hn : n = (j : Int)) (h1 : j < s.size) :
    Ev Γ k L H (.index t x y) ty (.d (.int .u8 ((s[j]'h1).toNat : Int))) := by
  subst hn
  have := ev_index_str (Γ := Γ) (k := k) (L := L) (H := H) (ty := ty) (t := t) (x := x) (y := y) ht hx hy (by omega) (by simpa using h1)
  simpa using this
end
section
variable {Γ : Ctx} {k : Nat} {L : Sl} {H : Hp} {K : Next'} {Q : Post} {ops : List Oper} {rest : List Oper} {a : Act} {w : World} {e : Env} {t t' ty : TypeId} {x y : Operand}
theorem ds_of_dl (h : DL Γ ops rest K k L H) : DS false Γ ops rest K k L H := h
theorem dl_of_ds (h : DS false Γ ops rest K k L H) : DL Γ ops rest K k L H := h
end
end Go.Proofs.Ytapciiffpnociaa
