/- Several texts in one: GxItr RelV RelX RelB. Condition: none. -/
import Derived.Test.YtapciiffpnociaaB13
import Derived.Test.YtapciiffpnociaaB11
import Derived.Test.YtapciiffpnociaaB12
import Derived.Test.YtapciiffpnociaaB10

/- A plain logic over the walk: iterators. No program is named here. Condition: none. -/
namespace Go.Proofs.Ytapciiffpnociaa
open Go Go.RowKit

/-- Slots that say the same in every world. -/
def SV.flat : SV → Bool
  | .val _ => true
  | .junk => true
  | .d (.int _ _) => true
  | .d (.bool _) => true
  | _ => false
theorem Rel.flat {X e w X' e' w'} : ∀ (s : SV) (v : Value), s.flat = true → Rel X e w s v → Rel X' e' w' s v
  | .val _, _, _, h => h
  | .junk, _, _, _ => trivial
  | .d (.int _ _), _, _, h => by
    have h' : RepC _ _ _ _ := h
    cases h' with
    | int g => exact RepC.int g
  | .d (.bool _), _, _, h => by
    have h : RepC _ _ _ _ := h
    cases h
    exact RepC.bool
  | .d (.str _), _, h, _ => nomatch h
  | .d (.slice _ _), _, h, _ => nomatch h
  | .nils, _, h, _ => nomatch h
  | .pd _, _, h, _ => nomatch h
  | .loc _ _, _, h, _ => nomatch h
  | .row _, _, h, _ => nomatch h
  | .prow _ _ _ _, _, h, _ => nomatch h
  | .sl _ _ _ _, _, h, _ => nomatch h
  | .rsl _ _ _ _, _, h, _ => nomatch h
  | .fn _ _, _, h, _ => nomatch h
  | .agg _, _, h, _ => nomatch h
  | .tup _, _, h, _ => nomatch h
def flatB : Sl → Bool
  | [] => true
  | (_, s) :: r => s.flat && flatB r
theorem flat_get : ∀ {L : Sl}, flatB L = true → ∀ t, (L.get t).flat = true
  | [], _, _ => rfl
  | (d, s) :: r, h, t => by
    simp only [flatB, Bool.and_eq_true] at h
    rw [Sl.get_cons]
    split
    · exact h.1
    · exact flat_get h.2 t
theorem kepts_get {L : Sl} : ∀ {L' : Sl}, Kepts L L' → ∀ t, L'.get t = .junk ∨ L'.get t = L.get t
  | [], _, _ => .inl rfl
  | (d, s) :: r, h, t => by
    rw [Sl.get_cons]
    split
    · rename_i hd; subst hd; exact .inr h.1.symm
    · exact kepts_get h.2 t

/-- An activation, whatever the world is. -/
structure Flat (N : Nat) (L : Sl) (a : Act) : Prop where
  len : a.tmps.size = N
  defers : a.defers = []
  slot : ∀ t X e w, Rel X e w (L.get t) (a.tmps.getD t undef)

abbrev Γit (P : Program) (τ : List (Nat × TI)) (τok : TabOk P τ) (O : Nat → Prop) (W : World) (N : Nat) : Ctx := ⟨P, τ, τok, O, W, fun _ => False, N, 0, fun _ => 0, none, noPan, false, false⟩

section
variable {P : Program} {τ : List (Nat × TI)} {τok : TabOk P τ} {O : Nat → Prop} {N : Nat} {L : Sl}
theorem Flat.models {a : Act} (h : Flat N L a) (W : World) (hO : ∀ b, O b → b < W.heap.size) : Models (Γit P τ τok O W N) (lo 0) L [] ⟨fun _ => 0, fun _ => undef, lo 0⟩ a W where
  top _ := Iff.rfl
  heap _ hp := nomatch hp
  ids := .nil
  nodup := .nil
  mine _ hb := nomatch hb
  os := rfl
  tape := rfl
  output := rfl
  drawn h := nomatch h
  size := Nat.le_refl _
  block _ _ _ := rfl
  obound b hb := ⟨hO b hb, id⟩
  jle _ hj := nomatch hj
  anchor _ hj := nomatch hj
  defers := by rw [h.defers]; exact Marks.nil
  len := h.len
  slot t := h.slot t _ _ _

theorem Models.flatten {W : World} {k : Nat → Prop} {H : Hp} {e : Env} {a : Act} {w : World} (m : Models (Γit P τ τok O W N) k L H e a w) {Ls : Sl} (hK : Kepts L Ls) (hf : flatB Ls = true) : Flat N Ls a where
  len := m.len
  defers := by
    obtain ⟨rs, h1, h0, _⟩ := m.defers
    rw [h1, h0 rfl]; rfl
  slot t X e' w' := by
    have hg := flat_get hf t
    rcases kepts_get hK t with h | h
    · rw [h]; trivial
    · rw [h] at hg ⊢; exact Rel.flat _ _ hg (m.slot t)

theorem Heap.it_below {W : World} {k : Nat → Prop} {H : Hp} {e : Env} {w : World} (h : Heap (Γit P τ τok O W N) k H e w) : Below W.heap.size W w := ⟨h.os, h.tape, h.output, h.size, fun b hb => h.block b hb id⟩
end

section
variable {Γ : Ctx} {k : Nat} {L : Sl} {H : Hp} {K : Next'} {ops : List Oper} {rest : List Oper} {x y : Operand} {t ty : TypeId}
theorem ev_val {op : Op} {s : SV} (L2 : Sl) (hm : ∀ e a w, Models Γ (lo k) L H e a w → Models Γ (lo k) L2 H e a w) (h : Ev Γ (lo k) L2 H op ty s) : Ev Γ (lo k) L H op ty s := fun e a w m => h e a w (hm e a w m)
theorem Models.val_as {e : Env} {a : Act} {w : World} {k : Nat → Prop} (m : Models Γ k L H e a w) (t : Nat) {v : Value} {s : SV} (hv : L.get t = .val v) (hr : Rel (Γ.X e H) e w s v) : Models Γ k ((t, s) :: L) H e a w where
  toHeap := m.toHeap
  defers := m.defers
  len := m.len
  slot t' := by
    rw [Sl.get_cons]
    split
    · rename_i h
      subst h
      have h1 := m.slot t
      rw [hv] at h1
      have h1 : a.tmps.getD t undef = v := h1
      rw [h1]; exact hr
    · exact m.slot t'

theorem ev_fa_val {s : TypeId} {f off fty sz b o : Nat} {l} (hs : Γ.sh s = .struct l) (hf : l[f]? = some (off, fty, sz)) (hz : Nat.beq sz 0 = false) (t : Nat) (hx : L.get t = .val (.pointer (some ⟨b, o, none⟩))) :
    Ev Γ (lo k) L H (.fieldAddr s (.tmp t) f) ty (.val (.pointer (some ⟨b, o + off, none⟩))) := by
  obtain ⟨fs, hu, hl⟩ := Ctx.struct hs
  subst hl
  rw [List.getElem?_map] at hf
  cases hff : fs.toList[f]? with
  | none => rw [hff] at hf; cases hf
  | some fd =>
    rw [hff] at hf
    simp only [Option.map_some, Option.some.injEq, Prod.mk.injEq] at hf
    obtain ⟨h1, h2, h3⟩ := hf
    have hfa : fs[f]? = some fd := by rw [← Array.getElem?_toList]; exact hff
    have hinf : ∃ inf, Γ.P.info? fd.type = some inf ∧ inf.size ≠ 0 := by
      cases hi : Γ.P.info? fd.type with
      | none => rw [hi] at h3; exact absurd h3.symm (Nat.ne_of_beq_eq_false hz)
      | some inf => rw [hi] at h3; exact ⟨inf, rfl, fun h => Nat.ne_of_beq_eq_false hz (by rw [← h3, ← h]; rfl)⟩
    obtain ⟨inf, hi, hne⟩ := hinf
    intro e A w m
    have hA : A.eval (.tmp t) = .pointer (some ⟨b, o, none⟩) := by
      have h1 := m.slot t
      rw [hx] at h1
      exact h1
    refine ⟨_, fun dst pos after guard w' _ => ?_, rfl⟩
    simp [execOp, Instr.fieldAt, hA, run_underlying hu, hfa, Instr.sureAddr, fieldPlace, run_sizeOf hi, hne, h1, Addr.add_at]

theorem ev_ld_val {b o : Nat} {u : Value} (t2 : Nat) (hkn : (Γ.sh t).known = true) (hg : (Γ.sh t).isAgg = false) (hx : L.get t2 = .val (.pointer (some ⟨b, o, none⟩))) (hc : Γ.w0.cell? ⟨b, o, none⟩ = some u) (hE : ∀ b, ¬ Γ.E0 b) :
    Ev Γ (lo k) L H (.load t (.tmp t2)) ty (.val u) := by
  intro e a w m
  have ho := Sh.known_ne hkn
  have hv : a.eval (.tmp t2) = .pointer (some ⟨b, o, none⟩) := by
    have h1 := m.slot t2
    rw [hx] at h1
    exact h1
  have hb : b < Γ.w0.heap.size := by
    unfold World.cell? at hc
    split at hc
    · rename_i hh; exact lt_of_heap hh
    · cases hc
  have hcw : w.cell? ⟨b, o, none⟩ = some u := (World.cell?_of_block (w := Γ.w0) (m.block b hb (hE b))).trans hc
  exact ⟨u, fun _ _ _ _ w' hw => run_load1 ho hg hv (cell_below hw hcw) _ _ _ _, rfl⟩

theorem ev_len_val {t' : TypeId} {ao : Option Addr} {n : Nat} {cap : Nat} (t2 : Nat) (ht : Γ.sh t = .slice t') (hx : L.get t2 = .val (.slice ao n cap)) (hn : n ≤ maxLen) : Ev Γ (lo k) L H (.call { callee := .builtin .len, args := #[.tmp t2], argTypes := #[t] }) ty (.d (.int .i64 n)) := by
  intro e a w m
  have hv : a.eval (.tmp t2) = .slice ao n cap := by
    have h1 := m.slot t2
    rw [hx] at h1
    exact h1
  refine ⟨.int .i64 n, fun _ _ _ _ w' _ => ?_, .int (WalkArith.wf_i64 (by unfold maxLen at hn; omega))⟩
  simp [execOp, resolve, invoke, builtin, hv, Builtin.len_, goInt, run_underlying (Ctx.slice ht)]
end

/-! The raw walk around a call of yield. -/
theorem Oper.wp_in2 {ro : Option Nat} {P : Program} {o : Oper} {a : Act} {w : World} {K K' : Act → World → Prop} {Q Q' : Exit → Act → World → Prop} (hd : ∀ c, o.op ≠ .defer c) (hK : ∀ a w, K a w → K' a w)
    (hQ : ∀ c a w, Q (.panic c) a w → Q' (.panic c) a w) (hL : ¬ LetsOut Q) (h : o.wp P a w K Q) : o.wpIn (wideR ro) 0 P a w K' Q' := by
  refine ⟨fun _ _ => trivial, ?_⟩
  rw [Oper.semAt_eq _ _ _ hd]
  unfold Oper.wp at h
  generalize (execOp a.eval o).run P w = r at h
  cases r with
  | ok x w' =>
    cases x <;> simp only [Oper.upon, Oper.uponIn] at h ⊢ <;> first
      | exact hK _ _ h
      | exact h.elim
      | exact ⟨depth_wideR, callsIn_wideR (h.mono fun e w'' he => by cases e <;> first | exact hK _ _ he | exact hQ _ _ _ he | exact absurd he hL)⟩
      | exact ⟨depth_wideR, fun c cs _ => let ⟨v, w'', r, s⟩ := h c cs; ⟨v, w'', hK _ _ r, stepsIn_wide.2 s⟩⟩
  | halt x w' => cases x <;> simp only [Oper.upon, Oper.uponIn] at h ⊢ <;> first | exact hQ _ _ _ h | exact h

theorem wpList_app {ro : Option Nat} {P : Program} {ops : Array Oper} {Q Q' : Exit → Act → World → Prop} (hQ : ∀ c a w, Q (.panic c) a w → Q' (.panic c) a w) (hL : ¬ LetsOut Q) (post : List Oper)
    (hn : ∀ a w, Q .normal a w → wpListIn (wideR ro) 0 P ops Q' post a w) : ∀ (l : List Oper), noDefer l = true → ∀ a w, wpList P ops Q l a w → wpListIn (wideR ro) 0 P ops Q' (l ++ post) a w
  | [], _, a, w, h => hn a w h
  | o :: l, hd, a, w, h => by
    have hd1 := noDefer_spec hd o (List.mem_cons_self ..)
    have hd2 : noDefer l = true := by simp only [noDefer, Bool.and_eq_true] at hd; exact hd.2
    unfold wpList at h
    show wpListIn (wideR ro) 0 P ops Q' (o :: (l ++ post)) a w
    unfold wpListIn
    split at h
    · rename_i hw
      rw [if_pos hw]
      rcases h with h | h
      · exact Oper.wp_in2 hd1 (fun a w => wpList_app hQ hL post hn l hd2 a w) hQ hL h
      · exact absurd h.2 hL
    · rename_i hw
      rw [if_neg hw]
      exact ⟨fun _ _ => trivial, wpList_app hQ hL post hn l hd2 _ _ h⟩

/-- Code, walked to an end that is told raw. -/
def DWr (Γ : Ctx) (c : Code) (R : Exit → Act → World → Prop) (k : Nat) (L : Sl) (H : Hp) : Prop := ∀ e a w, Models Γ (lo k) L H e a w → c.wpIn (wideR Γ.rd) 0 Γ.P R a w

/-- An end that is told raw, as the end of a walk over data. -/
def rawQ (Γ : Ctx) (R : Exit → Act → World → Prop) : Post := fun ex k L H => ∀ e a w, Models Γ (lo k) L H e a w → R ex a w

section
variable {Γ : Ctx} {k : Nat} {L : Sl} {H : Hp} {R : Exit → Act → World → Prop}
theorem dwr_of {c : Code} (hp : Γ.pan = noPan) (h : DW Γ c (rawQ Γ R) k L H) : DWr Γ c R k L H := fun e a w m => wpIn_mono (h e a w m) (by
  rintro ex a' w' (⟨k', L', H', e', m', hq⟩ | ⟨v, _, _, _, hv, _⟩)
  · exact hq _ _ _ m'
  · rw [hp] at hv; exact hv.elim)
theorem dwr_seq {x y : Code} (hp : Γ.pan = noPan) (h : DW Γ x (thenD (DWr Γ y R) (rawQ Γ R)) k L H) : DWr Γ (.seq x y) R k L H := fun e a w m => by
  refine wpIn_seq (wpIn_mono (h e a w m) ?_)
  rintro ex a' w' (⟨k', L', H', e', m', hq⟩ | ⟨v, _, _, _, hv, _⟩)
  · cases ex with
    | normal => exact hq _ _ _ m'
    | _ => exact hq _ _ _ m'
  · rw [hp] at hv; exact hv.elim
theorem dwr_run {c : Code} {e : Env} {a : Act} {w : World} (m : Models Γ (lo k) L H e a w) (h : DWr Γ c R k L H) : c.wpIn (wideR Γ.rd) 0 Γ.P R a w := h e a w m
theorem dw_run {Q : Post} {c : Code} {e : Env} {a : Act} {w : World} (m : Models Γ (lo k) L H e a w) (h : DW Γ c Q k L H) : c.wpIn (wideR Γ.rd) 0 Γ.P (lift Γ Q) a w := h e a w m
theorem dw_regionE {Q : Post} {id : Nat} {l : List Oper} (h : DS false Γ l l (Q .normal) k L H) (hn : noDefer l = true := by rfl) : DW Γ (.region id l.toArray false) Q k L H := ds_region hn h
theorem dwr_ent {c : Code} {k' L' H'} (he : Ent Γ k L H k' L' H') (h : DWr Γ c R k' L' H') : DWr Γ c R k L H := fun e a w m =>
  let ⟨e', m'⟩ := he e a w m
  h e' a w m'
end

section
variable {Γ : Ctx} {k : Nat} {L : Sl} {H : Hp} {R : Exit → Act → World → Prop}
theorem dwr_seqR {x y : Code} (h : DWr Γ x (Exit.then (y.wpIn (wideR Γ.rd) 0 Γ.P R) R) k L H) : DWr Γ (.seq x y) R k L H := fun e a w m => wpIn_seq (h e a w m)
theorem dwr_block {id : Nat} {c : Code} (h : DWr Γ c (Exit.inBlock id R) k L H) : DWr Γ (.block id c) R k L H := fun e a w m => wpIn_block (h e a w m)
theorem rawQ_i {ex : Exit} (h : ∀ e a w, Models Γ (lo k) L H e a w → R ex a w) : rawQ Γ R ex k L H := h
end

abbrev Oit (X : Nat → Prop) (W0 W : World) : Nat → Prop := fun b => b < W.heap.size ∧ (X b ∨ W0.heap.size ≤ b)
/-- What an iterator was handed, in a later world. -/
theorem it_rel {P : Program} {τ : List (Nat × TI)} {τok : TabOk P τ} {N : Nat} {X : Nat → Prop} {W0 W : World} (hs : W0.heap.size ≤ W.heap.size) (hfr : ∀ b, b < W0.heap.size → ¬ X b → W.heap[b]? = W0.heap[b]?)
    {s : SV} {v : Value} {e0 : Env} (hlow : s.low 0 = true) (h : Rel X e0 W0 s v) {k : Nat → Prop} {H : Hp} {e : Env} {w : World} (hh : Heap (Γit P τ τok (Oit X W0 W) W N) k H e w) : Rel (Ctx.X (Γit P τ τok (Oit X W0 W) W N) e H) e w s v := by
  have hb := hh.it_below
  refine Rel.keep (Nat.le_trans hs hb.size) (fun b hb1 hx => (hb.block b (Nat.lt_of_lt_of_le hb1 hs)).trans (hfr b hb1 hx)) (fun b hb1 hx => ?_) _ _ (Rel.env _ _ hlow h)
  rcases hx with hx | hx
  · rcases hx.2 with h1 | h1
    · exact h1
    · omega
  · rcases (hh.mine b hx).1 with h1 | h1
    · exact h1.elim
    · have h1 : W.heap.size ≤ b := h1
      omega

/-- A block of data that nothing turns from here on, captured by a function. -/
theorem ent_freeze {Γ : Ctx} {k : Nat} {L : Sl} {H : Hp} (t i : Nat) {f : FuncId} {ty : TypeId} {ds : List D} (hL : L.get t = .fn f [.loc i 0]) (hH : Hp.get H i = some (.blk ty (ds.map .d))) : Ent Γ k L H k ((t, .fn f [.pd ds]) :: L) (Hp.del H i) := by
  intro e a w m
  obtain ⟨m2, hX⟩ := m.del i
  have hmem := Hp.mem_of hH
  refine ⟨e, m2.toHeap, m2.defers, m2.len, fun t' => ?_⟩
  rw [Sl.get_cons]
  split
  · rename_i ht
    subst ht
    have hs := m.slot t
    rw [hL] at hs
    obtain ⟨vs, h1, h2⟩ := hs
    refine ⟨vs, h1, ?_⟩
    match vs, h2 with
    | [v], ⟨⟨_, hv⟩, _⟩ =>
      refine ⟨?_, trivial⟩
      obtain ⟨us, g1, g2, _⟩ := (m.heap _ hmem).2
      have hown : HB.owned e (i, .blk ty (ds.map .d)) = some (e.β i) := rfl
      refine ⟨e.β i, 0, hv, lt_of_heap g1, fun hx => ?_, fun j hj => ?_⟩
      · rcases hx with hx | hx
        · exact (m.mine _ (List.mem_filterMap.2 ⟨_, hmem, hown⟩)).2 hx
        · obtain ⟨p, hp, hpg⟩ := List.mem_filterMap.1 hx
          have hd := Hp.del_mem (i := i) H m.ids p hp
          exact m.owned_ne hd.1 hmem hd.2 hpg hown
      · obtain ⟨u, g3, g4⟩ := RelL.get _ _ g2 j (.d ds[j]) (by rw [List.getElem?_map, List.getElem?_eq_getElem hj]; rfl)
        refine ⟨u, ?_, RepC.keep (Nat.le_refl _) (fun _ _ _ => rfl) (fun b _ h => hX b h) g4⟩
        rw [cell_of_row w _ _ _ ty (0, 0) g1, Nat.zero_add]; simpa using g3
  · exact m2.slot t'

/-- A call of yield within a region that goes in the text's order. -/
theorem dwr_yield {P : Program} {τ : List (Nat × TI)} {τok : TabOk P τ} {O : Nat → Prop} {W : World} {N : Nat} {k : Nat} {L : Sl} {H : Hp} {R : Exit → Act → World → Prop}
    {id l d : Nat} {xs : List Operand} {ts : Array TypeId} {ty : TypeId} {pos : String} {af : Array Edge} {pre post : List Oper} {fy : Nat} (hn : noDefer pre = true) (hnp : noDefer post = true) (hdN : d < N) (Lf : Sl) (hf : flatB Lf = true) (Lp : Bool → Sl)
    (J' Jx : World → Prop)
    (hpre : DL (Γit P τ τok O W N) (pre ++ ⟨some d, .call { callee := .value (.tmp fy), args := xs.toArray, argTypes := ts }, ty, pos, af, none⟩ :: post) pre (fun _ L' _ => L'.get fy = .val (.func (.yield l) #[] #[]) ∧ opsOk xs = true ∧ Kepts L' Lf ∧
      ∀ e W' vs, Below W.heap.size W W' → RelL O e W' (opsL L' xs) vs → ∃ r : Loop, W'.heap[l]? = some (Obj.loop r) ∧ vs.toArray.size = r.params.size ∧
        RoundIn Fence.wide 0 P l r.fn ((r.params.zip vs.toArray).foldl (fun t (p, v) => t.setIfInBounds p v) r.tmps) r.assign r.body W'
          (fun en W'' => (en = .returned (.bool true) ∧ J' W'') ∨ (en = .returned (.bool false) ∧ Jx W''))) k L H)
    (hpost : ∀ (b : Bool) (W' : World), DL (Γit P τ τok (fun _ => False) W' N) (pre ++ ⟨some d, .call { callee := .value (.tmp fy), args := xs.toArray, argTypes := ts }, ty, pos, af, none⟩ :: post) post (fun _ L' H' => H' = [] ∧ Kepts L' (Lp b) ∧ flatB (Lp b) = true) 0 ((d, .d (.bool b)) :: Lf) [])
    (hR : ∀ (b : Bool) a' W', Flat N (Lp b) a' → (∃ W1, Below W1.heap.size W1 W' ∧ ((b = true ∧ J' W1) ∨ (b = false ∧ Jx W1))) → R .normal a' W') :
    DWr (Γit P τ τok O W N) (.region id (pre ++ ⟨some d, .call { callee := .value (.tmp fy), args := xs.toArray, argTypes := ts }, ty, pos, af, none⟩ :: post).toArray false) R k L H := by
  intro e a w m
  refine wpIn_region_lit ?_
  refine wpList_app (Q := lift (Γit P τ τok O W N) (onNormal _)) ?_ letsOut_lift _ ?_ pre hn a w (hpre e a w m)
  · rintro c a' w' (⟨_, _, _, _, _, hx, _⟩ | ⟨_, _, _, _, hv, _⟩)
    · cases hx
    · exact hv.elim
  rintro a' w' (⟨k', L', H', e', m', _, hy, hok, hkf, hround⟩ | ⟨_, _, _, hx, _⟩)
  rotate_left
  · cases hx
  have hfl := m'.flatten hkf hf
  unfold wpListIn
  rw [if_pos (by rfl)]
  refine ⟨fun _ _ => trivial, ?_⟩
  rw [Oper.semAt_eq _ _ _ (by intro c h; cases h)]
  have hyv : a'.eval (.tmp fy) = .func (.yield l) #[] #[] := by
    have h1 := m'.slot fy
    rw [hy] at h1
    exact h1
  have hb := m'.toHeap.it_below
  obtain ⟨r, h1, h2, h3⟩ := hround e' w' (xs.map a'.eval) hb (RelL.keep (Nat.le_refl _) (fun _ _ _ => rfl) (fun b _ hx => .inl hx) _ _ (opsL_rel m' xs hok))
  have hrun : (execOp a'.eval ⟨some d, .call { callee := .value (.tmp fy), args := xs.toArray, argTypes := ts }, ty, pos, af, none⟩).run P w' =
      .ok (.round l r.fn ((r.params.zip (xs.map a'.eval).toArray).foldl (fun t (p, v) => t.setIfInBounds p v) r.tmps) r.assign r.body) w' := by
    simp only [execOp, resolve]
    simp only [hyv]
    have := run_yield (P := P) (w := w') h1 h2
    simp [Deferred.ofValue, invoke, this]
  rw [hrun]
  rw [Oper.uponIn_round]
  refine ⟨depth_wideR, h3.mono ?_⟩
  have fin : ∀ (b : Bool) W1, ((b = true ∧ J' W1) ∨ (b = false ∧ Jx W1)) → wpListIn (wideR none) 0 P (pre ++ ⟨some d, .call { callee := .value (.tmp fy), args := xs.toArray, argTypes := ts }, ty, pos, af, none⟩ :: post).toArray R post (a'.put (some d) (.bool b)) W1 := by
    intro b W1 hj
    have m2 : Models (Γit P τ τok (fun _ => False) W1 N) (lo 0) ((d, .d (.bool b)) :: Lf) [] ⟨fun _ => 0, fun _ => undef, lo 0⟩ (a'.put (some d) (.bool b)) W1 :=
      (hfl.models W1 (fun _ h => h.elim)).put (s := .d (.bool b)) hdN RepC.bool
    have := wpList_app (ro := none) (Q := lift (Γit P τ τok (fun _ => False) W1 N) (onNormal _)) (Q' := R) ?_ letsOut_lift [] ?_ post hnp _ _ (hpost b W1 _ _ _ m2)
    · rw [List.append_nil] at this; exact this
    · rintro c a' w' (⟨_, _, _, _, _, hx, _⟩ | ⟨_, _, _, _, hv, _⟩)
      · cases hx
      · exact hv.elim
    · rintro a3 w3 (⟨k3, L3, H3, e3, m3, _, rfl, hk3, hf3⟩ | ⟨_, _, _, hx, _⟩)
      · exact hR b a3 w3 (m3.flatten hk3 hf3) ⟨W1, m3.toHeap.it_below, hj⟩
      · cases hx
  rintro en W1 (⟨rfl, hj⟩ | ⟨rfl, hj⟩)
  · exact fin true W1 (.inl ⟨rfl, hj⟩)
  · exact fin false W1 (.inr ⟨rfl, hj⟩)
/-- .. with the operations as they stand. -/
theorem dwr_yieldL {P : Program} {τ : List (Nat × TI)} {τok : TabOk P τ} {O : Nat → Prop} {W : World} {N : Nat} {k : Nat} {L : Sl} {H : Hp} {R : Exit → Act → World → Prop}
    {id l d : Nat} {xs : List Operand} {ts : Array TypeId} {ty : TypeId} {pos : String} {af : Array Edge} {ops pre post : List Oper} {fy : Nat} (hl : ops = pre ++ ⟨some d, .call { callee := .value (.tmp fy), args := xs.toArray, argTypes := ts }, ty, pos, af, none⟩ :: post)
    (hn : noDefer pre = true) (hnp : noDefer post = true) (hdN : Nat.blt d N = true) (Lf : Sl) (hf : flatB Lf = true) (Lp : Bool → Sl)
    (J' Jx : World → Prop)
    (hpre : DS false (Γit P τ τok O W N) ops pre (fun _ L' _ => L'.get fy = .val (.func (.yield l) #[] #[]) ∧ opsOk xs = true ∧ Kepts L' Lf ∧
      ∀ e W' vs, Below W.heap.size W W' → RelL O e W' (opsL L' xs) vs → ∃ r : Loop, W'.heap[l]? = some (Obj.loop r) ∧ vs.toArray.size = r.params.size ∧
        RoundIn Fence.wide 0 P l r.fn ((r.params.zip vs.toArray).foldl (fun t (p, v) => t.setIfInBounds p v) r.tmps) r.assign r.body W'
          (fun en W'' => (en = .returned (.bool true) ∧ J' W'') ∨ (en = .returned (.bool false) ∧ Jx W''))) k L H)
    (hpost : ∀ (b : Bool) (W' : World), DS false (Γit P τ τok (fun _ => False) W' N) ops post (fun _ L' H' => H' = [] ∧ Kepts L' (Lp b) ∧ flatB (Lp b) = true) 0 ((d, .d (.bool b)) :: Lf) [])
    (hR : ∀ (b : Bool) a' W', Flat N (Lp b) a' → (∃ W1, Below W1.heap.size W1 W' ∧ ((b = true ∧ J' W1) ∨ (b = false ∧ Jx W1))) → R .normal a' W') :
    DWr (Γit P τ τok O W N) (.region id ops.toArray false) R k L H := by
  subst hl
  exact dwr_yield hn hnp (Nat.le_of_ble_eq_true hdN) Lf hf Lp J' Jx hpre hpost hR
end Go.Proofs.Ytapciiffpnociaa

/- relation.Set, Has. Condition: none. -/
namespace Go.Proofs.Ytapciiffpnociaa
open Go Go.RowKit
theorem FnP.imp {dr : Bool} {P : Program} {τ : List (Nat × TI)} {τok : TabOk P τ} {f : FuncId} {args : List SV} {R R' : SV → Prop} (h : FnP dr P τ τok f args R) (g : ∀ r, R r → R' r) : FnP dr P τ τok f args R' :=
  ⟨h.1, fun O e w vs hH hr => (h.2 O e w vs hH hr).mono fun _ _ ⟨k', r, H', e', v, ⟨a, b, c⟩, d⟩ => ⟨k', r, H', e', v, ⟨a, b, g r c⟩, d⟩⟩
attribute [local irreducible] DW DS DL DQ Ev FnOk FnP thenD inBlockD DT

theorem keepS_fn (l : List Fct) (g : FuncId) (caps : List SV) (pr : Fct → Bool) (hlow : SV.lowL 0 caps = true) (hl : l.length ≤ 4398046511104) (hargs : ∀ x ∈ l, x.args.length ≤ 17592186044416) (hg : ∀ x ∈ l, Fn g ([elFct x] ++ caps) (fun r => r = .d (.bool (pr x)))) :
    Fn 127 [.d (.slice 2 (l.map encFct)), .fn g caps] (fun r => r = .d (.slice 2 ((setF' (l.filter pr)).map encFct))) :=
  FnP.imp (keep_fn l g caps pr hlow hl hargs hg) fun r ⟨s, h1, h2, h3⟩ => by rw [h3, keep_set h1 h2]
set_option maxHeartbeats 8000000 in
theorem set_fn (l : List Fct) (hl : l.length ≤ 4398046511104) (hargs : ∀ x ∈ l, x.args.length ≤ 17592186044416) : Fn 55 [.d (.slice 2 (l.map encFct))] (fun r => r = .d (.slice 2 ((setF' l).map encFct))) := by
  refine fnp_enter' _ Try.func55 rfl rfl (by kernel_rfl) ?_
  intro O w0 E0 β0
  have hk := keepS_fn l 128 [] (fun _ => true) rfl hl hargs (fun x _ => setAny_fn x)
  rw [show l.filter (fun _ => true) = l from List.filter_eq_self.2 fun _ _ => rfl] at hk
  repeat' (first | (apply ds_evC; exact rfl; (with_reducible exact trivial); (with_reducible exact rfl); exact rfl; exact rfl; exact rfl) | apply ds_nil | apply dw_seq2 | (apply ds_region; exact rfl) | apply dw_ret | apply thenD_n | (apply ds_call; exact rfl; exact rfl; apply hk; exact rfl; (exact rfl); exact rfl; rintro _ rfl))
  exact ⟨.inl rfl, _, rfl, rfl, rfl⟩

set_option maxHeartbeats 8000000 in
theorem has1_fn (x f : Fct) : Fn 129 [elFct x, .pd (encFct f)] (fun r => r = .d (.bool (decide (ordF x f = 0)))) := by
  refine fnp_enter' _ Try.func129 rfl rfl (by kernel_rfl) ?_
  intro O w0 E0 β0
  have hs := rsame_fn x f
  repeat' (first | (apply ds_evC; exact rfl; (with_reducible exact trivial); (with_reducible exact rfl); exact rfl; exact rfl; exact rfl) | apply ds_nil | apply dw_seq2 | (apply ds_region; exact rfl) | apply dw_ret | apply thenD_n | (apply ds_call; exact rfl; exact rfl; apply hs; exact rfl; (exact rfl); exact rfl; rintro _ rfl) | (apply ds_newC; exact rfl; (with_reducible exact trivial); exact rfl; exact rfl; exact rfl))
  exact ⟨.inl rfl, _, rfl, rfl, rfl⟩
set_option maxHeartbeats 8000000 in
theorem has_fn (l : List Fct) (f : Fct) : Fn 57 [.d (.slice 2 (l.map encFct)), elFct f] (fun r => r = .d (.bool (hasF l f))) := by
  refine fnp_enter' _ Try.func57 rfl rfl (by kernel_rfl) ?_
  intro O w0 E0 β0
  have hc := containsFuncFct_fn (f := 129) (caps := [.pd (encFct f)]) (fun x => decide (ordF x f = 0)) l rfl (fun x _ => has1_fn x f)
  repeat' (first | (apply ds_evC; exact rfl; (with_reducible exact trivial); (with_reducible exact rfl); exact rfl; exact rfl; exact rfl) | apply ds_nil | apply dw_seq2 | (apply ds_region; exact rfl) | apply thenD_n | (apply ds_newC; exact rfl; (with_reducible exact trivial); exact rfl; exact rfl; exact rfl))
  refine ds_ent (ent_freeze (ds := encFct f) 6 0 rfl rfl) ?_
  repeat' (first | (apply ds_evC; exact rfl; (with_reducible exact trivial); (with_reducible exact rfl); exact rfl; exact rfl; exact rfl) | apply ds_nil | apply dw_ret | apply thenD_n | (apply ds_call; exact rfl; exact rfl; apply hc; exact rfl; (exact rfl); exact rfl; rintro _ rfl))
  exact ⟨.inl rfl, _, rfl, rfl, rfl⟩

set_option maxHeartbeats 8000000 in
theorem minus1_fn (m : List Fct) (x : Fct) (hm : m.length ≤ 4398046511104) (hs : Strict m) : Fn 132 [elFct x, .pd [.slice 2 (m.map encFct)]] (fun r => r = .d (.bool (!hasF m x))) := by
  refine fnp_enter' _ Try.func132 rfl rfl (by kernel_rfl) ?_
  intro O w0 E0 β0
  have hi := in_fn m x hm hs
  repeat' (first | (apply ds_evC; exact rfl; (with_reducible exact trivial); (with_reducible exact rfl); exact rfl; exact rfl; exact rfl) | apply ds_nil | apply dw_seq2 | (apply ds_region; exact rfl) | apply dw_ret | apply thenD_n | (apply ds_call; exact rfl; exact rfl; apply hi; exact rfl; (exact rfl); exact rfl; rintro _ rfl) | (apply ds_newC; exact rfl; (with_reducible exact trivial); exact rfl; exact rfl; exact rfl))
  exact ⟨.inl rfl, _, rfl, rfl, rfl⟩
set_option maxHeartbeats 8000000 in
theorem minus_fn (l m : List Fct) (hl : l.length ≤ 4398046511104) (hm : m.length ≤ 4398046511104) (ha : ∀ x ∈ l, x.args.length ≤ 17592186044416) (hb : ∀ x ∈ m, x.args.length ≤ 17592186044416) :
    Fn 61 [.d (.slice 2 (l.map encFct)), .d (.slice 2 (m.map encFct))] (fun r => r = .d (.slice 2 ((setF' (l.filter fun x => !hasF (setF' m) x)).map encFct))) := by
  refine fnp_enter' _ Try.func61 rfl rfl (by kernel_rfl) ?_
  intro O w0 E0 β0
  have h1 := set_fn m hm hb
  have hsl : (setF' m).length ≤ 4398046511104 := by have := setF_len m []; simp at this; unfold setF'; omega
  have hk := keepS_fn l 132 [.pd [.slice 2 ((setF' m).map encFct)]] (fun x => !hasF (setF' m) x) rfl hl ha (fun x _ => minus1_fn (setF' m) x hsl (setF_spec m).1)
  repeat' (first | (apply ds_evC; exact rfl; (with_reducible exact trivial); (with_reducible exact rfl); exact rfl; exact rfl; exact rfl) | apply ds_nil | apply dw_seq2 | (apply ds_region; exact rfl) | apply thenD_n | (apply ds_call; exact rfl; exact rfl; apply h1; exact rfl; (exact rfl); exact rfl; rintro _ rfl) | (apply ds_newC; exact rfl; (with_reducible exact trivial); exact rfl; exact rfl; exact rfl) | (apply ds_setC; exact rfl; exact rfl; exact rfl; exact rfl))
  refine ds_ent (ent_freeze (ds := [.slice 2 ((setF' m).map encFct)]) 9 0 rfl rfl) ?_
  repeat' (first | (apply ds_evC; exact rfl; (with_reducible exact trivial); (with_reducible exact rfl); exact rfl; exact rfl; exact rfl) | apply ds_nil | apply dw_ret | apply thenD_n | (apply ds_call; exact rfl; exact rfl; apply hk; exact rfl; (exact rfl); exact rfl; rintro _ rfl))
  exact ⟨.inl rfl, _, rfl, rfl, rfl⟩
end Go.Proofs.Ytapciiffpnociaa

/- slices.Grow and slices.Concat over facts. Condition: none. -/
namespace Go.Proofs.Ytapciiffpnociaa
open Go Go.RowKit
attribute [local irreducible] DW DS DL DQ Ev FnOk FnP thenD inBlockD DT

set_option maxHeartbeats 8000000 in
theorem grow_fn (n : Nat) (hn : n ≤ 4398046511104) : FnOk false Try.prog tab tab_ok 188 [.nils, .d (.int .i64 n)] 0 0 [] (fun _ r H => r = .row 0 ∧ H = [(0, .row 89 2 [])]) := by
  refine fn_enterR _ Try.func188 rfl rfl (by kernel_rfl) ?_
  intro O w0 E0 β0
  by_cases h0 : n = 0
  · subst h0
    repeat' (first | (apply ds_evC; exact rfl; (with_reducible exact trivial); (with_reducible exact rfl); exact rfl; exact rfl; exact rfl) | apply ds_nil | apply dw_seq2 | (apply ds_region; exact rfl) | apply dw_skip | (apply dw_condF; exact rfl) | apply thenD_n)
    all_goals try (exfalso; omega)
    refine ds_ev (ev_cap_nils rfl rfl) rfl rfl ?_
    repeat' (first | (apply ds_evC; exact rfl; (first | (with_reducible exact trivial) | omega); (with_reducible exact rfl); exact rfl; exact rfl; exact rfl) | apply ds_nil | apply dw_seq2 | (apply ds_region; exact rfl) | apply dw_skip | (apply dw_condF; exact rfl) | apply thenD_n)
    all_goals try (exfalso; omega)
    refine dw_ent (ent_nilrow (t := 4) 89 2 rfl) ?_
    repeat' (apply dw_ret)
    exact ⟨.inl rfl, _, rfl, id, 1, .row 0, [(0, .row 89 2 [])], rfl, ⟨rfl, trivial⟩, rfl, rfl, rfl, rfl, rfl, rfl, rfl, rfl⟩
  · repeat' (first | (apply ds_evC; exact rfl; (with_reducible exact trivial); (with_reducible exact rfl); exact rfl; exact rfl; exact rfl) | apply ds_nil | apply dw_seq2 | (apply ds_region; exact rfl) | apply dw_skip | (apply dw_condF; exact rfl) | apply thenD_n)
    all_goals try (exfalso; omega)
    refine ds_ev (ev_cap_nils rfl rfl) rfl rfl ?_
    repeat' (first | (apply ds_evC; exact rfl; (first | (with_reducible exact trivial) | omega); (with_reducible exact rfl); exact rfl; exact rfl; exact rfl) | apply ds_nil | apply dw_seq2 | (apply ds_region; exact rfl) | apply dw_skip | apply dw_ret | apply thenD_n | (apply dw_condP; exact rfl; all_goals intro hg))
    all_goals try (exfalso; omega)
    refine ds_ev (ev_cap_nils rfl rfl) rfl rfl ?_
    repeat' (apply ds_evC; exact rfl; (first | (with_reducible exact trivial) | omega); (with_reducible exact rfl); exact rfl; exact rfl; exact rfl)
    all_goals try (exfalso; omega)
    refine ds_apmk (n := n) (es := 2) (te := 89) [.int .i64 0, .slice 1 []] rfl rfl (by omega) rfl rfl rfl rfl ⟨.inl rfl, .inr ⟨rfl, 1, rfl⟩, trivial⟩ rfl rfl (by omega) (by omega) ?_ (by unfold maxLen; omega) rfl rfl ?_
    · show n * 32 ≤ _
      omega
    repeat' (first | (apply ds_evC; exact rfl; (first | (with_reducible exact trivial) | omega); (with_reducible exact rfl); exact rfl; exact rfl; exact rfl) | apply ds_nil | apply dw_seq2 | (apply ds_region; exact rfl) | apply thenD_n)
    all_goals try (exfalso; omega)
    refine dw_ent (ent_cut (n := 0) 4 rfl rfl (Nat.zero_le _) rfl) ?_
    repeat' (apply dw_ret)
    exact ⟨.inl rfl, _, rfl, fun j => match j with | 0 => 1 | j => j, 1, .row 0, [(0, .row 89 2 [])], rfl, ⟨rfl, trivial⟩, rfl, rfl, rfl, rfl, rfl, rfl, rfl, rfl⟩

theorem sum_take {ls : List (List Fct)} {i : Nat} (hi : i < ls.length) : ((ls.take (i + 1)).map List.length).sum = ((ls.take i).map List.length).sum + ls[i].length := by
  rw [List.take_succ_eq_append_getElem hi, List.map_append, List.sum_append]; rfl
theorem sum_le (ls : List (List Fct)) (i : Nat) : ((ls.take i).map List.length).sum ≤ (ls.map List.length).sum := by
  have h : (ls.map List.length).sum = ((ls.take i).map List.length).sum + ((ls.drop i).map List.length).sum := by rw [← List.sum_append, ← List.map_append, List.take_append_drop]
  omega
set_option maxHeartbeats 8000000 in
theorem concat_fn (ls : List (List Fct)) (h : (ls.map List.length).sum ≤ 4398046511104) (h2 : ls.length ≤ 4398046511104) : Fn 131 [.d (.slice 1 (ls.map fun l => [.slice 2 (l.map encFct)]))] (fun r => r = .d (.slice 2 (ls.flatten.map encFct))) := by
  refine fnp_enter' _ Try.func131 rfl rfl (by kernel_rfl) ?_
  intro O w0 E0 β0
  have ll : (ls.map fun l => [D.slice 2 (l.map encFct)]).length = ls.length := List.length_map _
  repeat' (first | (apply ds_evC; exact rfl; (with_reducible exact trivial); (with_reducible exact rfl); exact rfl; exact rfl; exact rfl) | apply ds_nil | apply dw_seq2 | (apply ds_region; exact rfl) | apply dw_block | apply thenD_n)
  refine ds_loop (ι := Nat) (fun i => ⟨0, [(0, .d (.slice 1 (ls.map fun l => [.slice 2 (l.map encFct)]))), (3, .d (.int .i64 (((ls.take i).map List.length).sum : Nat))), (9, .d (.slice 1 (ls.map fun l => [.slice 2 (l.map encFct)]))), (10, .d (.int .i64 ls.length)), (11, .d (.int .i64 i))], []⟩)
    (fun i => i ≤ ls.length) (fun i => ls.length - i) 0 (Nat.zero_le _) (ent_ren id ⟨rfl, rfl, rfl, by rw [← ll]; rfl, rfl, trivial⟩ trivial rfl rfl rfl rfl rfl rfl) ?_
  intro i g1
  by_cases hi : i < ls.length
  · have h3 := sum_take hi
    have h4 := sum_le ls (i + 1)
    have h5 : (ls[i].map encFct).length = ls[i].length := List.length_map _
    repeat' (first | (apply ds_evC; exact rfl; (first | (with_reducible exact trivial) | omega); (first | ((with_reducible apply hv_row); (exact rfl); (omega)) | (with_reducible exact rfl)); exact rfl; exact rfl; exact rfl) | apply ds_nil | apply dw_seq2 | (apply ds_region; exact rfl) | apply dw_block | apply dw_skip | apply dw_exit | (apply dw_condF; exact rfl) | apply thenD_n | apply thenD_e | apply inB_n | (apply inB_e; exact rfl) | (apply dw_condP; exact rfl; all_goals intro hg))
    all_goals try (exfalso; omega)
    exact ⟨i + 1, by omega, ent_ren id ⟨rfl, congrArg (fun z => SV.d (.int .i64 z)) (by rw [h3, h5]; omega), rfl, rfl, rfl, trivial⟩ trivial rfl rfl rfl rfl rfl rfl, by omega⟩
  · rw [List.take_of_length_le (by omega)]
    repeat' (first | (apply ds_evC; exact rfl; (first | (with_reducible exact trivial) | omega); (first | ((with_reducible apply hv_row); (exact rfl); (omega)) | (with_reducible exact rfl)); exact rfl; exact rfl; exact rfl) | apply ds_nil | apply dw_seq2 | (apply ds_region; exact rfl) | apply dw_block | apply dw_skip | apply dw_exit | (apply dw_condF; exact rfl) | apply thenD_n | apply thenD_e | apply inB_n | (apply inB_e; exact rfl) | (apply dw_condP; exact rfl; all_goals intro hg))
    all_goals try (exfalso; omega)
    refine ds_callF id (grow_fn (ls.map List.length).sum h) rfl rfl rfl rfl trivial rfl rfl rfl rfl rfl rfl ?_ ?_
    · rintro k2 r H2 ⟨rfl, rfl⟩; exact ⟨rfl, rfl⟩
    rintro k2 r H2 ⟨rfl, rfl⟩
    change DS _ _ _ _ _ _ _ _
    repeat' (first | (apply ds_evC; exact rfl; (with_reducible exact trivial); (with_reducible exact rfl); exact rfl; exact rfl; exact rfl) | apply ds_nil | apply dw_seq2 | (apply ds_region; exact rfl) | apply dw_block | apply thenD_n)
    refine ds_loop (ι := Nat) (fun i => ⟨1, [(6, .row 0), (25, .d (.slice 1 (ls.map fun l => [.slice 2 (l.map encFct)]))), (26, .d (.int .i64 ls.length)), (27, .d (.int .i64 i))], [(0, .row 89 2 ((ls.take i).flatten.map encFct))]⟩)
      (fun i => i ≤ ls.length) (fun i => ls.length - i) 0 (Nat.zero_le _) (ent_ren id ⟨rfl, rfl, by rw [← ll]; rfl, rfl, trivial⟩ ⟨rfl, trivial⟩ rfl rfl rfl rfl rfl rfl) ?_
    clear hi g1
    intro i g1
    by_cases hi : i < ls.length
    · have h3 := sum_take hi
      have h4 := sum_le ls (i + 1)
      have h5 : (ls[i].map encFct).length = ls[i].length := List.length_map _
      have h6 : ((ls.take i).flatten.map encFct).length = ((ls.take i).map List.length).sum := by rw [List.length_map, List.length_flatten]
      have h7 : (ls.take (i + 1)).flatten = (ls.take i).flatten ++ ls[i] := by rw [List.take_succ_eq_append_getElem hi, List.flatten_append]; simp
      repeat' (first | (apply ds_evC; exact rfl; (first | (with_reducible exact trivial) | omega); (first | ((with_reducible apply hv_row); (exact rfl); (omega)) | (with_reducible exact rfl)); exact rfl; exact rfl; exact rfl) | apply ds_nil | apply dw_seq2 | (apply ds_region; exact rfl) | apply dw_block | apply dw_skip | apply dw_exit | apply dw_ret | apply thenD_n | apply thenD_e | apply inB_n | (apply inB_e; exact rfl) | (apply ds_tradeC; exact rfl; (unfold maxLen at *; omega); exact rfl; exact rfl; exact rfl; exact rfl) | (apply dw_condP; exact rfl; all_goals intro hg))
      all_goals try (exfalso; omega)
      exact ⟨i + 1, by omega, ent_ren (fun _ => 1) ⟨rfl, rfl, rfl, rfl, trivial⟩ ⟨by rw [h7, List.map_append]; rfl, trivial⟩ rfl rfl rfl rfl rfl rfl, by omega⟩
    · rw [List.take_of_length_le (by omega)]
      repeat' (first | (apply ds_evC; exact rfl; (first | (with_reducible exact trivial) | omega); (first | ((with_reducible apply hv_row); (exact rfl); (omega)) | (with_reducible exact rfl)); exact rfl; exact rfl; exact rfl) | apply ds_nil | apply dw_seq2 | (apply ds_region; exact rfl) | apply dw_block | apply dw_skip | apply dw_exit | apply thenD_n | apply thenD_e | apply inB_n | (apply inB_e; exact rfl) | (apply ds_tradeC; exact rfl; (omega); exact rfl; exact rfl; exact rfl; exact rfl) | (apply dw_condP; exact rfl; all_goals intro hg))
      all_goals try (exfalso; omega)
      refine dw_ent (ent_seal 2 rfl rfl rfl) ?_
      repeat' (apply dw_ret)
      exact ⟨.inl rfl, _, rfl, rfl, rfl⟩
end Go.Proofs.Ytapciiffpnociaa

/- The document's UnionOf and MinusOf. Condition: none. -/
namespace Go.Proofs.Ytapciiffpnociaa
open Go Go.RowKit
attribute [local irreducible] DW DS DL DQ Ev FnOk FnP thenD inBlockD DT

set_option maxHeartbeats 8000000 in
theorem unionOf_fn (l m : List Fct) (hl : l.length + m.length ≤ 4398046511104) : Fn 60 [.d (.slice 2 (l.map encFct)), .d (.slice 2 (m.map encFct))] (fun r => r = .d (.slice 2 ((setF' (l ++ m)).map encFct))) := by
  refine fnp_enter' _ Try.func60 rfl rfl (by kernel_rfl) ?_
  intro O w0 E0 β0
  have la : (l.map encFct).length = l.length := List.length_map _
  have lb : (m.map encFct).length = m.length := List.length_map _
  have lc : ([] ++ l.map encFct).length = l.length := by simp
  have w := setOf_fn (l ++ m) (by rw [List.length_append]; exact hl)
  rw [List.map_append] at w
  repeat' (first | (apply ds_bs0; exact rfl; exact rfl; exact rfl; exact rfl; exact rfl; exact rfl; exact rfl; exact rfl) | (first | (apply ds_evC; exact rfl; (with_reducible exact trivial); (with_reducible exact rfl); exact rfl; exact rfl; exact rfl) | apply ds_nil | apply dw_seq2 | (apply ds_region; exact rfl) | apply thenD_n | (apply ds_tradeC; exact rfl; (first | (unfold maxLen at *; omega) | (unfold maxLen; simp <;> omega)); exact rfl; exact rfl; exact rfl; exact rfl)))
  refine ds_ent (ent_seal 9 rfl rfl rfl) ?_
  repeat' (first | (apply ds_evC; exact rfl; (with_reducible exact trivial); (with_reducible exact rfl); exact rfl; exact rfl; exact rfl) | apply ds_nil | apply dw_ret | apply thenD_n | (apply ds_call; exact rfl; exact rfl; apply w; exact rfl; (exact rfl); exact rfl; rintro _ rfl))
  exact ⟨.inl rfl, _, rfl, rfl, rfl⟩

def minusL (l m : List Fct) : List Fct := l.filter fun x => !hasF m x
set_option maxHeartbeats 8000000 in
theorem minusOf_fn (l m : List Fct) (hl : l.length ≤ 4398046511104) : Fn 62 [.d (.slice 2 (l.map encFct)), .d (.slice 2 (m.map encFct))] (fun r => r = .d (.slice 2 ((setF' (minusL l m)).map encFct))) := by
  refine fnp_enter' _ Try.func62 rfl rfl (by kernel_rfl) ?_
  intro O w0 E0 β0
  have la : (l.map encFct).length = l.length := List.length_map _
  have hfl := List.length_filter_le (fun x => !hasF m x) l
  have w := setOf_fn (minusL l m) (by unfold minusL; omega)
  repeat' (first | (apply ds_evC; exact rfl; (with_reducible exact trivial); (with_reducible exact rfl); exact rfl; exact rfl; exact rfl) | apply ds_nil | apply dw_seq2 | (apply ds_region; exact rfl) | apply dw_block | apply thenD_n)
  refine dw_ent (ent_nilrow (t := 5) 89 2 rfl) ?_
  refine ds_loop (ι := Nat × List Fct) (fun x => ⟨1, [(0, .d (.slice 2 (l.map encFct))), (1, .d (.slice 2 (m.map encFct))), (5, .row 0), (6, .d (.int .i64 x.1))], [(0, .row 89 2 (x.2.map encFct))]⟩)
    (fun x => x.1 ≤ l.length ∧ x.2 = (l.take x.1).filter fun x => !hasF m x) (fun x => l.length - x.1) (0, []) ⟨Nat.zero_le _, rfl⟩ (ent_ren id ⟨rfl, rfl, rfl, rfl, trivial⟩ ⟨rfl, trivial⟩ rfl rfl rfl rfl rfl rfl) ?_
  rintro ⟨i, o⟩ ⟨g1, g2⟩
  dsimp only at g1 g2 ⊢
  have lo : (o.map encFct).length = o.length := List.length_map _
  have hol : o.length ≤ i := by
    have := List.length_filter_le (fun x => !hasF m x) (l.take i)
    rw [← g2] at this
    simp at this
    omega
  by_cases hi : i < l.length
  · have wh := hasFact_fn m l[i]
    have hstep : (l.take (i + 1)).filter (fun x => !hasF m x) = o ++ [l[i]].filter (fun x => !hasF m x) := by rw [List.take_succ_eq_append_getElem hi, List.filter_append, ← g2]
    cases hh : hasF m l[i] with
    | true =>
      rw [hh] at wh
      have h1 : [l[i]].filter (fun x => !hasF m x) = [] := by simp [hh]
      rw [h1, List.append_nil] at hstep
      repeat' (first | (apply ds_evC; exact rfl; (first | (with_reducible exact trivial) | omega); (first | ((with_reducible apply hv_row); (exact rfl); (omega)) | (with_reducible exact rfl)); exact rfl; exact rfl; exact rfl) | apply ds_nil | apply dw_seq2 | (apply ds_region; exact rfl) | apply dw_block | apply dw_skip | apply dw_exit | (apply dw_condF; exact rfl) | apply thenD_n | apply thenD_e | apply inB_n | (apply inB_e; exact rfl) | (apply ds_call; exact rfl; exact rfl; apply wh; exact rfl; (exact rfl); exact rfl; rintro _ rfl) | (apply dw_condP; exact rfl; all_goals intro hg))
      all_goals try (exfalso; omega)
      exact ⟨(i + 1, o), ⟨by dsimp only; omega, hstep.symm⟩, ent_ren id ⟨rfl, rfl, rfl, rfl, trivial⟩ ⟨rfl, trivial⟩ rfl rfl rfl rfl rfl rfl, by show l.length - (i + 1) < l.length - i; omega⟩
    | false =>
      rw [hh] at wh
      have h1 : [l[i]].filter (fun x => !hasF m x) = [l[i]] := by simp [hh]
      rw [h1] at hstep
      repeat' (first | (apply ds_evC; exact rfl; (first | (with_reducible exact trivial) | omega); (first | ((with_reducible apply hv_row); (exact rfl); (omega)) | (with_reducible exact rfl)); exact rfl; exact rfl; exact rfl) | apply ds_nil | apply dw_seq2 | (apply ds_region; exact rfl) | apply dw_block | apply dw_skip | apply dw_exit | (apply dw_condT; exact rfl) | apply thenD_n | apply thenD_e | apply inB_n | (apply inB_e; exact rfl) | (apply ds_call; exact rfl; exact rfl; apply wh; exact rfl; (exact rfl); exact rfl; rintro _ rfl) | (apply ds_bsC; exact rfl; exact rfl; exact rfl; exact rfl) | (apply ds_tradeC; exact rfl; (unfold maxLen; simp <;> omega); exact rfl; exact rfl; exact rfl; exact rfl) | (apply dw_condP; exact rfl; all_goals intro hg))
      all_goals try (exfalso; omega)
      refine ⟨(i + 1, o ++ [l[i]]), ⟨by dsimp only; omega, hstep.symm⟩, ?_, by show l.length - (i + 1) < l.length - i; omega⟩
      dsimp only
      rw [List.map_append]
      exact ent_ren (fun _ => 1) ⟨rfl, rfl, rfl, rfl, trivial⟩ ⟨rfl, trivial⟩ rfl rfl rfl rfl rfl rfl
  · have ho : o = minusL l m := by unfold minusL; rw [g2, List.take_of_length_le (by omega)]
    repeat' (first | (apply ds_evC; exact rfl; (first | (with_reducible exact trivial) | omega); (first | ((with_reducible apply hv_row); (exact rfl); (omega)) | (with_reducible exact rfl)); exact rfl; exact rfl; exact rfl) | apply ds_nil | apply dw_seq2 | (apply ds_region; exact rfl) | apply dw_block | apply dw_skip | apply dw_exit | apply thenD_n | apply thenD_e | (apply inB_e; exact rfl) | (apply dw_condP; exact rfl; all_goals intro hg))
    all_goals try (exfalso; omega)
    refine ds_ent (ent_seal 27 rfl rfl rfl) ?_
    rw [ho]
    repeat' (first | (apply ds_evC; exact rfl; (with_reducible exact trivial); (with_reducible exact rfl); exact rfl; exact rfl; exact rfl) | apply ds_nil | apply dw_ret | apply thenD_n | (apply ds_call; exact rfl; exact rfl; apply w; exact rfl; (exact rfl); exact rfl; rintro _ rfl))
    exact ⟨.inl rfl, _, rfl, rfl, rfl⟩
end Go.Proofs.Ytapciiffpnociaa
