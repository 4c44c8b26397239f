/- Several texts in one: GxItr RelV RelX RelB RelC RelM RelY RelT RelG RelH RelIn. Condition: none. -/
import Derived.Test.YtapciiffpnociabB12
import Derived.Test.YtapciiffpnociabB10
import Derived.Test.YtapciiffpnociabB11
import Derived.Test.YtapciiffpnociabB09

/- A plain logic over the walk: iterators. No program is named here. Condition: none. -/
namespace Go.Proofs.Ytapciiffpnociab
open Go Go.RowKit

/-- Slots that say the same in every world. -/
def SV.flat : SV → Bool
  | .val _ => true
  | .junk => true
  | .d (.int _ _) => true
  | .d (.bool _) => true
  | _ => false
theorem Rel.flat {X e w X' e' w'} : ∀ (s : SV) (v : Value), s.flat = true → Rel X e w s v → Rel X' e' w' s v
  | .val _, _, _, h => h
  | .junk, _, _, _ => trivial
  | .d (.int _ _), _, _, h => by
    have h' : RepC _ _ _ _ := h
    cases h' with
    | int g => exact RepC.int g
  | .d (.bool _), _, _, h => by
    have h : RepC _ _ _ _ := h
    cases h
    exact RepC.bool
  | .d (.str _), _, h, _ => nomatch h
  | .d (.slice _ _), _, h, _ => nomatch h
  | .nils, _, h, _ => nomatch h
  | .pd _, _, h, _ => nomatch h
  | .loc _ _, _, h, _ => nomatch h
  | .row _, _, h, _ => nomatch h
  | .prow _ _ _ _, _, h, _ => nomatch h
  | .sl _ _ _ _, _, h, _ => nomatch h
  | .rsl _ _ _ _, _, h, _ => nomatch h
  | .fn _ _, _, h, _ => nomatch h
  | .agg _, _, h, _ => nomatch h
  | .tup _, _, h, _ => nomatch h
def flatB : Sl → Bool
  | [] => true
  | (_, s) :: r => s.flat && flatB r
theorem flat_get : ∀ {L : Sl}, flatB L = true → ∀ t, (L.get t).flat = true
  | [], _, _ => rfl
  | (d, s) :: r, h, t => by
    simp only [flatB, Bool.and_eq_true] at h
    rw [Sl.get_cons]
    split
    · exact h.1
    · exact flat_get h.2 t
theorem kepts_get {L : Sl} : ∀ {L' : Sl}, Kepts L L' → ∀ t, L'.get t = .junk ∨ L'.get t = L.get t
  | [], _, _ => .inl rfl
  | (d, s) :: r, h, t => by
    rw [Sl.get_cons]
    split
    · rename_i hd; subst hd; exact .inr h.1.symm
    · exact kepts_get h.2 t

/-- An activation, whatever the world is. -/
structure Flat (N : Nat) (L : Sl) (a : Act) : Prop where
  len : a.tmps.size = N
  defers : a.defers = []
  slot : ∀ t X e w, Rel X e w (L.get t) (a.tmps.getD t undef)

abbrev Γit (P : Program) (τ : List (Nat × TI)) (τok : TabOk P τ) (O : Nat → Prop) (W : World) (N : Nat) : Ctx := ⟨P, τ, τok, O, W, fun _ => False, N, 0, fun _ => 0, none, noPan, false, false⟩

section
variable {P : Program} {τ : List (Nat × TI)} {τok : TabOk P τ} {O : Nat → Prop} {N : Nat} {L : Sl}
theorem Flat.models {a : Act} (h : Flat N L a) (W : World) (hO : ∀ b, O b → b < W.heap.size) : Models (Γit P τ τok O W N) (lo 0) L [] ⟨fun _ => 0, fun _ => undef, lo 0⟩ a W where
  top _ := Iff.rfl
  heap _ hp := nomatch hp
  ids := .nil
  nodup := .nil
  mine _ hb := nomatch hb
  os := rfl
  tape := rfl
  output := rfl
  drawn h := nomatch h
  size := Nat.le_refl _
  block _ _ _ := rfl
  obound b hb := ⟨hO b hb, id⟩
  jle _ hj := nomatch hj
  anchor _ hj := nomatch hj
  defers := by rw [h.defers]; exact Marks.nil
  len := h.len
  slot t := h.slot t _ _ _

theorem Models.flatten {W : World} {k : Nat → Prop} {H : Hp} {e : Env} {a : Act} {w : World} (m : Models (Γit P τ τok O W N) k L H e a w) {Ls : Sl} (hK : Kepts L Ls) (hf : flatB Ls = true) : Flat N Ls a where
  len := m.len
  defers := by
    obtain ⟨rs, h1, h0, _⟩ := m.defers
    rw [h1, h0 rfl]; rfl
  slot t X e' w' := by
    have hg := flat_get hf t
    rcases kepts_get hK t with h | h
    · rw [h]; trivial
    · rw [h] at hg ⊢; exact Rel.flat _ _ hg (m.slot t)

theorem Heap.it_below {W : World} {k : Nat → Prop} {H : Hp} {e : Env} {w : World} (h : Heap (Γit P τ τok O W N) k H e w) : Below W.heap.size W w := ⟨h.os, h.tape, h.output, h.size, fun b hb => h.block b hb id⟩
end

section
variable {Γ : Ctx} {k : Nat} {L : Sl} {H : Hp} {K : Next'} {ops : List Oper} {rest : List Oper} {x y : Operand} {t ty : TypeId}
theorem ev_val {op : Op} {s : SV} (L2 : Sl) (hm : ∀ e a w, Models Γ (lo k) L H e a w → Models Γ (lo k) L2 H e a w) (h : Ev Γ (lo k) L2 H op ty s) : Ev Γ (lo k) L H op ty s := fun e a w m => h e a w (hm e a w m)
theorem Models.val_as {e : Env} {a : Act} {w : World} {k : Nat → Prop} (m : Models Γ k L H e a w) (t : Nat) {v : Value} {s : SV} (hv : L.get t = .val v) (hr : Rel (Γ.X e H) e w s v) : Models Γ k ((t, s) :: L) H e a w where
  toHeap := m.toHeap
  defers := m.defers
  len := m.len
  slot t' := by
    rw [Sl.get_cons]
    split
    · rename_i h
      subst h
      have h1 := m.slot t
      rw [hv] at h1
      have h1 : a.tmps.getD t undef = v := h1
      rw [h1]; exact hr
    · exact m.slot t'

theorem ev_fa_val {s : TypeId} {f off fty sz b o : Nat} {l} (hs : Γ.sh s = .struct l) (hf : l[f]? = some (off, fty, sz)) (hz : Nat.beq sz 0 = false) (t : Nat) (hx : L.get t = .val (.pointer (some ⟨b, o, none⟩))) :
    Ev Γ (lo k) L H (.fieldAddr s (.tmp t) f) ty (.val (.pointer (some ⟨b, o + off, none⟩))) := by
  obtain ⟨fs, hu, hl⟩ := Ctx.struct hs
  subst hl
  rw [List.getElem?_map] at hf
  cases hff : fs.toList[f]? with
  | none => rw [hff] at hf; cases hf
  | some fd =>
    rw [hff] at hf
    simp only [Option.map_some, Option.some.injEq, Prod.mk.injEq] at hf
    obtain ⟨h1, h2, h3⟩ := hf
    have hfa : fs[f]? = some fd := by rw [← Array.getElem?_toList]; exact hff
    have hinf : ∃ inf, Γ.P.info? fd.type = some inf ∧ inf.size ≠ 0 := by
      cases hi : Γ.P.info? fd.type with
      | none => rw [hi] at h3; exact absurd h3.symm (Nat.ne_of_beq_eq_false hz)
      | some inf => rw [hi] at h3; exact ⟨inf, rfl, fun h => Nat.ne_of_beq_eq_false hz (by rw [← h3, ← h]; rfl)⟩
    obtain ⟨inf, hi, hne⟩ := hinf
    intro e A w m
    have hA : A.eval (.tmp t) = .pointer (some ⟨b, o, none⟩) := by
      have h1 := m.slot t
      rw [hx] at h1
      exact h1
    refine ⟨_, fun dst pos after guard w' _ => ?_, rfl⟩
    simp [execOp, Instr.fieldAt, hA, run_underlying hu, hfa, Instr.sureAddr, fieldPlace, run_sizeOf hi, hne, h1, Addr.add_at]

theorem ev_ld_val {b o : Nat} {u : Value} (t2 : Nat) (hkn : (Γ.sh t).known = true) (hg : (Γ.sh t).isAgg = false) (hx : L.get t2 = .val (.pointer (some ⟨b, o, none⟩))) (hc : Γ.w0.cell? ⟨b, o, none⟩ = some u) (hE : ∀ b, ¬ Γ.E0 b) :
    Ev Γ (lo k) L H (.load t (.tmp t2)) ty (.val u) := by
  intro e a w m
  have ho := Sh.known_ne hkn
  have hv : a.eval (.tmp t2) = .pointer (some ⟨b, o, none⟩) := by
    have h1 := m.slot t2
    rw [hx] at h1
    exact h1
  have hb : b < Γ.w0.heap.size := by
    unfold World.cell? at hc
    split at hc
    · rename_i hh; exact lt_of_heap hh
    · cases hc
  have hcw : w.cell? ⟨b, o, none⟩ = some u := (World.cell?_of_block (w := Γ.w0) (m.block b hb (hE b))).trans hc
  exact ⟨u, fun _ _ _ _ w' hw => run_load1 ho hg hv (cell_below hw hcw) _ _ _ _, rfl⟩

theorem ev_len_val {t' : TypeId} {ao : Option Addr} {n : Nat} {cap : Nat} (t2 : Nat) (ht : Γ.sh t = .slice t') (hx : L.get t2 = .val (.slice ao n cap)) (hn : n ≤ maxLen) : Ev Γ (lo k) L H (.call { callee := .builtin .len, args := #[.tmp t2], argTypes := #[t] }) ty (.d (.int .i64 n)) := by
  intro e a w m
  have hv : a.eval (.tmp t2) = .slice ao n cap := by
    have h1 := m.slot t2
    rw [hx] at h1
    exact h1
  refine ⟨.int .i64 n, fun _ _ _ _ w' _ => ?_, .int (WalkArith.wf_i64 (by unfold maxLen at hn; omega))⟩
  simp [execOp, resolve, invoke, builtin, hv, Builtin.len_, goInt, run_underlying (Ctx.slice ht)]
end

/-! The raw walk around a call of yield. -/
theorem Oper.wp_in2 {ro : Option Nat} {P : Program} {o : Oper} {a : Act} {w : World} {K K' : Act → World → Prop} {Q Q' : Exit → Act → World → Prop} (hd : ∀ c, o.op ≠ .defer c) (hK : ∀ a w, K a w → K' a w)
    (hQ : ∀ c a w, Q (.panic c) a w → Q' (.panic c) a w) (hL : ¬ LetsOut Q) (h : o.wp P a w K Q) : o.wpIn (wideR ro) 0 P a w K' Q' := by
  refine ⟨fun _ _ => trivial, ?_⟩
  rw [Oper.semAt_eq _ _ _ hd]
  unfold Oper.wp at h
  generalize (execOp a.eval o).run P w = r at h
  cases r with
  | ok x w' =>
    cases x <;> simp only [Oper.upon, Oper.uponIn] at h ⊢ <;> first
      | exact hK _ _ h
      | exact h.elim
      | exact ⟨depth_wideR, callsIn_wideR (h.mono fun e w'' he => by cases e <;> first | exact hK _ _ he | exact hQ _ _ _ he | exact absurd he hL)⟩
      | exact ⟨depth_wideR, fun c cs _ => let ⟨v, w'', r, s⟩ := h c cs; ⟨v, w'', hK _ _ r, stepsIn_wide.2 s⟩⟩
  | halt x w' => cases x <;> simp only [Oper.upon, Oper.uponIn] at h ⊢ <;> first | exact hQ _ _ _ h | exact h

theorem wpList_app {ro : Option Nat} {P : Program} {ops : Array Oper} {Q Q' : Exit → Act → World → Prop} (hQ : ∀ c a w, Q (.panic c) a w → Q' (.panic c) a w) (hL : ¬ LetsOut Q) (post : List Oper)
    (hn : ∀ a w, Q .normal a w → wpListIn (wideR ro) 0 P ops Q' post a w) : ∀ (l : List Oper), noDefer l = true → ∀ a w, wpList P ops Q l a w → wpListIn (wideR ro) 0 P ops Q' (l ++ post) a w
  | [], _, a, w, h => hn a w h
  | o :: l, hd, a, w, h => by
    have hd1 := noDefer_spec hd o (List.mem_cons_self ..)
    have hd2 : noDefer l = true := by simp only [noDefer, Bool.and_eq_true] at hd; exact hd.2
    unfold wpList at h
    show wpListIn (wideR ro) 0 P ops Q' (o :: (l ++ post)) a w
    unfold wpListIn
    split at h
    · rename_i hw
      rw [if_pos hw]
      rcases h with h | h
      · exact Oper.wp_in2 hd1 (fun a w => wpList_app hQ hL post hn l hd2 a w) hQ hL h
      · exact absurd h.2 hL
    · rename_i hw
      rw [if_neg hw]
      exact ⟨fun _ _ => trivial, wpList_app hQ hL post hn l hd2 _ _ h⟩

/-- Code, walked to an end that is told raw. -/
def DWr (Γ : Ctx) (c : Code) (R : Exit → Act → World → Prop) (k : Nat) (L : Sl) (H : Hp) : Prop := ∀ e a w, Models Γ (lo k) L H e a w → c.wpIn (wideR Γ.rd) 0 Γ.P R a w

/-- An end that is told raw, as the end of a walk over data. -/
def rawQ (Γ : Ctx) (R : Exit → Act → World → Prop) : Post := fun ex k L H => ∀ e a w, Models Γ (lo k) L H e a w → R ex a w

section
variable {Γ : Ctx} {k : Nat} {L : Sl} {H : Hp} {R : Exit → Act → World → Prop}
theorem dwr_of {c : Code} (hp : Γ.pan = noPan) (h : DW Γ c (rawQ Γ R) k L H) : DWr Γ c R k L H := fun e a w m => wpIn_mono (h e a w m) (by
  rintro ex a' w' (⟨k', L', H', e', m', hq⟩ | ⟨v, _, _, _, hv, _⟩)
  · exact hq _ _ _ m'
  · rw [hp] at hv; exact hv.elim)
theorem dwr_seq {x y : Code} (hp : Γ.pan = noPan) (h : DW Γ x (thenD (DWr Γ y R) (rawQ Γ R)) k L H) : DWr Γ (.seq x y) R k L H := fun e a w m => by
  refine wpIn_seq (wpIn_mono (h e a w m) ?_)
  rintro ex a' w' (⟨k', L', H', e', m', hq⟩ | ⟨v, _, _, _, hv, _⟩)
  · cases ex with
    | normal => exact hq _ _ _ m'
    | _ => exact hq _ _ _ m'
  · rw [hp] at hv; exact hv.elim
theorem dwr_run {c : Code} {e : Env} {a : Act} {w : World} (m : Models Γ (lo k) L H e a w) (h : DWr Γ c R k L H) : c.wpIn (wideR Γ.rd) 0 Γ.P R a w := h e a w m
theorem dw_run {Q : Post} {c : Code} {e : Env} {a : Act} {w : World} (m : Models Γ (lo k) L H e a w) (h : DW Γ c Q k L H) : c.wpIn (wideR Γ.rd) 0 Γ.P (lift Γ Q) a w := h e a w m
theorem dw_regionE {Q : Post} {id : Nat} {l : List Oper} (h : DS false Γ l l (Q .normal) k L H) (hn : noDefer l = true := by rfl) : DW Γ (.region id l.toArray false) Q k L H := ds_region hn h
theorem dwr_ent {c : Code} {k' L' H'} (he : Ent Γ k L H k' L' H') (h : DWr Γ c R k' L' H') : DWr Γ c R k L H := fun e a w m =>
  let ⟨e', m'⟩ := he e a w m
  h e' a w m'
end

section
variable {Γ : Ctx} {k : Nat} {L : Sl} {H : Hp} {R : Exit → Act → World → Prop}
theorem dwr_seqR {x y : Code} (h : DWr Γ x (Exit.then (y.wpIn (wideR Γ.rd) 0 Γ.P R) R) k L H) : DWr Γ (.seq x y) R k L H := fun e a w m => wpIn_seq (h e a w m)
theorem dwr_block {id : Nat} {c : Code} (h : DWr Γ c (Exit.inBlock id R) k L H) : DWr Γ (.block id c) R k L H := fun e a w m => wpIn_block (h e a w m)
theorem rawQ_i {ex : Exit} (h : ∀ e a w, Models Γ (lo k) L H e a w → R ex a w) : rawQ Γ R ex k L H := h
end

abbrev Oit (X : Nat → Prop) (W0 W : World) : Nat → Prop := fun b => b < W.heap.size ∧ (X b ∨ W0.heap.size ≤ b)
/-- What an iterator was handed, in a later world. -/
theorem it_rel {P : Program} {τ : List (Nat × TI)} {τok : TabOk P τ} {N : Nat} {X : Nat → Prop} {W0 W : World} (hs : W0.heap.size ≤ W.heap.size) (hfr : ∀ b, b < W0.heap.size → ¬ X b → W.heap[b]? = W0.heap[b]?)
    {s : SV} {v : Value} {e0 : Env} (hlow : s.low 0 = true) (h : Rel X e0 W0 s v) {k : Nat → Prop} {H : Hp} {e : Env} {w : World} (hh : Heap (Γit P τ τok (Oit X W0 W) W N) k H e w) : Rel (Ctx.X (Γit P τ τok (Oit X W0 W) W N) e H) e w s v := by
  have hb := hh.it_below
  refine Rel.keep (Nat.le_trans hs hb.size) (fun b hb1 hx => (hb.block b (Nat.lt_of_lt_of_le hb1 hs)).trans (hfr b hb1 hx)) (fun b hb1 hx => ?_) _ _ (Rel.env _ _ hlow h)
  rcases hx with hx | hx
  · rcases hx.2 with h1 | h1
    · exact h1
    · omega
  · rcases (hh.mine b hx).1 with h1 | h1
    · exact h1.elim
    · have h1 : W.heap.size ≤ b := h1
      omega

/-- A block of data that nothing turns from here on, captured by a function. -/
theorem ent_freeze {Γ : Ctx} {k : Nat} {L : Sl} {H : Hp} (t i : Nat) {f : FuncId} {ty : TypeId} {ds : List D} (hL : L.get t = .fn f [.loc i 0]) (hH : Hp.get H i = some (.blk ty (ds.map .d))) : Ent Γ k L H k ((t, .fn f [.pd ds]) :: L) (Hp.del H i) := by
  intro e a w m
  obtain ⟨m2, hX⟩ := m.del i
  have hmem := Hp.mem_of hH
  refine ⟨e, m2.toHeap, m2.defers, m2.len, fun t' => ?_⟩
  rw [Sl.get_cons]
  split
  · rename_i ht
    subst ht
    have hs := m.slot t
    rw [hL] at hs
    obtain ⟨vs, h1, h2⟩ := hs
    refine ⟨vs, h1, ?_⟩
    match vs, h2 with
    | [v], ⟨⟨_, hv⟩, _⟩ =>
      refine ⟨?_, trivial⟩
      obtain ⟨us, g1, g2, _⟩ := (m.heap _ hmem).2
      have hown : HB.owned e (i, .blk ty (ds.map .d)) = some (e.β i) := rfl
      refine ⟨e.β i, 0, hv, lt_of_heap g1, fun hx => ?_, fun j hj => ?_⟩
      · rcases hx with hx | hx
        · exact (m.mine _ (List.mem_filterMap.2 ⟨_, hmem, hown⟩)).2 hx
        · obtain ⟨p, hp, hpg⟩ := List.mem_filterMap.1 hx
          have hd := Hp.del_mem (i := i) H m.ids p hp
          exact m.owned_ne hd.1 hmem hd.2 hpg hown
      · obtain ⟨u, g3, g4⟩ := RelL.get _ _ g2 j (.d ds[j]) (by rw [List.getElem?_map, List.getElem?_eq_getElem hj]; rfl)
        refine ⟨u, ?_, RepC.keep (Nat.le_refl _) (fun _ _ _ => rfl) (fun b _ h => hX b h) g4⟩
        rw [cell_of_row w _ _ _ ty (0, 0) g1, Nat.zero_add]; simpa using g3
  · exact m2.slot t'

/-- A call of yield within a region that goes in the text's order. -/
theorem dwr_yield {P : Program} {τ : List (Nat × TI)} {τok : TabOk P τ} {O : Nat → Prop} {W : World} {N : Nat} {k : Nat} {L : Sl} {H : Hp} {R : Exit → Act → World → Prop}
    {id l d : Nat} {xs : List Operand} {ts : Array TypeId} {ty : TypeId} {pos : String} {af : Array Edge} {pre post : List Oper} {fy : Nat} (hn : noDefer pre = true) (hnp : noDefer post = true) (hdN : d < N) (Lf : Sl) (hf : flatB Lf = true) (Lp : Bool → Sl)
    (J' Jx : World → Prop)
    (hpre : DL (Γit P τ τok O W N) (pre ++ ⟨some d, .call { callee := .value (.tmp fy), args := xs.toArray, argTypes := ts }, ty, pos, af, none⟩ :: post) pre (fun _ L' _ => L'.get fy = .val (.func (.yield l) #[] #[]) ∧ opsOk xs = true ∧ Kepts L' Lf ∧
      ∀ e W' vs, Below W.heap.size W W' → RelL O e W' (opsL L' xs) vs → ∃ r : Loop, W'.heap[l]? = some (Obj.loop r) ∧ vs.toArray.size = r.params.size ∧
        RoundIn Fence.wide 0 P l r.fn ((r.params.zip vs.toArray).foldl (fun t (p, v) => t.setIfInBounds p v) r.tmps) r.assign r.body W'
          (fun en W'' => (en = .returned (.bool true) ∧ J' W'') ∨ (en = .returned (.bool false) ∧ Jx W''))) k L H)
    (hpost : ∀ (b : Bool) (W' : World), DL (Γit P τ τok (fun _ => False) W' N) (pre ++ ⟨some d, .call { callee := .value (.tmp fy), args := xs.toArray, argTypes := ts }, ty, pos, af, none⟩ :: post) post (fun _ L' H' => H' = [] ∧ Kepts L' (Lp b) ∧ flatB (Lp b) = true) 0 ((d, .d (.bool b)) :: Lf) [])
    (hR : ∀ (b : Bool) a' W', Flat N (Lp b) a' → (∃ W1, Below W1.heap.size W1 W' ∧ ((b = true ∧ J' W1) ∨ (b = false ∧ Jx W1))) → R .normal a' W') :
    DWr (Γit P τ τok O W N) (.region id (pre ++ ⟨some d, .call { callee := .value (.tmp fy), args := xs.toArray, argTypes := ts }, ty, pos, af, none⟩ :: post).toArray false) R k L H := by
  intro e a w m
  refine wpIn_region_lit ?_
  refine wpList_app (Q := lift (Γit P τ τok O W N) (onNormal _)) ?_ letsOut_lift _ ?_ pre hn a w (hpre e a w m)
  · rintro c a' w' (⟨_, _, _, _, _, hx, _⟩ | ⟨_, _, _, _, hv, _⟩)
    · cases hx
    · exact hv.elim
  rintro a' w' (⟨k', L', H', e', m', _, hy, hok, hkf, hround⟩ | ⟨_, _, _, hx, _⟩)
  rotate_left
  · cases hx
  have hfl := m'.flatten hkf hf
  unfold wpListIn
  rw [if_pos (by rfl)]
  refine ⟨fun _ _ => trivial, ?_⟩
  rw [Oper.semAt_eq _ _ _ (by intro c h; cases h)]
  have hyv : a'.eval (.tmp fy) = .func (.yield l) #[] #[] := by
    have h1 := m'.slot fy
    rw [hy] at h1
    exact h1
  have hb := m'.toHeap.it_below
  obtain ⟨r, h1, h2, h3⟩ := hround e' w' (xs.map a'.eval) hb (RelL.keep (Nat.le_refl _) (fun _ _ _ => rfl) (fun b _ hx => .inl hx) _ _ (opsL_rel m' xs hok))
  have hrun : (execOp a'.eval ⟨some d, .call { callee := .value (.tmp fy), args := xs.toArray, argTypes := ts }, ty, pos, af, none⟩).run P w' =
      .ok (.round l r.fn ((r.params.zip (xs.map a'.eval).toArray).foldl (fun t (p, v) => t.setIfInBounds p v) r.tmps) r.assign r.body) w' := by
    simp only [execOp, resolve]
    simp only [hyv]
    have := run_yield (P := P) (w := w') h1 h2
    simp [Deferred.ofValue, invoke, this]
  rw [hrun]
  rw [Oper.uponIn_round]
  refine ⟨depth_wideR, h3.mono ?_⟩
  have fin : ∀ (b : Bool) W1, ((b = true ∧ J' W1) ∨ (b = false ∧ Jx W1)) → wpListIn (wideR none) 0 P (pre ++ ⟨some d, .call { callee := .value (.tmp fy), args := xs.toArray, argTypes := ts }, ty, pos, af, none⟩ :: post).toArray R post (a'.put (some d) (.bool b)) W1 := by
    intro b W1 hj
    have m2 : Models (Γit P τ τok (fun _ => False) W1 N) (lo 0) ((d, .d (.bool b)) :: Lf) [] ⟨fun _ => 0, fun _ => undef, lo 0⟩ (a'.put (some d) (.bool b)) W1 :=
      (hfl.models W1 (fun _ h => h.elim)).put (s := .d (.bool b)) hdN RepC.bool
    have := wpList_app (ro := none) (Q := lift (Γit P τ τok (fun _ => False) W1 N) (onNormal _)) (Q' := R) ?_ letsOut_lift [] ?_ post hnp _ _ (hpost b W1 _ _ _ m2)
    · rw [List.append_nil] at this; exact this
    · rintro c a' w' (⟨_, _, _, _, _, hx, _⟩ | ⟨_, _, _, _, hv, _⟩)
      · cases hx
      · exact hv.elim
    · rintro a3 w3 (⟨k3, L3, H3, e3, m3, _, rfl, hk3, hf3⟩ | ⟨_, _, _, hx, _⟩)
      · exact hR b a3 w3 (m3.flatten hk3 hf3) ⟨W1, m3.toHeap.it_below, hj⟩
      · cases hx
  rintro en W1 (⟨rfl, hj⟩ | ⟨rfl, hj⟩)
  · exact fin true W1 (.inl ⟨rfl, hj⟩)
  · exact fin false W1 (.inr ⟨rfl, hj⟩)
/-- .. with the operations as they stand. -/
theorem dwr_yieldL {P : Program} {τ : List (Nat × TI)} {τok : TabOk P τ} {O : Nat → Prop} {W : World} {N : Nat} {k : Nat} {L : Sl} {H : Hp} {R : Exit → Act → World → Prop}
    {id l d : Nat} {xs : List Operand} {ts : Array TypeId} {ty : TypeId} {pos : String} {af : Array Edge} {ops pre post : List Oper} {fy : Nat} (hl : ops = pre ++ ⟨some d, .call { callee := .value (.tmp fy), args := xs.toArray, argTypes := ts }, ty, pos, af, none⟩ :: post)
    (hn : noDefer pre = true) (hnp : noDefer post = true) (hdN : Nat.blt d N = true) (Lf : Sl) (hf : flatB Lf = true) (Lp : Bool → Sl)
    (J' Jx : World → Prop)
    (hpre : DS false (Γit P τ τok O W N) ops pre (fun _ L' _ => L'.get fy = .val (.func (.yield l) #[] #[]) ∧ opsOk xs = true ∧ Kepts L' Lf ∧
      ∀ e W' vs, Below W.heap.size W W' → RelL O e W' (opsL L' xs) vs → ∃ r : Loop, W'.heap[l]? = some (Obj.loop r) ∧ vs.toArray.size = r.params.size ∧
        RoundIn Fence.wide 0 P l r.fn ((r.params.zip vs.toArray).foldl (fun t (p, v) => t.setIfInBounds p v) r.tmps) r.assign r.body W'
          (fun en W'' => (en = .returned (.bool true) ∧ J' W'') ∨ (en = .returned (.bool false) ∧ Jx W''))) k L H)
    (hpost : ∀ (b : Bool) (W' : World), DS false (Γit P τ τok (fun _ => False) W' N) ops post (fun _ L' H' => H' = [] ∧ Kepts L' (Lp b) ∧ flatB (Lp b) = true) 0 ((d, .d (.bool b)) :: Lf) [])
    (hR : ∀ (b : Bool) a' W', Flat N (Lp b) a' → (∃ W1, Below W1.heap.size W1 W' ∧ ((b = true ∧ J' W1) ∨ (b = false ∧ Jx W1))) → R .normal a' W') :
    DWr (Γit P τ τok O W N) (.region id ops.toArray false) R k L H := by
  subst hl
  exact dwr_yield hn hnp (Nat.le_of_ble_eq_true hdN) Lf hf Lp J' Jx hpre hpost hR
end Go.Proofs.Ytapciiffpnociab

/- relation.Set, Has. Condition: none. -/
namespace Go.Proofs.Ytapciiffpnociab
open Go Go.RowKit
theorem FnP.imp {dr : Bool} {P : Program} {τ : List (Nat × TI)} {τok : TabOk P τ} {f : FuncId} {args : List SV} {R R' : SV → Prop} (h : FnP dr P τ τok f args R) (g : ∀ r, R r → R' r) : FnP dr P τ τok f args R' :=
  ⟨h.1, fun O e w vs hH hr => (h.2 O e w vs hH hr).mono fun _ _ ⟨k', r, H', e', v, ⟨a, b, c⟩, d⟩ => ⟨k', r, H', e', v, ⟨a, b, g r c⟩, d⟩⟩
attribute [local irreducible] DW DS DL DQ Ev FnOk FnP thenD inBlockD DT

theorem keepS_fn (l : List Fct) (g : FuncId) (caps : List SV) (pr : Fct → Bool) (hlow : SV.lowL 0 caps = true) (hl : l.length ≤ 4398046511104) (hargs : ∀ x ∈ l, x.args.length ≤ 17592186044416) (hg : ∀ x ∈ l, Fn g ([elFct x] ++ caps) (fun r => r = .d (.bool (pr x)))) :
    Fn 14 [.d (.slice 2 (l.map encFct)), .fn g caps] (fun r => r = .d (.slice 2 ((setF' (l.filter pr)).map encFct))) :=
  FnP.imp (keep_fn l g caps pr hlow hl hargs hg) fun r ⟨s, h1, h2, h3⟩ => by rw [h3, keep_set h1 h2]
set_option maxHeartbeats 8000000 in
theorem set_fn (l : List Fct) (hl : l.length ≤ 4398046511104) (hargs : ∀ x ∈ l, x.args.length ≤ 17592186044416) : Fn 8 [.d (.slice 2 (l.map encFct))] (fun r => r = .d (.slice 2 ((setF' l).map encFct))) := by
  refine fnp_enter' _ Try.func8 rfl rfl (by kernel_rfl) ?_
  intro O w0 E0 β0
  have hk := keepS_fn l 18 [] (fun _ => true) rfl hl hargs (fun x _ => setAny_fn x)
  rw [show l.filter (fun _ => true) = l from List.filter_eq_self.2 fun _ _ => rfl] at hk
  repeat' (first | (apply ds_evC; exact rfl; (with_reducible exact trivial); (with_reducible exact rfl); exact rfl; exact rfl; exact rfl) | apply ds_nil | apply dw_seq2 | (apply ds_region; exact rfl) | apply dw_ret | apply thenD_n | (apply ds_call; exact rfl; exact rfl; apply hk; exact rfl; (exact rfl); exact rfl; rintro _ rfl))
  exact ⟨.inl rfl, _, rfl, rfl, rfl⟩

set_option maxHeartbeats 8000000 in
theorem has1_fn (x f : Fct) : Fn 20 [elFct x, .pd (encFct f)] (fun r => r = .d (.bool (decide (ordF x f = 0)))) := by
  refine fnp_enter' _ Try.func20 rfl rfl (by kernel_rfl) ?_
  intro O w0 E0 β0
  have hs := rsame_fn x f
  repeat' (first | (apply ds_evC; exact rfl; (with_reducible exact trivial); (with_reducible exact rfl); exact rfl; exact rfl; exact rfl) | apply ds_nil | apply dw_seq2 | (apply ds_region; exact rfl) | apply dw_ret | apply thenD_n | (apply ds_call; exact rfl; exact rfl; apply hs; exact rfl; (exact rfl); exact rfl; rintro _ rfl) | (apply ds_newC; exact rfl; (with_reducible exact trivial); exact rfl; exact rfl; exact rfl))
  exact ⟨.inl rfl, _, rfl, rfl, rfl⟩
set_option maxHeartbeats 8000000 in
theorem has_fn (l : List Fct) (f : Fct) : Fn 9 [.d (.slice 2 (l.map encFct)), elFct f] (fun r => r = .d (.bool (hasF l f))) := by
  refine fnp_enter' _ Try.func9 rfl rfl (by kernel_rfl) ?_
  intro O w0 E0 β0
  have hc := containsFuncFct_fn (f := 20) (caps := [.pd (encFct f)]) (fun x => decide (ordF x f = 0)) l rfl (fun x _ => has1_fn x f)
  repeat' (first | (apply ds_evC; exact rfl; (with_reducible exact trivial); (with_reducible exact rfl); exact rfl; exact rfl; exact rfl) | apply ds_nil | apply dw_seq2 | (apply ds_region; exact rfl) | apply thenD_n | (apply ds_newC; exact rfl; (with_reducible exact trivial); exact rfl; exact rfl; exact rfl))
  refine ds_ent (ent_freeze (ds := encFct f) 6 0 rfl rfl) ?_
  repeat' (first | (apply ds_evC; exact rfl; (with_reducible exact trivial); (with_reducible exact rfl); exact rfl; exact rfl; exact rfl) | apply ds_nil | apply dw_ret | apply thenD_n | (apply ds_call; exact rfl; exact rfl; apply hc; exact rfl; (exact rfl); exact rfl; rintro _ rfl))
  exact ⟨.inl rfl, _, rfl, rfl, rfl⟩

set_option maxHeartbeats 8000000 in
theorem minus1_fn (m : List Fct) (x : Fct) (hm : m.length ≤ 4398046511104) (hs : Strict m) : Fn 15 [elFct x, .pd [.slice 2 (m.map encFct)]] (fun r => r = .d (.bool (!hasF m x))) := by
  refine fnp_enter' _ Try.func15 rfl rfl (by kernel_rfl) ?_
  intro O w0 E0 β0
  have hi := in_fn m x hm hs
  repeat' (first | (apply ds_evC; exact rfl; (with_reducible exact trivial); (with_reducible exact rfl); exact rfl; exact rfl; exact rfl) | apply ds_nil | apply dw_seq2 | (apply ds_region; exact rfl) | apply dw_ret | apply thenD_n | (apply ds_call; exact rfl; exact rfl; apply hi; exact rfl; (exact rfl); exact rfl; rintro _ rfl) | (apply ds_newC; exact rfl; (with_reducible exact trivial); exact rfl; exact rfl; exact rfl))
  exact ⟨.inl rfl, _, rfl, rfl, rfl⟩
set_option maxHeartbeats 8000000 in
theorem minus_fn (l m : List Fct) (hl : l.length ≤ 4398046511104) (hm : m.length ≤ 4398046511104) (ha : ∀ x ∈ l, x.args.length ≤ 17592186044416) (hb : ∀ x ∈ m, x.args.length ≤ 17592186044416) :
    Fn 6 [.d (.slice 2 (l.map encFct)), .d (.slice 2 (m.map encFct))] (fun r => r = .d (.slice 2 ((setF' (l.filter fun x => !hasF (setF' m) x)).map encFct))) := by
  refine fnp_enter' _ Try.func6 rfl rfl (by kernel_rfl) ?_
  intro O w0 E0 β0
  have h1 := set_fn m hm hb
  have hsl : (setF' m).length ≤ 4398046511104 := by have := setF_len m []; simp at this; unfold setF'; omega
  have hk := keepS_fn l 15 [.pd [.slice 2 ((setF' m).map encFct)]] (fun x => !hasF (setF' m) x) rfl hl ha (fun x _ => minus1_fn (setF' m) x hsl (setF_spec m).1)
  repeat' (first | (apply ds_evC; exact rfl; (with_reducible exact trivial); (with_reducible exact rfl); exact rfl; exact rfl; exact rfl) | apply ds_nil | apply dw_seq2 | (apply ds_region; exact rfl) | apply thenD_n | (apply ds_call; exact rfl; exact rfl; apply h1; exact rfl; (exact rfl); exact rfl; rintro _ rfl) | (apply ds_newC; exact rfl; (with_reducible exact trivial); exact rfl; exact rfl; exact rfl) | (apply ds_setC; exact rfl; exact rfl; exact rfl; exact rfl))
  refine ds_ent (ent_freeze (ds := [.slice 2 ((setF' m).map encFct)]) 9 0 rfl rfl) ?_
  repeat' (first | (apply ds_evC; exact rfl; (with_reducible exact trivial); (with_reducible exact rfl); exact rfl; exact rfl; exact rfl) | apply ds_nil | apply dw_ret | apply thenD_n | (apply ds_call; exact rfl; exact rfl; apply hk; exact rfl; (exact rfl); exact rfl; rintro _ rfl))
  exact ⟨.inl rfl, _, rfl, rfl, rfl⟩
end Go.Proofs.Ytapciiffpnociab

/- slices.Grow and slices.Concat over facts. Condition: none. -/
namespace Go.Proofs.Ytapciiffpnociab
open Go Go.RowKit
attribute [local irreducible] DW DS DL DQ Ev FnOk FnP thenD inBlockD DT

set_option maxHeartbeats 8000000 in
theorem grow_fn (n : Nat) (hn : n ≤ 4398046511104) : FnOk false Try.prog tab tab_ok 26 [.nils, .d (.int .i64 n)] 0 0 [] (fun _ r H => r = .row 0 ∧ H = [(0, .row 25 2 [])]) := by
  refine fn_enterR _ Try.func26 rfl rfl (by kernel_rfl) ?_
  intro O w0 E0 β0
  by_cases h0 : n = 0
  · subst h0
    repeat' (first | (apply ds_evC; exact rfl; (with_reducible exact trivial); (with_reducible exact rfl); exact rfl; exact rfl; exact rfl) | apply ds_nil | apply dw_seq2 | (apply ds_region; exact rfl) | apply dw_skip | (apply dw_condF; exact rfl) | apply thenD_n)
    all_goals try (exfalso; omega)
    refine ds_ev (ev_cap_nils rfl rfl) rfl rfl ?_
    repeat' (first | (apply ds_evC; exact rfl; (first | (with_reducible exact trivial) | omega); (with_reducible exact rfl); exact rfl; exact rfl; exact rfl) | apply ds_nil | apply dw_seq2 | (apply ds_region; exact rfl) | apply dw_skip | (apply dw_condF; exact rfl) | apply thenD_n)
    all_goals try (exfalso; omega)
    refine dw_ent (ent_nilrow (t := 4) 25 2 rfl) ?_
    repeat' (apply dw_ret)
    exact ⟨.inl rfl, _, rfl, id, 1, .row 0, [(0, .row 25 2 [])], rfl, ⟨rfl, trivial⟩, rfl, rfl, rfl, rfl, rfl, rfl, rfl, rfl⟩
  · repeat' (first | (apply ds_evC; exact rfl; (with_reducible exact trivial); (with_reducible exact rfl); exact rfl; exact rfl; exact rfl) | apply ds_nil | apply dw_seq2 | (apply ds_region; exact rfl) | apply dw_skip | (apply dw_condF; exact rfl) | apply thenD_n)
    all_goals try (exfalso; omega)
    refine ds_ev (ev_cap_nils rfl rfl) rfl rfl ?_
    repeat' (first | (apply ds_evC; exact rfl; (first | (with_reducible exact trivial) | omega); (with_reducible exact rfl); exact rfl; exact rfl; exact rfl) | apply ds_nil | apply dw_seq2 | (apply ds_region; exact rfl) | apply dw_skip | apply dw_ret | apply thenD_n | (apply dw_condP; exact rfl; all_goals intro hg))
    all_goals try (exfalso; omega)
    refine ds_ev (ev_cap_nils rfl rfl) rfl rfl ?_
    repeat' (apply ds_evC; exact rfl; (first | (with_reducible exact trivial) | omega); (with_reducible exact rfl); exact rfl; exact rfl; exact rfl)
    all_goals try (exfalso; omega)
    refine ds_apmk (n := n) (es := 2) (te := 25) [.int .i64 0, .slice 1 []] rfl rfl (by omega) rfl rfl rfl rfl ⟨.inl rfl, .inr ⟨rfl, 1, rfl⟩, trivial⟩ rfl rfl (by omega) (by omega) ?_ (by unfold maxLen; omega) rfl rfl ?_
    · show n * 32 ≤ _
      omega
    repeat' (first | (apply ds_evC; exact rfl; (first | (with_reducible exact trivial) | omega); (with_reducible exact rfl); exact rfl; exact rfl; exact rfl) | apply ds_nil | apply dw_seq2 | (apply ds_region; exact rfl) | apply thenD_n)
    all_goals try (exfalso; omega)
    refine dw_ent (ent_cut (n := 0) 4 rfl rfl (Nat.zero_le _) rfl) ?_
    repeat' (apply dw_ret)
    exact ⟨.inl rfl, _, rfl, fun j => match j with | 0 => 1 | j => j, 1, .row 0, [(0, .row 25 2 [])], rfl, ⟨rfl, trivial⟩, rfl, rfl, rfl, rfl, rfl, rfl, rfl, rfl⟩

theorem sum_take {ls : List (List Fct)} {i : Nat} (hi : i < ls.length) : ((ls.take (i + 1)).map List.length).sum = ((ls.take i).map List.length).sum + ls[i].length := by
  rw [List.take_succ_eq_append_getElem hi, List.map_append, List.sum_append]; rfl
theorem sum_le (ls : List (List Fct)) (i : Nat) : ((ls.take i).map List.length).sum ≤ (ls.map List.length).sum := by
  have h : (ls.map List.length).sum = ((ls.take i).map List.length).sum + ((ls.drop i).map List.length).sum := by rw [← List.sum_append, ← List.map_append, List.take_append_drop]
  omega
set_option maxHeartbeats 8000000 in
theorem concat_fn (ls : List (List Fct)) (h : (ls.map List.length).sum ≤ 4398046511104) (h2 : ls.length ≤ 4398046511104) : Fn 13 [.d (.slice 1 (ls.map fun l => [.slice 2 (l.map encFct)]))] (fun r => r = .d (.slice 2 (ls.flatten.map encFct))) := by
  refine fnp_enter' _ Try.func13 rfl rfl (by kernel_rfl) ?_
  intro O w0 E0 β0
  have ll : (ls.map fun l => [D.slice 2 (l.map encFct)]).length = ls.length := List.length_map _
  repeat' (first | (apply ds_evC; exact rfl; (with_reducible exact trivial); (with_reducible exact rfl); exact rfl; exact rfl; exact rfl) | apply ds_nil | apply dw_seq2 | (apply ds_region; exact rfl) | apply dw_block | apply thenD_n)
  refine ds_loop (ι := Nat) (fun i => ⟨0, [(0, .d (.slice 1 (ls.map fun l => [.slice 2 (l.map encFct)]))), (3, .d (.int .i64 (((ls.take i).map List.length).sum : Nat))), (9, .d (.slice 1 (ls.map fun l => [.slice 2 (l.map encFct)]))), (10, .d (.int .i64 ls.length)), (11, .d (.int .i64 i))], []⟩)
    (fun i => i ≤ ls.length) (fun i => ls.length - i) 0 (Nat.zero_le _) (ent_ren id ⟨rfl, rfl, rfl, by rw [← ll]; rfl, rfl, trivial⟩ trivial rfl rfl rfl rfl rfl rfl) ?_
  intro i g1
  by_cases hi : i < ls.length
  · have h3 := sum_take hi
    have h4 := sum_le ls (i + 1)
    have h5 : (ls[i].map encFct).length = ls[i].length := List.length_map _
    repeat' (first | (apply ds_evC; exact rfl; (first | (with_reducible exact trivial) | omega); (first | ((with_reducible apply hv_row); (exact rfl); (omega)) | (with_reducible exact rfl)); exact rfl; exact rfl; exact rfl) | apply ds_nil | apply dw_seq2 | (apply ds_region; exact rfl) | apply dw_block | apply dw_skip | apply dw_exit | (apply dw_condF; exact rfl) | apply thenD_n | apply thenD_e | apply inB_n | (apply inB_e; exact rfl) | (apply dw_condP; exact rfl; all_goals intro hg))
    all_goals try (exfalso; omega)
    exact ⟨i + 1, by omega, ent_ren id ⟨rfl, congrArg (fun z => SV.d (.int .i64 z)) (by rw [h3, h5]; omega), rfl, rfl, rfl, trivial⟩ trivial rfl rfl rfl rfl rfl rfl, by omega⟩
  · rw [List.take_of_length_le (by omega)]
    repeat' (first | (apply ds_evC; exact rfl; (first | (with_reducible exact trivial) | omega); (first | ((with_reducible apply hv_row); (exact rfl); (omega)) | (with_reducible exact rfl)); exact rfl; exact rfl; exact rfl) | apply ds_nil | apply dw_seq2 | (apply ds_region; exact rfl) | apply dw_block | apply dw_skip | apply dw_exit | (apply dw_condF; exact rfl) | apply thenD_n | apply thenD_e | apply inB_n | (apply inB_e; exact rfl) | (apply dw_condP; exact rfl; all_goals intro hg))
    all_goals try (exfalso; omega)
    refine ds_callF id (grow_fn (ls.map List.length).sum h) rfl rfl rfl rfl trivial rfl rfl rfl rfl rfl rfl ?_ ?_
    · rintro k2 r H2 ⟨rfl, rfl⟩; exact ⟨rfl, rfl⟩
    rintro k2 r H2 ⟨rfl, rfl⟩
    change DS _ _ _ _ _ _ _ _
    repeat' (first | (apply ds_evC; exact rfl; (with_reducible exact trivial); (with_reducible exact rfl); exact rfl; exact rfl; exact rfl) | apply ds_nil | apply dw_seq2 | (apply ds_region; exact rfl) | apply dw_block | apply thenD_n)
    refine ds_loop (ι := Nat) (fun i => ⟨1, [(6, .row 0), (25, .d (.slice 1 (ls.map fun l => [.slice 2 (l.map encFct)]))), (26, .d (.int .i64 ls.length)), (27, .d (.int .i64 i))], [(0, .row 25 2 ((ls.take i).flatten.map encFct))]⟩)
      (fun i => i ≤ ls.length) (fun i => ls.length - i) 0 (Nat.zero_le _) (ent_ren id ⟨rfl, rfl, by rw [← ll]; rfl, rfl, trivial⟩ ⟨rfl, trivial⟩ rfl rfl rfl rfl rfl rfl) ?_
    clear hi g1
    intro i g1
    by_cases hi : i < ls.length
    · have h3 := sum_take hi
      have h4 := sum_le ls (i + 1)
      have h5 : (ls[i].map encFct).length = ls[i].length := List.length_map _
      have h6 : ((ls.take i).flatten.map encFct).length = ((ls.take i).map List.length).sum := by rw [List.length_map, List.length_flatten]
      have h7 : (ls.take (i + 1)).flatten = (ls.take i).flatten ++ ls[i] := by rw [List.take_succ_eq_append_getElem hi, List.flatten_append]; simp
      repeat' (first | (apply ds_evC; exact rfl; (first | (with_reducible exact trivial) | omega); (first | ((with_reducible apply hv_row); (exact rfl); (omega)) | (with_reducible exact rfl)); exact rfl; exact rfl; exact rfl) | apply ds_nil | apply dw_seq2 | (apply ds_region; exact rfl) | apply dw_block | apply dw_skip | apply dw_exit | apply dw_ret | apply thenD_n | apply thenD_e | apply inB_n | (apply inB_e; exact rfl) | (apply ds_tradeC; exact rfl; (unfold maxLen at *; omega); exact rfl; exact rfl; exact rfl; exact rfl) | (apply dw_condP; exact rfl; all_goals intro hg))
      all_goals try (exfalso; omega)
      exact ⟨i + 1, by omega, ent_ren (fun _ => 1) ⟨rfl, rfl, rfl, rfl, trivial⟩ ⟨by rw [h7, List.map_append]; rfl, trivial⟩ rfl rfl rfl rfl rfl rfl, by omega⟩
    · rw [List.take_of_length_le (by omega)]
      repeat' (first | (apply ds_evC; exact rfl; (first | (with_reducible exact trivial) | omega); (first | ((with_reducible apply hv_row); (exact rfl); (omega)) | (with_reducible exact rfl)); exact rfl; exact rfl; exact rfl) | apply ds_nil | apply dw_seq2 | (apply ds_region; exact rfl) | apply dw_block | apply dw_skip | apply dw_exit | apply thenD_n | apply thenD_e | apply inB_n | (apply inB_e; exact rfl) | (apply ds_tradeC; exact rfl; (omega); exact rfl; exact rfl; exact rfl; exact rfl) | (apply dw_condP; exact rfl; all_goals intro hg))
      all_goals try (exfalso; omega)
      refine dw_ent (ent_seal 2 rfl rfl rfl) ?_
      repeat' (apply dw_ret)
      exact ⟨.inl rfl, _, rfl, rfl, rfl⟩
end Go.Proofs.Ytapciiffpnociab

/- The document's UnionOf and MinusOf. Condition: none. -/
namespace Go.Proofs.Ytapciiffpnociab
open Go Go.RowKit
attribute [local irreducible] DW DS DL DQ Ev FnOk FnP thenD inBlockD DT

def minusL (l m : List Fct) : List Fct := l.filter fun x => !hasF m x
end Go.Proofs.Ytapciiffpnociab

/- The document's MatchOf. Condition: none. -/
namespace Go.Proofs.Ytapciiffpnociab
open Go Go.RowKit
attribute [local irreducible] DW DS DL DQ Ev FnOk FnP thenD inBlockD DT
def encBm (b : Bool) : List D := [.bool b]
def allFrom (P : Nat → Bool) : Nat → Nat → Bool
  | _, 0 => true
  | k, n + 1 => P k && allFrom P (k + 1) n
theorem allFrom_step {P : Nat → Bool} {n k : Nat} (h : k < n) : allFrom P k (n - k) = (P k && allFrom P (k + 1) (n - (k + 1))) := by
  rw [show n - k = (n - (k + 1)) + 1 by omega]; rfl
def matchK (args : List Int) (bound : List Bool) (x : Fct) (k : Nat) : Bool := decide (bound.length ≤ k) || (!bound.getD k false || decide (x.args.getD k 0 = args.getD k 0))
def matchB (pred : Int) (args : List Int) (bound : List Bool) (x : Fct) : Bool := (decide (x.pred = pred) && decide ((x.args.length : Int) = (args.length : Int))) && allFrom (matchK args bound x) 0 args.length
def matchL (l : List Fct) (pred : Int) (args : List Int) (bound : List Bool) : List Fct := l.filter (matchB pred args bound)

end Go.Proofs.Ytapciiffpnociab

/- relation.Match's own test of a fact. Condition: none. -/
namespace Go.Proofs.Ytapciiffpnociab
open Go Go.RowKit
attribute [local irreducible] DW DS DL DQ Ev FnOk FnP thenD inBlockD DT

set_option maxHeartbeats 8000000 in
theorem match1_fn (x : Fct) (pred : Int) (args : List Int) (bound : List Bool) : Fn 25 [elFct x, .pd [.int .i64 pred], .pd [.slice 1 (args.map encI)], .pd [.slice 1 (bound.map encBm)]] (fun r => r = .d (.bool (matchB pred args bound x))) := by
  refine fnp_enter' _ Try.func25 rfl rfl (by kernel_rfl) ?_
  intro O w0 E0 β0
  have lb : (args.map encI).length = args.length := List.length_map _
  have lc : (bound.map encBm).length = bound.length := List.length_map _
  have lx : (x.args.map encI).length = x.args.length := List.length_map _
  by_cases hp : x.pred = pred
  · by_cases hl : x.args.length = args.length
    · have hm : matchB pred args bound x = allFrom (matchK args bound x) 0 (args.length - 0) := by unfold matchB; rw [decide_eq_true hp, decide_eq_true (by omega)]; rfl
      rw [hm]
      repeat' (first | (apply ds_evC; exact rfl; (with_reducible exact trivial); (with_reducible exact rfl); exact rfl; exact rfl; exact rfl) | (apply ds_skip; exact rfl; exact rfl) | apply ds_nil | apply dw_seq2 | (apply ds_region; exact rfl) | apply dw_block | apply dw_skip | apply dw_ret | (apply dw_condT; exact rfl) | apply thenD_n | apply thenD_r | (apply ds_newC; exact rfl; (with_reducible exact trivial); exact rfl; exact rfl; exact rfl) | (apply dw_condP; exact rfl; all_goals intro hg) | ((fail_if_success (apply ds_known; exact rfl)); apply ds_guardP; exact rfl; exact rfl; exact rfl; all_goals intro hg))
      all_goals try (exfalso; omega)
      all_goals try (exfalso; simp_all; done)
      refine dw_len (t := 20) rfl (fun hk2 => ?_)
      refine ds_loop (ι := Nat) (fun i => ⟨1, [(1, .pd [.int .i64 pred]), (2, .pd [.slice 1 (args.map encI)]), (3, .pd [.slice 1 (bound.map encBm)]), (4, .loc 0 0), (20, .d (.slice 1 (args.map encI))), (21, .d (.int .i64 args.length)), (22, .d (.int .i64 i))], [(0, .blk 25 [.d (.int .i64 x.pred), .d (.slice 1 (x.args.map encI))])]⟩)
        (fun i => i ≤ args.length ∧ allFrom (matchK args bound x) 0 (args.length - 0) = allFrom (matchK args bound x) i (args.length - i)) (fun i => args.length - i) 0 ⟨Nat.zero_le _, rfl⟩ (ent_ren id ⟨rfl, rfl, rfl, rfl, rfl, by rw [← lb]; rfl, rfl, trivial⟩ ⟨rfl, trivial⟩ rfl rfl rfl rfl rfl rfl) ?_
      rintro i ⟨e1, e3⟩
      dsimp only at e1 e3 ⊢
      by_cases hk : i < args.length
      · rw [allFrom_step hk] at e3
        have ha : args.getD i 0 = args[i] := by rw [List.getD, List.getElem?_eq_getElem hk]; rfl
        have hx : x.args.getD i 0 = x.args[i]'(by omega) := by rw [List.getD, List.getElem?_eq_getElem (by omega)]; rfl
        have hmk : matchK args bound x i = (decide (bound.length ≤ i) || (!bound.getD i false || decide (x.args[i]'(by omega) = args[i]))) := by unfold matchK; rw [ha, hx]
        by_cases hbk : bound.length ≤ i
        · rw [decide_eq_true hbk, Bool.true_or] at hmk
          rw [hmk, Bool.true_and] at e3
          repeat' (first | (apply ds_evC; exact rfl; (first | (with_reducible exact trivial) | omega); (first | ((with_reducible apply hv_row); (exact rfl); (omega)) | (with_reducible exact rfl)); exact rfl; exact rfl; exact rfl) | (apply ds_skip; exact rfl; exact rfl) | apply ds_nil | apply dw_seq2 | (apply ds_region; exact rfl) | apply dw_block | apply dw_skip | apply dw_exit | apply dw_ret | (apply dw_condF; exact rfl) | apply thenD_n | apply thenD_e | apply thenD_r | apply inB_n | apply inB_r | (apply inB_e; exact rfl) | (apply dw_condP; exact rfl; all_goals intro hg) | ((fail_if_success (apply ds_known; exact rfl)); apply ds_guardP; exact rfl; exact rfl; exact rfl; all_goals intro hg) | ((fail_if_success (apply ds_known; exact rfl)); apply ds_guardB; exact rfl; exact rfl; exact rfl; all_goals intro hg))
          all_goals try (exfalso; omega)
          all_goals exact ⟨i + 1, ⟨by omega, e3⟩, ent_ren id ⟨rfl, rfl, rfl, rfl, rfl, rfl, rfl, trivial⟩ ⟨rfl, trivial⟩ rfl rfl rfl rfl rfl rfl, by omega⟩
        · have hbg : bound.getD i false = bound[i]'(by omega) := by rw [List.getD, List.getElem?_eq_getElem (by omega)]; rfl
          rw [decide_eq_false hbk, Bool.false_or, hbg] at hmk
          cases hbb : bound[i]'(by omega) with
          | false =>
            rw [hbb, Bool.not_false, Bool.true_or] at hmk
            rw [hmk, Bool.true_and] at e3
            repeat' (first | (apply ds_evC; exact rfl; (first | (with_reducible exact trivial) | omega); (first | ((with_reducible apply hv_row); (exact rfl); (omega)) | (with_reducible exact rfl)); exact rfl; exact rfl; exact rfl) | (apply ds_skip; exact rfl; exact rfl) | apply ds_nil | apply dw_seq2 | (apply ds_region; exact rfl) | apply dw_block | apply dw_skip | apply dw_exit | apply dw_ret | (apply dw_condF; exact rfl) | apply thenD_n | apply thenD_e | apply thenD_r | apply inB_n | apply inB_r | (apply inB_e; exact rfl) | (apply dw_condP; exact rfl; all_goals intro hg) | ((fail_if_success (apply ds_known; exact rfl)); apply ds_guardP; exact rfl; exact rfl; exact rfl; all_goals intro hg) | ((fail_if_success (apply ds_known; exact rfl)); apply ds_guardB; exact rfl; exact rfl; exact rfl; all_goals intro hg))
            all_goals try (exfalso; omega)
            all_goals try (exfalso; simp_all; done)
            all_goals exact ⟨i + 1, ⟨by omega, e3⟩, ent_ren id ⟨rfl, rfl, rfl, rfl, rfl, rfl, rfl, trivial⟩ ⟨rfl, trivial⟩ rfl rfl rfl rfl rfl rfl, by omega⟩
          | true =>
            rw [hbb, Bool.not_true, Bool.false_or] at hmk
            rw [hmk] at e3
            repeat' (first | (apply ds_evC; exact rfl; (first | (with_reducible exact trivial) | omega); (first | ((with_reducible apply hv_row); (exact rfl); (omega)) | (with_reducible exact rfl)); exact rfl; exact rfl; exact rfl) | (apply ds_skip; exact rfl; exact rfl) | apply ds_nil | apply dw_seq2 | (apply ds_region; exact rfl) | apply dw_block | apply dw_skip | apply dw_exit | apply dw_ret | (apply dw_condF; exact rfl) | apply thenD_n | apply thenD_e | apply thenD_r | apply inB_n | apply inB_r | (apply inB_e; exact rfl) | (apply dw_condP; exact rfl; all_goals intro hg) | ((fail_if_success (apply ds_known; exact rfl)); apply ds_guardP; exact rfl; exact rfl; exact rfl; all_goals intro hg) | ((fail_if_success (apply ds_known; exact rfl)); apply ds_guardB; exact rfl; exact rfl; exact rfl; all_goals intro hg))
            all_goals try (exfalso; omega)
            all_goals try (exfalso; simp_all; done)
            all_goals first
              | exact ⟨.inl rfl, _, rfl, rfl, congrArg (fun z => SV.d (.bool z)) (by rw [e3]; simp_all)⟩
              | exact ⟨i + 1, ⟨by omega, by rw [e3, decide_eq_true (by simp_all)]; rfl⟩, ent_ren id ⟨rfl, rfl, rfl, rfl, rfl, rfl, rfl, trivial⟩ ⟨rfl, trivial⟩ rfl rfl rfl rfl rfl rfl, by omega⟩
      · rw [e3, show args.length - i = 0 by omega]
        repeat' (first | (apply ds_evC; exact rfl; (first | (with_reducible exact trivial) | omega); (first | ((with_reducible apply hv_row); (exact rfl); (omega)) | (with_reducible exact rfl)); exact rfl; exact rfl; exact rfl) | (apply ds_skip; exact rfl; exact rfl) | apply ds_nil | apply dw_seq2 | (apply ds_region; exact rfl) | apply dw_block | apply dw_skip | apply dw_exit | apply dw_ret | (apply dw_condF; exact rfl) | apply thenD_n | apply thenD_e | apply thenD_r | apply inB_n | apply inB_r | (apply inB_e; exact rfl) | (apply dw_condP; exact rfl; all_goals intro hg) | ((fail_if_success (apply ds_known; exact rfl)); apply ds_guardP; exact rfl; exact rfl; exact rfl; all_goals intro hg) | ((fail_if_success (apply ds_known; exact rfl)); apply ds_guardB; exact rfl; exact rfl; exact rfl; all_goals intro hg))
        all_goals try (exfalso; omega)
        exact ⟨.inl rfl, _, rfl, rfl, rfl⟩
    · have hm : matchB pred args bound x = false := by unfold matchB; rw [decide_eq_false (p := (x.args.length : Int) = _) (by omega)]; simp
      rw [hm]
      repeat' (first | (apply ds_evC; exact rfl; (with_reducible exact trivial); (with_reducible exact rfl); exact rfl; exact rfl; exact rfl) | (apply ds_skip; exact rfl; exact rfl) | apply ds_nil | apply dw_seq2 | (apply ds_region; exact rfl) | apply dw_block | apply dw_skip | apply dw_ret | (apply dw_condT; exact rfl) | apply thenD_n | apply thenD_r | (apply ds_newC; exact rfl; (with_reducible exact trivial); exact rfl; exact rfl; exact rfl) | (apply dw_condP; exact rfl; all_goals intro hg) | ((fail_if_success (apply ds_known; exact rfl)); apply ds_guardP; exact rfl; exact rfl; exact rfl; all_goals intro hg))
      all_goals try (exfalso; omega)
      all_goals try (exfalso; simp_all; done)
      exact ⟨.inl rfl, _, rfl, rfl, rfl⟩
  · have hm : matchB pred args bound x = false := by unfold matchB; rw [decide_eq_false hp]; rfl
    rw [hm]
    repeat' (first | (apply ds_evC; exact rfl; (with_reducible exact trivial); (with_reducible exact rfl); exact rfl; exact rfl; exact rfl) | (apply ds_skip; exact rfl; exact rfl) | apply ds_nil | apply dw_seq2 | (apply ds_region; exact rfl) | apply dw_block | apply dw_skip | apply dw_ret | (apply dw_condT; exact rfl) | apply thenD_n | apply thenD_r | (apply ds_newC; exact rfl; (with_reducible exact trivial); exact rfl; exact rfl; exact rfl) | (apply dw_condP; exact rfl; all_goals intro hg) | ((fail_if_success (apply ds_known; exact rfl)); apply ds_guardP; exact rfl; exact rfl; exact rfl; all_goals intro hg))
    all_goals try (exfalso; omega)
    all_goals try (exfalso; simp_all; done)
    exact ⟨.inl rfl, _, rfl, rfl, rfl⟩
end Go.Proofs.Ytapciiffpnociab

/- relation.Union, relation.Match. Condition: none. -/
namespace Go.Proofs.Ytapciiffpnociab
open Go Go.RowKit
/-- A block of data that nothing turns from here on: what points to it points into data. -/
theorem ent_freezeL {Γ : Ctx} {k : Nat} {L : Sl} {H : Hp} (t i : Nat) {ty : TypeId} {ds : List D} (hL : L.get t = .loc i 0) (hH : Hp.get H i = some (.blk ty (ds.map .d))) : Ent Γ k L H k ((t, .pd ds) :: L) (Hp.del H i) := by
  intro e a w m
  obtain ⟨m2, hX⟩ := m.del i
  have hmem := Hp.mem_of hH
  refine ⟨e, m2.toHeap, m2.defers, m2.len, fun t' => ?_⟩
  rw [Sl.get_cons]
  split
  · rename_i ht
    subst ht
    have hs := m.slot t
    rw [hL] at hs
    obtain ⟨_, hv⟩ := hs
    obtain ⟨us, g1, g2, _⟩ := (m.heap _ hmem).2
    have hown : HB.owned e (i, .blk ty (ds.map .d)) = some (e.β i) := rfl
    refine ⟨e.β i, 0, hv, lt_of_heap g1, fun hx => ?_, fun j hj => ?_⟩
    · rcases hx with hx | hx
      · exact (m.mine _ (List.mem_filterMap.2 ⟨_, hmem, hown⟩)).2 hx
      · obtain ⟨p, hp, hpg⟩ := List.mem_filterMap.1 hx
        have hd := Hp.del_mem (i := i) H m.ids p hp
        exact m.owned_ne hd.1 hmem hd.2 hpg hown
    · obtain ⟨u, g3, g4⟩ := RelL.get _ _ g2 j (.d ds[j]) (by rw [List.getElem?_map, List.getElem?_eq_getElem hj]; rfl)
      refine ⟨u, ?_, RepC.keep (Nat.le_refl _) (fun _ _ _ => rfl) (fun b _ h => hX b h) g4⟩
      rw [cell_of_row w _ _ _ ty (0, 0) g1, Nat.zero_add]; simpa using g3
  · exact m2.slot t'
attribute [local irreducible] DW DS DL DQ Ev FnOk FnP thenD inBlockD DT

set_option maxHeartbeats 8000000 in
theorem union_fn (l m : List Fct) (hl : l.length + m.length ≤ 4398046511104) (ha : ∀ x ∈ l, x.args.length ≤ 17592186044416) (hb : ∀ x ∈ m, x.args.length ≤ 17592186044416) :
    Fn 5 [.d (.slice 2 (l.map encFct)), .d (.slice 2 (m.map encFct))] (fun r => r = .d (.slice 2 ((setF' (l ++ m)).map encFct))) := by
  refine fnp_enter' _ Try.func5 rfl rfl (by kernel_rfl) ?_
  intro O w0 E0 β0
  have hc : Fn 13 [.d (.slice 1 [[.slice 2 (l.map encFct)], [.slice 2 (m.map encFct)]])] (fun r => r = .d (.slice 2 ((l ++ m).map encFct))) := by
    have h := concat_fn [l, m] (by simpa using hl) (by simp)
    rw [show [l, m].flatten = l ++ m by simp] at h
    exact h
  have hs := set_fn (l ++ m) (by rw [List.length_append]; exact hl) (fun x hx => (List.mem_append.1 hx).elim (ha x) (hb x))
  repeat' (first | (apply ds_evC; exact rfl; (with_reducible exact trivial); (with_reducible exact rfl); exact rfl; exact rfl; exact rfl) | apply ds_nil | apply dw_seq2 | (apply ds_region; exact rfl) | apply dw_ret | apply thenD_n | (apply ds_call; exact rfl; exact rfl; apply hc; exact rfl; (exact rfl); exact rfl; rintro _ rfl) | (apply ds_call; exact rfl; exact rfl; apply hs; exact rfl; (exact rfl); exact rfl; rintro _ rfl) | (apply ds_bsC; exact rfl; exact rfl; exact rfl; exact rfl))
  exact ⟨.inl rfl, _, rfl, rfl, rfl⟩
set_option maxHeartbeats 8000000 in
theorem match_fn (l : List Fct) (pred : Int) (args : List Int) (bound : List Bool) (hl : l.length ≤ 4398046511104) (ha : ∀ x ∈ l, x.args.length ≤ 17592186044416) :
    Fn 12 [.d (.slice 2 (l.map encFct)), .d (.int .i64 pred), .d (.slice 1 (args.map encI)), .d (.slice 1 (bound.map encBm))] (fun r => r = .d (.slice 2 ((setF' (matchL l pred args bound)).map encFct))) := by
  refine fnp_enter' _ Try.func12 rfl rfl (by kernel_rfl) ?_
  intro O w0 E0 β0
  have hk := keepS_fn l 25 [.pd [.int .i64 pred], .pd [.slice 1 (args.map encI)], .pd [.slice 1 (bound.map encBm)]] (matchB pred args bound) rfl hl ha (fun x _ => match1_fn x pred args bound)
  repeat' ((fail_if_success (apply dw_stopS 1)); (first | (apply ds_evC; exact rfl; (with_reducible exact trivial); (with_reducible exact rfl); exact rfl; exact rfl; exact rfl) | apply ds_nil | apply dw_seq2 | (apply ds_region; exact rfl) | apply thenD_n | (apply ds_newC; exact rfl; (with_reducible exact trivial); exact rfl; exact rfl; exact rfl)))
  refine dw_ent (ent_freezeL (ds := [.int .i64 pred]) 5 0 rfl rfl) ?_
  refine dw_ent (ent_freezeL (ds := [.slice 1 (args.map encI)]) 6 1 rfl rfl) ?_
  refine dw_ent (ent_freezeL (ds := [.slice 1 (bound.map encBm)]) 7 2 rfl rfl) ?_
  repeat' (first | (apply ds_evC; exact rfl; (with_reducible exact trivial); (with_reducible exact rfl); exact rfl; exact rfl; exact rfl) | apply ds_nil | apply dw_seq2 | (apply ds_region; exact rfl) | apply dw_ret | apply thenD_n | (apply ds_call; exact rfl; exact rfl; apply hk; exact rfl; (exact rfl); exact rfl; rintro _ rfl))
  exact ⟨.inl rfl, _, rfl, rfl, rfl⟩
end Go.Proofs.Ytapciiffpnociab

/- The law RelationTells. Condition: none. -/
namespace Go.Proofs.Ytapciiffpnociab
open Go Go.RowKit
theorem hasF_set (m : List Fct) (x : Fct) : hasF (setF' m) x = hasF m x := by
  rw [Bool.eq_iff_iff, hasF_iff, hasF_iff, (setF_spec m).2]
theorem minus_same (l m : List Fct) : (l.filter fun x => !hasF (setF' m) x) = minusL l m := by
  unfold minusL
  exact List.filter_congr fun x _ => by rw [hasF_set]
theorem Fct.same_refl (x : Fct) : Fct.same x x = true := by unfold Fct.same; simp [ordF_self]
attribute [local irreducible] DW DS DL DQ Ev FnOk FnP thenD inBlockD DT

theorem sameSelf_fn (l : List Fct) : Fn 7 [.d (.slice 2 (l.map encFct)), .d (.slice 2 (l.map encFct))] (fun r => r = .d (.bool true)) := by
  have h := sameFacts_fn l l
  rw [sameL_refl Fct.same_refl] at h
  exact h
set_option maxHeartbeats 8000000 in
theorem rfact_fn (p : Int) (l : List Int) : Fn 11 [.d (.int .i64 p), .d (.slice 1 (l.map encI))] (fun r => r = elFct ⟨p, l⟩) := by
  refine fnp_enter' _ Try.func11 rfl rfl (by kernel_rfl) ?_
  intro O w0 E0 β0
  repeat' (first | (apply ds_evC; exact rfl; (with_reducible exact trivial); (with_reducible exact rfl); exact rfl; exact rfl; exact rfl) | apply ds_nil | apply dw_seq2 | (apply ds_region; exact rfl) | apply dw_ret | apply thenD_n | (apply ds_newC; exact rfl; (with_reducible exact trivial); exact rfl; exact rfl; exact rfl) | (apply ds_setC; exact rfl; exact rfl; exact rfl; exact rfl))
  exact ⟨.inl rfl, _, rfl, rfl, rfl⟩
def fA : Fct := ⟨0, [1]⟩
def fB : Fct := ⟨0, [2]⟩
set_option maxHeartbeats 8000000 in
theorem relationBegun_fn : Fn 4 [] (fun r => r = .d (.bool true)) := by
  refine fnp_enter' _ Try.func4 rfl rfl (by kernel_rfl) ?_
  intro O w0 E0 β0
  have e1 := rfact_fn 0 [1]
  have e2 := rfact_fn 0 [2]
  have h1 := orderF_fn fA fB
  rw [show ordF fA fB = -1 by decide] at h1
  have h2 := orderF_fn fB fB
  rw [ordF_self] at h2
  have hs : ∀ x ∈ [fB, fA, fB], x.args.length ≤ 17592186044416 := by decide
  have h3 := set_fn [fB, fA, fB] (by decide) hs
  rw [show setF' [fB, fA, fB] = [fA, fB] by kernel_rfl] at h3
  have h4 := has_fn [fB, fA, fB] fA
  rw [show hasF [fB, fA, fB] fA = true by decide] at h4
  have h5 := minus_fn [fB, fA, fB] [fB] (by decide) (by decide) hs (by decide)
  rw [minus_same, show setF' (minusL [fB, fA, fB] [fB]) = [fA] by kernel_rfl] at h5
  have h6 := union_fn [fB, fA, fB] [fB, fA, fB] (by decide) hs hs
  rw [show setF' ([fB, fA, fB] ++ [fB, fA, fB]) = [fA, fB] by kernel_rfl] at h6
  have h7 := match_fn [fB, fA, fB] 0 [2] [true] (by decide) hs
  rw [show setF' (matchL [fB, fA, fB] 0 [2] [true]) = [fB] by kernel_rfl] at h7
  have s1 := sameSelf_fn [fA, fB]
  have s2 := sameSelf_fn [fA]
  have s3 := sameSelf_fn [fB]
  repeat' (first | (apply ds_evC; exact rfl; (with_reducible exact trivial); (with_reducible exact rfl); exact rfl; exact rfl; exact rfl) | apply ds_nil | (apply dt_ev; exact rfl; exact rfl; (with_reducible exact trivial); (with_reducible exact rfl); exact rfl; exact rfl; exact rfl; exact rfl) | (apply dt_nil0; exact rfl; exact rfl; exact rfl; exact rfl) | apply dw_seq2 | (apply ds_region; exact rfl) | (apply dw_any; kernel_rfl; kernel_rfl; exact rfl; exact rfl) | apply dw_ret | apply thenD_n | (apply ds_call; exact rfl; exact rfl; apply e1; exact rfl; (exact rfl); exact rfl; rintro _ rfl) | (apply ds_call; exact rfl; exact rfl; apply e2; exact rfl; (exact rfl); exact rfl; rintro _ rfl) | (apply dt_call; exact rfl; exact rfl; apply h1; exact rfl; (exact rfl); exact rfl; exact rfl; exact ⟨_, rfl⟩; rintro _ rfl) | (apply dt_call; exact rfl; exact rfl; apply h2; exact rfl; (exact rfl); exact rfl; exact rfl; exact ⟨_, rfl⟩; rintro _ rfl) | (apply dt_call; exact rfl; exact rfl; apply h3; exact rfl; (exact rfl); exact rfl; exact rfl; exact ⟨_, rfl⟩; rintro _ rfl) | (apply dt_call; exact rfl; exact rfl; apply h4; exact rfl; (exact rfl); exact rfl; exact rfl; exact ⟨_, rfl⟩; rintro _ rfl) | (apply dt_call; exact rfl; exact rfl; apply h5; exact rfl; (exact rfl); exact rfl; exact rfl; exact ⟨_, rfl⟩; rintro _ rfl) | (apply dt_call; exact rfl; exact rfl; apply h6; exact rfl; (exact rfl); exact rfl; exact rfl; exact ⟨_, rfl⟩; rintro _ rfl) | (apply dt_call; exact rfl; exact rfl; apply h7; exact rfl; (exact rfl); exact rfl; exact rfl; exact ⟨_, rfl⟩; rintro _ rfl) | (apply dt_call; exact rfl; exact rfl; apply s1; exact rfl; (exact rfl); exact rfl; exact rfl; exact ⟨_, rfl⟩; rintro _ rfl) | (apply dt_call; exact rfl; exact rfl; apply s2; exact rfl; (exact rfl); exact rfl; exact rfl; exact ⟨_, rfl⟩; rintro _ rfl) | (apply dt_call; exact rfl; exact rfl; apply s3; exact rfl; (exact rfl); exact rfl; exact rfl; exact ⟨_, rfl⟩; rintro _ rfl) | (apply ds_newC; exact rfl; (with_reducible exact trivial); exact rfl; exact rfl; exact rfl) | (apply ds_setC; exact rfl; exact rfl; exact rfl; exact rfl) | (apply ds_bsC; exact rfl; exact rfl; exact rfl; exact rfl))
  all_goals exact ret_b rfl (by decide)

end Go.Proofs.Ytapciiffpnociab

/- Plain words on unions and differences of sets of facts. Condition: none. -/
namespace Go.Proofs.Ytapciiffpnociab
theorem mem_minus {l m : List Fct} {x : Fct} : x ∈ minusL l m ↔ x ∈ l ∧ x ∉ m := by
  unfold minusL
  rw [List.mem_filter]
  have : hasF m x = true ↔ x ∈ m := hasF_iff
  cases h : hasF m x <;> simp_all
theorem set_ext {l m : List Fct} (h : ∀ x, x ∈ l ↔ x ∈ m) : setF' l = setF' m :=
  strict_ext (setF_spec l).1 (setF_spec m).1 fun x => by rw [(setF_spec l).2, (setF_spec m).2, h]
theorem union_comm (l m : List Fct) : setF' (m ++ l) = setF' (l ++ m) := set_ext fun x => by simp [or_comm]
theorem set_set (l : List Fct) : setF' (setF' l) = setF' l := set_ext fun x => (setF_spec l).2 x
theorem union_minus (l m : List Fct) : setF' (setF' (minusL l m) ++ m) = setF' (l ++ m) := set_ext fun x => by
  rw [List.mem_append, List.mem_append, (setF_spec _).2, mem_minus]
  by_cases h : x ∈ m <;> simp [h]
theorem has_union (l m : List Fct) (f : Fct) : hasF (setF' (l ++ m)) f = (hasF l f || hasF m f) := by
  rw [Bool.eq_iff_iff, hasF_iff, (setF_spec _).2, Bool.or_eq_true, hasF_iff, hasF_iff, List.mem_append]
theorem has_minus (l m : List Fct) (f : Fct) : hasF (setF' (minusL l m)) f = (hasF l f && !hasF m f) := by
  rw [Bool.eq_iff_iff, hasF_iff, (setF_spec _).2, mem_minus, Bool.and_eq_true, hasF_iff]
  have : hasF m f = true ↔ f ∈ m := hasF_iff
  cases h : hasF m f <;> simp_all
theorem order_laws (f g h : Fct) : ordF f g = -ordF g f ∧ (0 < ordF f g ∨ 0 < ordF g h ∨ ordF f h ≤ 0) ∧ (0 ≤ ordF f g ∨ 0 < ordF g h ∨ ordF f h < 0) := by
  have a1 := ordF_anti f g
  have a2 := ordF_anti g h
  have a3 := ordF_anti f h
  refine ⟨a1, ?_, ?_⟩
  · by_cases h1 : 0 < ordF f g
    · exact .inl h1
    by_cases h2 : 0 < ordF g h
    · exact .inr (.inl h2)
    have := ordF_le (a := h) (b := g) (c := f) (by omega) (by omega)
    exact .inr (.inr (by omega))
  · by_cases h1 : 0 ≤ ordF f g
    · exact .inl h1
    by_cases h2 : 0 < ordF g h
    · exact .inr (.inl h2)
    by_cases h3 : ordF g h = 0
    · have := ordF_eq0 h3
      subst this
      have h5 : ordF f g < 0 := by omega
      exact .inr (.inr h5)
    · exact .inr (.inr (ordF_trans (b := g) (by omega) (by omega)))
end Go.Proofs.Ytapciiffpnociab

/- The law RelationHangs. Condition: none. -/
namespace Go.Proofs.Ytapciiffpnociab
open Go Go.RowKit
section
variable {Γ : Ctx} {k : Nat} {L : Sl} {H : Hp} {t ty : TypeId} {x : Operand}
theorem ev_neg {kk : Nat → Prop} {n : Int} (hx : opSV L x = .d (.int .i64 n)) (hw : -9223372036854775807 ≤ n ∧ n ≤ 9223372036854775807) : Ev Γ kk L H (.unOp .neg t x) ty (.d (.int .i64 (-n))) := by
  intro e a w m
  have hi := IntWalk.i64_in (n := -n) (by omega)
  exact ⟨.int .i64 (-n), fun _ _ _ _ w' _ => by simp [execOp, evI m hx, Op.unary, Op.intArith, hi], .int (WalkArith.wf_i64 (by omega))⟩
end
theorem cmpI_rng (a b : Int) : -1 ≤ cmpI a b ∧ cmpI a b ≤ 1 := by unfold cmpI; repeat' split <;> omega
theorem ordL_rng : ∀ a b : List Int, -1 ≤ ordL a b ∧ ordL a b ≤ 1
  | [], [] => by simp [ordL]
  | [], _ :: _ => by simp [ordL]
  | _ :: _, [] => by simp [ordL]
  | x :: a, y :: b => by
    have := ordL_rng a b
    have := cmpI_rng x y
    unfold ordL
    split <;> omega
theorem ordF_rng (a b : Fct) : -1 ≤ ordF a b ∧ ordF a b ≤ 1 := by
  unfold ordF
  split
  · exact ordL_rng _ _
  · exact cmpI_rng _ _
attribute [local irreducible] DW DS DL DQ Ev FnOk FnP thenD inBlockD DT

set_option maxHeartbeats 8000000 in
theorem relationHangs_fn (l m : List Fct) (f g h : Fct) (hl : l.length ≤ 1099511627776) (hm : m.length ≤ 1099511627776) (ha : ∀ x ∈ l, x.args.length ≤ 17592186044416) (hb : ∀ x ∈ m, x.args.length ≤ 17592186044416) :
    Fn 3 [.d (.slice 2 (l.map encFct)), .d (.slice 2 (m.map encFct)), elFct f, elFct g, elFct h] (fun r => r = .d (.bool true)) := by
  refine fnp_enter' _ Try.func3 rfl rfl (by kernel_rfl) ?_
  intro O w0 E0 β0
  have lU := setF_len (l ++ m) []
  have lD := setF_len (minusL l m) []
  have lM : (minusL l m).length ≤ l.length := List.length_filter_le _ _
  simp only [List.length_append, List.length_nil, Nat.add_zero] at lU lD
  have aU : ∀ x ∈ setF' (l ++ m), x.args.length ≤ 17592186044416 := fun x hx => (List.mem_append.1 (((setF_spec _).2 x).1 hx)).elim (ha x) (hb x)
  have aD : ∀ x ∈ setF' (minusL l m), x.args.length ≤ 17592186044416 := fun x hx => ha x (mem_minus.1 (((setF_spec _).2 x).1 hx)).1
  have h1 := union_fn l m (by omega) ha hb
  have h2 := minus_fn l m (by omega) (by omega) ha hb
  rw [minus_same] at h2
  have h3 := union_fn m l (by omega) hb ha
  rw [union_comm l m] at h3
  have h4 := set_fn (setF' (l ++ m)) (by unfold setF'; omega) aU
  rw [set_set] at h4
  have h5 := union_fn (setF' (minusL l m)) m (by unfold setF'; omega) aD hb
  rw [union_minus] at h5
  have s1 := sameSelf_fn (setF' (l ++ m))
  have p1 := has_fn (setF' (l ++ m)) f
  rw [has_union] at p1
  have p2 := has_fn (setF' (minusL l m)) f
  rw [has_minus] at p2
  have p3 := has_fn l f
  have p4 := has_fn m f
  have o1 := orderF_fn f g
  have o2 := orderF_fn g h
  have o3 := orderF_fn f h
  have o4 := orderF_fn g f
  obtain ⟨q1, q2, q3⟩ := order_laws f g h
  repeat' (first | (apply ds_evC; exact rfl; (with_reducible exact trivial); (with_reducible exact rfl); exact rfl; exact rfl; exact rfl) | apply ds_nil | (apply dt_ev; exact rfl; exact rfl; (with_reducible exact trivial); (with_reducible exact rfl); exact rfl; exact rfl; exact rfl; exact rfl) | (apply dt_skipD; exact rfl; exact rfl; exact rfl) | (apply dt_nil0; exact rfl; exact rfl; exact rfl; exact rfl) | apply dw_seq2 | (apply ds_region; exact rfl) | (apply dw_any; kernel_rfl; kernel_rfl; exact rfl; exact rfl) | apply dw_skip | apply dw_ret | (apply dw_condT; exact rfl) | (apply dw_condF; exact rfl) | apply thenD_n | apply thenD_r | (apply ds_call; exact rfl; exact rfl; apply relationBegun_fn; exact rfl; (exact rfl); exact rfl; rintro _ rfl) | (apply ds_call; exact rfl; exact rfl; apply h1; exact rfl; (exact rfl); exact rfl; rintro _ rfl) | (apply ds_call; exact rfl; exact rfl; apply h2; exact rfl; (exact rfl); exact rfl; rintro _ rfl) | (apply ds_call; exact rfl; exact rfl; apply h3; exact rfl; (exact rfl); exact rfl; rintro _ rfl) | (apply ds_call; exact rfl; exact rfl; apply h4; exact rfl; (exact rfl); exact rfl; rintro _ rfl) | (apply ds_call; exact rfl; exact rfl; apply h5; exact rfl; (exact rfl); exact rfl; rintro _ rfl) | (apply ds_call; exact rfl; exact rfl; apply s1; exact rfl; (exact rfl); exact rfl; rintro _ rfl) | (apply dt_call; exact rfl; exact rfl; apply p1; exact rfl; (exact rfl); exact rfl; exact rfl; exact ⟨_, rfl⟩; rintro _ rfl) | (apply dt_call; exact rfl; exact rfl; apply p2; exact rfl; (exact rfl); exact rfl; exact rfl; exact ⟨_, rfl⟩; rintro _ rfl) | (apply dt_call; exact rfl; exact rfl; apply p3; exact rfl; (exact rfl); exact rfl; exact rfl; exact ⟨_, rfl⟩; rintro _ rfl) | (apply dt_call; exact rfl; exact rfl; apply p4; exact rfl; (exact rfl); exact rfl; exact rfl; exact ⟨_, rfl⟩; rintro _ rfl) | (apply dt_call; exact rfl; exact rfl; apply o1; exact rfl; (exact rfl); exact rfl; exact rfl; exact ⟨_, rfl⟩; rintro _ rfl) | (apply dt_call; exact rfl; exact rfl; apply o2; exact rfl; (exact rfl); exact rfl; exact rfl; exact ⟨_, rfl⟩; rintro _ rfl) | (apply dt_call; exact rfl; exact rfl; apply o3; exact rfl; (exact rfl); exact rfl; exact rfl; exact ⟨_, rfl⟩; rintro _ rfl) | (apply ds_call; exact rfl; exact rfl; apply o4; exact rfl; (exact rfl); exact rfl; rintro _ rfl) | (apply ds_newC; exact rfl; (with_reducible exact trivial); exact rfl; exact rfl; exact rfl) | (apply dw_cond; exact rfl; all_goals intro hg) | ((fail_if_success (apply dt_known; exact rfl)); apply dt_guard; exact rfl; exact rfl; exact rfl; all_goals intro hg))
  all_goals clear h1 h2 h3 h4 h5 s1 p1 p2 p3 p4 o1 o2 o3 o4
  all_goals generalize hasF l f = b1 at *
  all_goals generalize hasF m f = b2 at *
  all_goals try (exfalso; cases b1 <;> cases b2 <;> simp_all; done)
  all_goals clear ha hb lD lM lU aU aD hl hm
  all_goals have hrng := ordF_rng g f
  all_goals refine ds_ev (ev_neg (n := ordF g f) rfl (by omega)) rfl rfl ?_
  all_goals repeat' (first | (apply ds_evC; exact rfl; (with_reducible exact trivial); (with_reducible exact rfl); exact rfl; exact rfl; exact rfl) | (apply ds_skip; exact rfl; exact rfl) | apply ds_nil | apply dw_ret | apply thenD_n | ((fail_if_success (apply ds_known; exact rfl)); apply ds_guardP; exact rfl; exact rfl; exact rfl; all_goals intro hg))
  all_goals first
    | (exfalso; omega)
    | exact ret_b rfl rfl
    | exact ret_b rfl (decide_eq_true (by omega))
end Go.Proofs.Ytapciiffpnociab

/- Lists of facts that are handed in, read as data, with their sizes. Condition: none. -/
namespace Go.Proofs.Ytapciiffpnociab
open Go Go.RowKit

theorem listOfR {R : Nat} {α : Type} {e : RT} {enc : α → List D} {p : α → Prop} (h : ∀ x, TyDR R e x → ∃ t, x = enc t ∧ p t) : ∀ (l : List (List D)), (∀ x ∈ l, TyDR R e x) → ∃ ts : List α, l = ts.map enc ∧ ∀ t ∈ ts, p t
  | [], _ => ⟨[], rfl, by simp⟩
  | x :: l, hl => by
    obtain ⟨t, rfl, ht⟩ := h x (hl x (List.mem_cons_self ..))
    obtain ⟨ts, rfl, hts⟩ := listOfR h l fun y hy => hl y (List.mem_cons_of_mem _ hy)
    exact ⟨t :: ts, rfl, fun u hu => (List.mem_cons.1 hu).elim (fun e => e ▸ ht) (hts u)⟩
theorem sliceOfR {R : Nat} {α : Type} {c b : Nat} {e : RT} {enc : α → List D} {p : α → Prop} (h : ∀ x, TyDR R e x → ∃ t, x = enc t ∧ p t) (x : List D) (hx : TyDR R (.slice c b e) x) : ∃ ts : List α, x = [.slice c (ts.map enc)] ∧ ts.length * b ≤ R ∧ ∀ t ∈ ts, p t := by
  obtain ⟨l, h1, _, rfl, h3⟩ := hx
  obtain ⟨ts, rfl, h4⟩ := listOfR h l h3
  exact ⟨ts, rfl, by rw [← List.length_map (f := enc)]; exact h1, h4⟩
abbrev rtFctR : RT := .struct [.int .i64, .slice 1 8 (.int .i64)]
theorem int_ofR {R : Nat} (x : List D) (h : TyDR R (.int .i64) x) : ∃ n : Int, x = encI n ∧ True := by
  obtain ⟨n, _, rfl⟩ := h
  exact ⟨n, rfl, trivial⟩
theorem bool_ofR {R : Nat} (x : List D) (h : TyDR R .bool x) : ∃ n : Bool, x = encBm n ∧ True := by
  obtain ⟨n, rfl⟩ := h
  exact ⟨n, rfl, trivial⟩
theorem fct_ofR {R : Nat} (x : List D) (h : TyDR R rtFctR x) : ∃ t : Fct, x = encFct t ∧ t.args.length * 8 ≤ R := by
  obtain ⟨a, b, rfl, ⟨k, _, rfl⟩, c, d, rfl, h2, rfl⟩ := h
  obtain ⟨l, rfl, hl, _⟩ := sliceOfR int_ofR c h2
  exact ⟨⟨k, l⟩, rfl, hl⟩
theorem fcts_argR {R : Nat} (x : List D) (h : TyDR R (.slice 2 32 rtFctR) x) : ∃ l : List Fct, RT.arg (.slice 2 32 rtFctR) x = .d (.slice 2 (l.map encFct)) ∧ l.length * 32 ≤ R ∧ ∀ t ∈ l, t.args.length * 8 ≤ R := by
  obtain ⟨l, rfl, h1, h2⟩ := sliceOfR fct_ofR x h
  exact ⟨l, rfl, h1, h2⟩
theorem fct_argR {R : Nat} (x : List D) (h : TyDR R rtFctR x) : ∃ f : Fct, RT.arg rtFctR x = elFct f ∧ f.args.length * 8 ≤ R := by
  obtain ⟨f, rfl, h1⟩ := fct_ofR x h
  exact ⟨f, rfl, h1⟩
theorem ints_argR {R : Nat} (x : List D) (h : TyDR R (.slice 1 8 (.int .i64)) x) : ∃ l : List Int, RT.arg (.slice 1 8 (.int .i64)) x = .d (.slice 1 (l.map encI)) ∧ l.length * 8 ≤ R := by
  obtain ⟨l, rfl, h1, _⟩ := sliceOfR int_ofR x h
  exact ⟨l, rfl, h1⟩
theorem bools_argR {R : Nat} (x : List D) (h : TyDR R (.slice 1 1 .bool) x) : ∃ l : List Bool, RT.arg (.slice 1 1 .bool) x = .d (.slice 1 (l.map encBm)) ∧ l.length * 1 ≤ R := by
  obtain ⟨l, rfl, h1, _⟩ := sliceOfR bool_ofR x h
  exact ⟨l, rfl, h1⟩
end Go.Proofs.Ytapciiffpnociab
