/- Several texts in one: GxDo GxCell GxElm. Condition: none. -/
import Derived.Test.YtapciiffpnociaaB06
import Derived.Laws.MakeOwn
import Derived.Laws.OwnMore

/- A plain logic over the walk: one step, as the walks take it. No program is named here. Condition: none. -/
namespace Go.Proofs.Ytapciiffpnociaa
open Go Go.RowKit

theorem u8_range (c : UInt8) : 0 ≤ (c.toNat : Int) ∧ (c.toNat : Int) ≤ 255 := by have := c.toNat_lt; omega
theorem sat_range (s : ByteArray) (i : Nat) : 0 ≤ sat s i ∧ sat s i ≤ 255 := by
  unfold sat
  split
  · exact u8_range _
  · omega
theorem hv_chr {c : UInt8} : SV.d (.str ⟨#[UInt8.ofNat (c.toNat : Int).toNat]⟩) = .d (.str ⟨#[c]⟩) := by simp
theorem hv_row {α : Type} {l : List α} {f : α → List D} {n : Int} {j : Nat} (hn : n = (j : Int)) (h : j < (l.map f).length) : SV.pd (rowAt (l.map f) n.toNat) = .pd (f (l[j]'(by simpa using h))) := by
  have h' : j < l.length := by simpa using h
  subst hn; simp [rowAt, List.getD, h']
theorem hv_prow {i es o : Nat} {n : Int} {j : Nat} (hn : n = (j : Int)) : SV.prow i n.toNat es o = .prow i j es o := by subst hn; rfl
theorem hv_ldrow {τ : List (Nat × TI)} {t : TypeId} {o j : Nat} {xs : List (List D)} {ds : List D} {p : Prop} {s : SV} (hg : xs[j]? = some ds) (hs : loadC τ t (.pd (ds.drop o)) (fun _ => none) = some (p, s)) : loadRow τ t (rowAt xs j) o = s := by
  have hr : rowAt xs j = ds := by simp [rowAt, List.getD, hg]
  unfold loadRow
  rw [hr, hs]
theorem hv_get {α : Type} {f : α → List D} {l : List α} {j : Nat} (h : j < (l.map f).length) : (l.map f)[j]? = some (f (l[j]'(by simpa using h))) := by
  have h' : j < l.length := by simpa using h
  simp [h']
theorem hv_sat {s : ByteArray} {n : Int} {j : Nat} (hn : n = (j : Int)) (h : j < s.size) : SV.d (.int .u8 (sat s n.toNat)) = .d (.int .u8 ((s[j]'h).toNat : Int)) := by
  subst hn; simp [sat_eq h]
theorem bytesOk_one {n : Int} : BytesOk [[D.int .u8 n]] := by
  intro x hx
  rw [List.mem_singleton] at hx
  exact ⟨n, hx⟩
theorem hv_ext {s : ByteArray} {n m : Int} {i j : Nat} (hn : n = (i : Int)) (hm : m = (j : Int)) : SV.d (.str (s.extract n.toNat m.toNat)) = .d (.str (s.extract i j)) := by
  subst hn; subst hm; rfl

mutual
theorem SV.ren_id : ∀ (s : SV), s.ren id = s
  | .junk => rfl
  | .d _ => rfl
  | .nils => rfl
  | .pd _ => rfl
  | .loc _ _ => rfl
  | .row _ => rfl
  | .prow _ _ _ _ => rfl
  | .sl _ _ _ _ => rfl
  | .fn f caps => by simp only [SV.ren, SV.renL_id caps]
  | .agg ss => by simp only [SV.ren, SV.renL_id ss]
  | .tup ss => by simp only [SV.ren, SV.renL_id ss]
  | .val _ => rfl
theorem SV.renL_id : ∀ (ss : List SV), SV.renL id ss = ss
  | [] => rfl
  | s :: ss => by simp only [SV.renL, SV.ren_id s, SV.renL_id ss]
end

/-- What is handed back; what else is owned at the end is let go. -/
def Kept (J : Nat) (R : Nat → SV → Hp → Prop) (_ : Nat) (r : SV) (H : Hp) : Prop :=
  ∃ k2 H2, KnowsH id H H2 ∧ Hp.low k2 H2 = true ∧ distinct (H2.map (·.1)) = true ∧ Nat.ble J k2 = true ∧ r.low k2 = true ∧ R k2 r H2

theorem anchorOk_id : ∀ J, anchorOk id J = true
  | 0 => rfl
  | J + 1 => by simp only [anchorOk, Bool.and_eq_true]; exact ⟨Nat.beq_refl J, anchorOk_id J⟩

theorem fn_enterF {P : Program} {τ : List (Nat × TI)} {τok : TabOk P τ} {f : FuncId} {fn : Func} {c : Code} {args : List SV} {J k : Nat} {H : Hp} {R : Nat → SV → Hp → Prop} (N : Nat) (hf : P.funcs[f]? = some fn) (hb : fn.body = some c)
    (hN : args.length + (fn.ntmps - args.length) = N) (hcall : callable P f = true)
    (h : ∀ (O : Nat → Prop) (w0 : World) (E0 : Nat → Prop) (β0 : Nat → Nat), DW ⟨P, τ, τok, O, w0, E0, N, J, β0, none, noPan, true⟩ c (RetQ τ fn.results.toList (Kept J R)) k (enumSl 0 args) H) : FnOk P τ τok f args J k H R := by
  have h2 := fn_enter (J := J) (k := k) (H := H) N hf hb hN hcall (R := Kept J R) h
  refine ⟨h2.1, fun O e w vs hH hr => (h2.2 O e w vs hH hr).mono ?_⟩
  rintro en w' ⟨k', r, H', e', v, ⟨k2, H2, hK, hl, hd, hj, hrl, hR⟩, rfl, hH', hrel⟩
  obtain ⟨g1, g2⟩ := hH'.ren id k2 H2 hK hl hd hd hj (anchorOk_id J)
  exact ⟨k2, r, H2, e'.ren id k2, v, hR, rfl, g1, Rel.keep (Nat.le_refl _) (fun _ _ _ => rfl) (fun b _ hy => g2 b hy) _ _ (Rel.ren id k2 r v hrl ((SV.ren_id r).symm ▸ hrel))⟩

section
variable {Γ : Ctx} {k κ : Nat} {L : Sl} {H : Hp} {K : Next'} {ops : List Oper} {rest : List Oper} {q : Bool}

theorem ds_evC {d : Nat} {op : Op} {ty : TypeId} {pos : String} {af : Array Edge} {g : Option (Nat × Bool)} {p : Prop} {s s' : SV} (he : evC Γ.τ (opSV L) (Hp.get H) op = some (p, s)) (hp : p) (hv : s = s') (hok : opsOkB op = true)
    (hw : wantedSV ops L g = some true) (hd : Nat.blt d Γ.n = true) (hk : DS q Γ ops rest K k ((d, s') :: L) H) : DS q Γ ops (⟨some d, op, ty, pos, af, g⟩ :: rest) K k L H := by
  subst hv
  exact ds_ev (evC_sound he hp hok) hw hd hk

def setF : Hp → Nat → HB → (Hp → Option Hp) → Option Hp
  | [], _, _, k => k []
  | (d, s) :: H, i, b, k => match Nat.beq d i with
    | true => k ((d, b) :: H)
    | false => setF H i b fun H' => k ((d, s) :: H')
theorem setF_eq (i : Nat) (b : HB) : ∀ (H : Hp) (k : Hp → Option Hp), setF H i b k = k (Hp.set H i b)
  | [], _ => rfl
  | (d, s) :: H, k => by
    simp only [setF, Hp.set]
    cases h : Nat.beq d i with
    | true => rfl
    | false => simp only [setF_eq i b H]
def delF : Hp → Nat → (Hp → Option Hp) → Option Hp
  | [], _, k => k []
  | (d, s) :: H, i, k => match Nat.beq d i with
    | true => k H
    | false => delF H i fun H' => k ((d, s) :: H')
theorem delF_eq (i : Nat) : ∀ (H : Hp) (k : Hp → Option Hp), delF H i k = k (Hp.del H i)
  | [], _ => rfl
  | (d, s) :: H, k => by
    simp only [delF, Hp.del]
    cases h : Nat.beq d i with
    | true => rfl
    | false => simp only [delF_eq i H]

theorem ds_newC {d : Nat} {op : Op} {ty : TypeId} {pos : String} {af : Array Edge} {g : Option (Nat × Bool)} {p : Prop} {s : SV} {b : HB} (he : stepD Γ.τ (opSV L) (Hp.get H) k op = some (p, s, .new b)) (hp : p) (hok : opsOkB op = true)
    (hw : wantedSV ops L g = some true) (hd : Nat.blt d Γ.n = true) (hk : DS false Γ ops rest K (k + 1) ((d, s) :: L) ((k, b) :: H)) : DS false Γ ops (⟨some d, op, ty, pos, af, g⟩ :: rest) K k L H :=
  dl_op hw ((stepD_sound he hp hok hd (lo_not k)).cast (with1_lo k)) hk
theorem ds_tradeC {d j : Nat} {op : Op} {ty : TypeId} {pos : String} {af : Array Edge} {g : Option (Nat × Bool)} {p : Prop} {s : SV} {b : HB} {H' : Hp} (he : stepD Γ.τ (opSV L) (Hp.get H) k op = some (p, s, .trade j b)) (hp : p) (hok : opsOkB op = true)
    (hw : wantedSV ops L g = some true) (hd : Nat.blt d Γ.n = true) (hH : delF H j some = some H') (hk : DS false Γ ops rest K (k + 1) ((d, s) :: L) ((k, b) :: H')) : DS false Γ ops (⟨some d, op, ty, pos, af, g⟩ :: rest) K k L H := by
  rw [delF_eq] at hH
  cases hH
  exact dl_op hw ((stepD_sound he hp hok hd (lo_not k)).cast (with1_lo k)) hk
theorem store_sound {te ty : TypeId} {x y : Operand} {pos : String} {af : Array Edge} {g : Option (Nat × Bool)} {p : Prop} {s : SV} {j : Nat} {b : HB} {D : Nat → Prop} (h : storeC Γ.τ te (opSV L x) (opSV L y) (Hp.get H) = some (p, s, .set j b)) (hok : opOkB y = true) :
    OpOk Γ ⟨none, .store te x y, ty, pos, af, g⟩ D L H D L (Hp.set H j b) := by
  simp only [storeC, forceL_eq] at h
  split at h
  · rename_i i o hx
    split at h
    · rename_i tb cs hH
      split at h
      · rename_i hc
        cases h
        simp only [Bool.and_eq_true] at hc
        exact op_store hx hH rfl hok hc.1 hc.2.1 hc.2.2.1 hc.2.2.2
      · cases h
    · cases h
  · cases h
theorem ds_setC {te ty : TypeId} {x y : Operand} {pos : String} {af : Array Edge} {g : Option (Nat × Bool)} {p : Prop} {s : SV} {j : Nat} {b : HB} {H' : Hp} (he : storeC Γ.τ te (opSV L x) (opSV L y) (Hp.get H) = some (p, s, .set j b)) (hok : opOkB y = true)
    (hw : wantedSV ops L g = some true) (hH : setF H j b some = some H') (hk : DS false Γ ops rest K k L H') : DS false Γ ops (⟨none, .store te x y, ty, pos, af, g⟩ :: rest) K k L H := by
  rw [setF_eq] at hH
  cases hH
  exact dl_op hw (store_sound he hok) hk
theorem bs_sound {d : Nat} {t len : Nat} {ty : TypeId} {pos : String} {af : Array Edge} {g : Option (Nat × Bool)} {ps : Array (Nat × Operand)} {p : Prop} {s : SV} {D : Nat → Prop} (h : buildSliceC Γ.τ (opSV L) t len ps.toList = some (p, s, .no)) (hok : opsOkB (.buildSlice t len ps) = true) (hd : Nat.blt d Γ.n = true) :
    OpOk Γ ⟨some d, .buildSlice t len ps, ty, pos, af, g⟩ D L H D ((d, s) :: L) H := by
  unfold buildSliceC at h
  split at h
  · rename_i te ht
    split at h
    · rename_i hc
      simp only [Bool.and_eq_true] at hc
      obtain ⟨c1, c2, c3, c4, c5⟩ := hc
      split at h
      · rename_i cs hf
        split at h
        · rename_i hl
          split at h
          · rename_i xs hx
            cases h
            obtain ⟨pl⟩ := ps
            have hok' : partsOk pl = true := partsOk_all _ (by simpa [opsOkB, Op.operands, List.all_map, Function.comp_def] using hok)
            rw [show (List.map (fun p => (p.1, opSV L p.2)) (Array.mk pl).toList) = partsSV L pl from (partsSV_map pl).symm] at hf
            exact op_buildSlice ht c1 rfl c2 c3 c4 hok' c5 hf hl hx hd
          · cases h
        · cases h
      · cases h
    · cases h
  · cases h
theorem ds_bsC {d : Nat} {t len : Nat} {ty : TypeId} {pos : String} {af : Array Edge} {g : Option (Nat × Bool)} {ps : Array (Nat × Operand)} {p : Prop} {s : SV} (he : buildSliceC Γ.τ (opSV L) t len ps.toList = some (p, s, .no)) (hok : opsOkB (.buildSlice t len ps) = true)
    (hw : wantedSV ops L g = some true) (hd : Nat.blt d Γ.n = true) (hk : DS false Γ ops rest K k ((d, s) :: L) H) : DS false Γ ops (⟨some d, .buildSlice t len ps, ty, pos, af, g⟩ :: rest) K k L H :=
  dl_op hw (bs_sound he hok hd) hk

mutual
theorem Rel.lower {X e w} (k : Nat) : ∀ (s : SV) (v : Value), s.low k = true → Rel X e w s v → Rel X ⟨e.β, e.η, lo k⟩ w s v
  | .junk, _, _, _ => trivial
  | .d _, _, _, h => h
  | .nils, _, _, h => h
  | .pd _, _, _, h => h
  | .loc _ _, _, hb, h => ⟨Nat.le_of_ble_eq_true hb, h.2⟩
  | .row _, _, hb, h => ⟨Nat.le_of_ble_eq_true hb, h.2⟩
  | .prow _ _ _ _, _, hb, h => ⟨Nat.le_of_ble_eq_true hb, h.2⟩
  | .sl _ _ _ _, _, hb, h => ⟨Nat.le_of_ble_eq_true hb, h.2⟩
  | .fn _ caps, _, hb, ⟨vs, h1, h2⟩ => ⟨vs, h1, RelL.lower k caps vs hb h2⟩
  | .agg ss, _, hb, ⟨vs, h1, h2⟩ => ⟨vs, h1, RelL.lower k ss vs hb h2⟩
  | .tup ss, _, hb, ⟨vs, h1, h2⟩ => ⟨vs, h1, RelL.lower k ss vs hb h2⟩
  | .val _, _, _, h => h
theorem RelL.lower {X e w} (k : Nat) : ∀ (ss : List SV) (vs : List Value), SV.lowL k ss = true → RelL X e w ss vs → RelL X ⟨e.β, e.η, lo k⟩ w ss vs
  | [], [], _, _ => trivial
  | [], _ :: _, _, h => h.elim
  | _ :: _, [], _, h => h.elim
  | s :: ss, v :: vs, hb, h => by
    simp only [SV.lowL, Bool.and_eq_true] at hb
    exact ⟨Rel.lower k s v hb.1 h.1, RelL.lower k ss vs hb.2 h.2⟩
end

theorem Sl.low_get {k : Nat} : ∀ (L : Sl), Sl.low k L = true → ∀ t, (Sl.get L t).low k = true
  | [], _, _ => rfl
  | (d, s) :: L, h, t => by
    simp only [Sl.low, Bool.and_eq_true] at h
    rw [Sl.get_cons]
    split
    · exact h.1
    · exact Sl.low_get L h.2 t

/-- Names that are not in use are given back. -/
theorem Models.lower {k' : Nat → Prop} {e : Env} {a : Act} {w : World} (m : Models Γ k' L H e a w) (k : Nat) (hL : Sl.low k L = true) (hH : Hp.low k H = true) (hj : Nat.ble Γ.J k = true) : Models Γ k L H ⟨e.β, e.η, lo k⟩ a w := by
  have hlow := Hp.low_spec H hH
  have hol : ownedL ⟨e.β, e.η, lo k⟩ H = ownedL e H := rfl
  refine ⟨⟨fun _ => Iff.rfl, fun p hp => ⟨(hlow p hp).1, ?_⟩, m.ids, m.nodup, m.mine, m.os, m.tape, m.output, m.size, m.block, m.obound, fun j hjl => Nat.lt_of_lt_of_le hjl (Nat.le_of_ble_eq_true hj), m.anchor⟩, m.defers, m.len, fun t => Rel.lower k _ _ (Sl.low_get L hL t) (m.slot t)⟩
  have h := (m.heap p hp).2
  have hl := (hlow p hp).2
  obtain ⟨i, b⟩ := p
  cases b with
  | blk ty cs =>
    obtain ⟨vs, h1, h2, h3⟩ := h
    exact ⟨vs, h1, RelL.lower k cs vs hl h2, h3⟩
  | row ty es xs => exact h

/-- Heads are looked at ahead of what follows. -/
def HB.force (b : HB) (k : HB → Prop) : Prop := match b with
  | .blk ty cs => forceL cs fun cs' => k (.blk ty cs')
  | .row ty es xs => k (.row ty es xs)
theorem HB.force_eq (b : HB) (k : HB → Prop) : b.force k = k b := by cases b <;> simp [HB.force, forceL_eq]
def forceHp : Hp → (Hp → Prop) → Prop
  | [], k => k []
  | (i, b) :: r, k => b.force fun b' => forceHp r fun r' => k ((i, b') :: r')
theorem forceHp_eq : ∀ (H : Hp) (k : Hp → Prop), forceHp H k = k H
  | [], _ => rfl
  | (i, b) :: r, k => by simp only [forceHp, HB.force_eq, forceHp_eq r]

/-- What goes on behind a call: with the old names, if no new ones are in use. -/
def afterCall (q : Bool) (Γ : Ctx) (ops rest : List Oper) (K : Next') (k m d : Nat) (r : SV) (L : Sl) (H : Hp) : Prop :=
  forceSV r fun r' => forceHp H fun H' => match Sl.low k L && (SV.low k r' && (Hp.low k H' && Nat.ble Γ.J k)) with
    | true => DS q Γ ops rest K k ((d, r') :: L) H'
    | false => DS q Γ ops rest K m ((d, r') :: L) H'

theorem after_call {m d : Nat} {r : SV} (h : afterCall false Γ ops rest K k m d r L H) : DS false Γ ops rest K m ((d, r) :: L) H := by
  unfold afterCall at h
  rw [forceSV_eq, forceHp_eq] at h
  split at h
  · rename_i hc
    simp only [Bool.and_eq_true] at hc
    intro e a w mm
    exact h _ a w (mm.lower k (by simp only [Sl.low, Bool.and_eq_true]; exact ⟨hc.2.1, hc.1⟩) hc.2.2.1 hc.2.2.2)
  · exact h

theorem ds_callF {f : FuncId} {xs : List Operand} {ts : Array TypeId} {ty : TypeId} {pos : String} {af : Array Edge} {g : Option (Nat × Bool)} {d : Nat} {args : List SV} {J kc : Nat} {Hc : Hp} {R : Nat → SV → Hp → Prop} (ρ : Nat → Nat)
    (hc : FnOk Γ.P Γ.τ Γ.τok f args J kc Hc R) (hw : wantedSV ops L g = some true) (ha : opsL L xs = SV.renL ρ args) (hok : opsOk xs = true) (hlA : SV.lowL kc args = true) (hKH : KnowsH ρ H Hc) (hl : Hp.low kc Hc = true)
    (hd : distinct (Hc.map fun p => ρ p.1) = true) (hd' : distinct (Hc.map (·.1)) = true) (hJ : Nat.ble J kc = true) (hall : allIn J (Hc.map (·.1)) = true) (hdn : Nat.blt d Γ.n = true)
    (hRr : ∀ k2 r H2, R k2 r H2 → r.rowsGe J = true ∧ Hp.rowsGe J H2 = true)
    (hk : ∀ k2 r H2, R k2 r H2 → afterCall false Γ ops rest K k (k + k2) d (r.ren (sig ρ J k)) L ((H2.map fun p => (sig ρ J k p.1, p.2.ren (sig ρ J k))) ++ restOf H (Hc.map fun p => ρ p.1))) :
    DS false Γ ops (⟨some d, .call { callee := .value (.func f), args := xs.toArray, argTypes := ts }, ty, pos, af, g⟩ :: rest) K k L H :=
  ds_callO ρ hc hw ha hok hlA hKH hl hd hd' hJ hall hdn hRr fun k2 r H2 h => after_call (hk k2 r H2 h)

theorem ds_callVF {f : FuncId} {x : Operand} {caps : List SV} {xs : List Operand} {ts : Array TypeId} {ty : TypeId} {pos : String} {af : Array Edge} {g : Option (Nat × Bool)} {d : Nat} {args : List SV} {J kc : Nat} {Hc : Hp} {R : Nat → SV → Hp → Prop} (ρ : Nat → Nat)
    (hc : FnOk Γ.P Γ.τ Γ.τok f args J kc Hc R) (hx : opSV L x = .fn f caps) (hxo : opOkB x = true) (hw : wantedSV ops L g = some true) (ha : opsL L xs ++ caps = SV.renL ρ args) (hok : opsOk xs = true) (hlA : SV.lowL kc args = true) (hKH : KnowsH ρ H Hc) (hl : Hp.low kc Hc = true)
    (hd : distinct (Hc.map fun p => ρ p.1) = true) (hd' : distinct (Hc.map (·.1)) = true) (hJ : Nat.ble J kc = true) (hall : allIn J (Hc.map (·.1)) = true) (hdn : Nat.blt d Γ.n = true)
    (hRr : ∀ k2 r H2, R k2 r H2 → r.rowsGe J = true ∧ Hp.rowsGe J H2 = true)
    (hk : ∀ k2 r H2, R k2 r H2 → afterCall false Γ ops rest K k (k + k2) d (r.ren (sig ρ J k)) L ((H2.map fun p => (sig ρ J k p.1, p.2.ren (sig ρ J k))) ++ restOf H (Hc.map fun p => ρ p.1))) :
    DS false Γ ops (⟨some d, .call { callee := .value x, args := xs.toArray, argTypes := ts }, ty, pos, af, g⟩ :: rest) K k L H :=
  ds_callVO ρ hc hx hxo hw ha hok hlA hKH hl hd hd' hJ hall hdn hRr fun k2 r H2 h => after_call (hk k2 r H2 h)

/-- The state is told anew, in the midst of a region. -/
theorem ds_ent {k' : Nat} {L' : Sl} {H' : Hp} (he : Ent Γ k L H k' L' H') (h : DS false Γ ops rest K k' L' H') : DS false Γ ops rest K k L H := fun e a w m =>
  let ⟨e', m'⟩ := he e a w m
  h e' a w m'

/-- The rest of a region that draws its order. -/
def DT (Γ : Ctx) (ops : List Oper) (κ : Nat) (rest : List (Nat × Oper)) (lg : Log) (K : FS → Prop) (L : Sl) (H : Hp) : Prop := DR Γ ops κ rest lg K (ofL L H)

variable {rem : List (Nat × Oper)} {lg : Log} {Kf : FS → Prop}

/-- So many operations, counted on from a number. -/
def lenIs : List Oper → Nat → Nat → Prop
  | [], k, m => k = m
  | _ :: l, k, m => lenIs l (k + 1) m
theorem lenIs_spec : ∀ (l : List Oper) (k m : Nat), lenIs l k m → k + l.length = m
  | [], _, _, h => h
  | _ :: l, k, m, h => by have := lenIs_spec l (k + 1) m h; simp only [List.length_cons]; omega

theorem dw_any {id m : Nat} {l : List Oper} {Q : Post} (hm : Γ.P.follows .mixedOrders = true) (hB : regAnyB l = true) (hnd : noDefer l = true) (hl : lenIs l k m) (h : DT Γ l k (enumO 0 l) [] (endK Γ m (Q .normal)) L H) : DW Γ (.region id l.toArray true) Q k L H :=
  dw_region_any hm hB hnd (lenIs_spec l k m hl ▸ h)

theorem dt_nil {m : Nat} {Q : Next'} (hn : distinct (H.map (·.1)) = true) (h : Q m L H) : DT Γ ops κ [] lg (endK Γ m Q) L H := by
  refine .nil fun e a w hr => ?_
  obtain ⟨L2, H2, m2, hs⟩ := hr
  have h1 : ∀ t, Sl.get L2 t = Sl.get L t := fun t => congrFun (congrArg FS.ℓ hs) t
  have h2 : ∀ i, Hp.get H2 i = Hp.get H i := fun i => congrFun (congrArg FS.η hs) i
  exact ⟨m, L, H, e, m2.same h1 h2 (distinct_spec _ hn), h⟩

/-- .. with no new names. -/
theorem dt_nil0 {m : Nat} {Q : Next'} (hn : distinct (H.map (·.1)) = true) (hj : Nat.ble Γ.J κ = true) (hL : Sl.low κ L = true) (hH : Hp.low κ H = true) (h : Q κ L H) : DT Γ ops κ [] lg (endK Γ m Q) L H := by
  refine .nil fun e a w hr => ?_
  obtain ⟨L2, H2, m2, hs⟩ := hr
  have h1 : ∀ t, Sl.get L2 t = Sl.get L t := fun t => congrFun (congrArg FS.ℓ hs) t
  have h2 : ∀ i, Hp.get H2 i = Hp.get H i := fun i => congrFun (congrArg FS.η hs) i
  exact ⟨κ, L, H, _, (m2.same h1 h2 (distinct_spec _ hn)).lower κ hL hH hj, h⟩

theorem dt_skip {i : Nat} {op : Op} {ty : TypeId} {pos : String} {af : Array Edge} {g : Option (Nat × Bool)} {dst : Option Nat} (hw : wantedSV ops L g = some false) (hd : dstOk Γ dst = true) (hlog : okLog ops i [] [] lg = true)
    (hk : DT Γ ops κ rem ((i, [], []) :: lg) Kf (putL dst (.tup []) L) H) : DT Γ ops κ ((i, ⟨dst, op, ty, pos, af, g⟩) :: rem) lg Kf L H := by
  refine .cons false _ [] [] (.skip ((wantedF_eq ops L g).trans hw) hd) hlog ⟨_, _, rfl, rfl⟩ (fun v u hv => by rw [hv.2]; rfl) fun v u hv => ?_
  rw [hv.1, hv.2]
  have : (ofL L H).app (κ + i) dst (.tup []) .no = ofL (putL dst (.tup []) L) H := by rw [← ofL_put]; cases dst <;> rfl
  show DR Γ ops κ rem _ Kf ((ofL L H).app (κ + i) dst (.tup []) .no)
  rw [this]
  exact hk

theorem dt_step {i : Nat} {op : Op} {ty : TypeId} {pos : String} {af : Array Edge} {g : Option (Nat × Bool)} {dst : Option Nat} {p : Prop} {v v' : SV} {u : Up} (hw : wantedSV ops L g = some true)
    (hs : stepC Γ.τ (opSV L) (Hp.get H) (κ + i) dst op = some (p, v, u)) (hp : p) (hv : v = v') (hok : opsOkB op = true) (hd : dstOk Γ dst = true) (hn : distinct (H.map (·.1)) = true)
    (hlog : okLog ops i (rdsN (opSV L) op) (u.names (κ + i)) lg = true) (hk : DT Γ ops κ rem ((i, rdsN (opSV L) op, u.names (κ + i)) :: lg) Kf (putL dst v' L) (u.appL (κ + i) H)) :
    DT Γ ops κ ((i, ⟨dst, op, ty, pos, af, g⟩) :: rem) lg Kf L H := by
  subst hv
  have hs' : stepC Γ.τ (ofL L H).op (ofL L H).η (κ + i) dst op = some (p, v, u) := by rw [ofL_op]; exact hs
  have hr : rdsN (ofL L H).op op = rdsN (opSV L) op := by rw [ofL_op]
  refine .cons false _ _ _ (.step p v u ((wantedF_eq ops L g).trans hw) hs' hp hok hd) (by rw [hr]; exact hlog) ⟨v, u, rfl, rfl⟩ (fun v u hv => by rw [hv.2]) fun v' u' hv => ?_
  rw [hv.1, hv.2]
  show DR Γ ops κ rem ((i, rdsN (ofL L H).op op, u.names (κ + i)) :: lg) Kf ((ofL L H).app (κ + i) dst v u)
  rw [hr, ← appL_get (distinct_spec _ hn) hs]
  exact hk

theorem dt_skipD {i : Nat} {op : Op} {ty : TypeId} {pos : String} {af : Array Edge} {g : Option (Nat × Bool)} {d : Nat} (hw : wantedSV ops L g = some false) (hd : Nat.blt d Γ.n = true) (hlog : okLog ops i [] [] lg = true)
    (hk : DT Γ ops κ rem ((i, [], []) :: lg) Kf ((d, .tup []) :: L) H) : DT Γ ops κ ((i, ⟨some d, op, ty, pos, af, g⟩) :: rem) lg Kf L H := dt_skip (dst := some d) hw hd hlog hk
theorem dt_skip0 {i : Nat} {op : Op} {ty : TypeId} {pos : String} {af : Array Edge} {g : Option (Nat × Bool)} (hw : wantedSV ops L g = some false) (hlog : okLog ops i [] [] lg = true)
    (hk : DT Γ ops κ rem ((i, [], []) :: lg) Kf L H) : DT Γ ops κ ((i, ⟨none, op, ty, pos, af, g⟩) :: rem) lg Kf L H := dt_skip (dst := none) hw rfl hlog hk

/-- An operation that only reads. -/
theorem dt_ev {i : Nat} {op : Op} {ty : TypeId} {pos : String} {af : Array Edge} {g : Option (Nat × Bool)} {d : Nat} {p : Prop} {v v' : SV} (hw : wantedSV ops L g = some true)
    (hs : stepC Γ.τ (opSV L) (Hp.get H) (κ + i) (some d) op = some (p, v, .no)) (hp : p) (hv : v = v') (hok : opsOkB op = true) (hd : Nat.blt d Γ.n = true) (hn : distinct (H.map (·.1)) = true)
    (hlog : okLog ops i (rdsN (opSV L) op) [] lg = true) (hk : DT Γ ops κ rem ((i, rdsN (opSV L) op, []) :: lg) Kf ((d, v') :: L) H) :
    DT Γ ops κ ((i, ⟨some d, op, ty, pos, af, g⟩) :: rem) lg Kf L H := dt_step hw hs hp hv hok hd hn hlog hk
/-- One that makes a thing. -/
theorem dt_new {i z : Nat} {op : Op} {ty : TypeId} {pos : String} {af : Array Edge} {g : Option (Nat × Bool)} {d : Nat} {p : Prop} {v v' : SV} {b : HB} (hw : wantedSV ops L g = some true) (hz : κ + i = z)
    (hs : stepC Γ.τ (opSV L) (Hp.get H) z (some d) op = some (p, v, .new b)) (hp : p) (hv : v = v') (hok : opsOkB op = true) (hd : Nat.blt d Γ.n = true) (hn : distinct (H.map (·.1)) = true)
    (hlog : okLog ops i (rdsN (opSV L) op) [z] lg = true) (hk : DT Γ ops κ rem ((i, rdsN (opSV L) op, [z]) :: lg) Kf ((d, v') :: L) ((z, b) :: H)) :
    DT Γ ops κ ((i, ⟨some d, op, ty, pos, af, g⟩) :: rem) lg Kf L H := by subst hz; exact dt_step hw hs hp hv hok hd hn hlog hk
/-- One that writes. -/
theorem dt_set {i j : Nat} {op : Op} {ty : TypeId} {pos : String} {af : Array Edge} {g : Option (Nat × Bool)} {p : Prop} {v : SV} {b : HB} {H' : Hp} (hw : wantedSV ops L g = some true)
    (hs : stepC Γ.τ (opSV L) (Hp.get H) (κ + i) none op = some (p, v, .set j b)) (hp : p) (hok : opsOkB op = true) (hn : distinct (H.map (·.1)) = true) (hH : setF H j b some = some H')
    (hlog : okLog ops i (rdsN (opSV L) op) [j] lg = true) (hk : DT Γ ops κ rem ((i, rdsN (opSV L) op, [j]) :: lg) Kf L H') :
    DT Γ ops κ ((i, ⟨none, op, ty, pos, af, g⟩) :: rem) lg Kf L H := by rw [setF_eq] at hH; cases hH; exact dt_step (dst := none) (v' := v) hw hs hp rfl hok rfl hn hlog hk
/-- One that appends. -/
theorem dt_trade {i j z : Nat} {op : Op} {ty : TypeId} {pos : String} {af : Array Edge} {g : Option (Nat × Bool)} {d : Nat} {p : Prop} {v v' : SV} {b : HB} (hw : wantedSV ops L g = some true) (hz : κ + i = z)
    (hs : stepC Γ.τ (opSV L) (Hp.get H) z (some d) op = some (p, v, .trade j b)) (hp : p) (hv : v = v') (hok : opsOkB op = true) (hd : Nat.blt d Γ.n = true) (hn : distinct (H.map (·.1)) = true)
    (hlog : okLog ops i (rdsN (opSV L) op) [j, z] lg = true) {H' : Hp} (hH : delF H j some = some H') (hk : DT Γ ops κ rem ((i, rdsN (opSV L) op, [j, z]) :: lg) Kf ((d, v') :: L) ((z, b) :: H')) :
    DT Γ ops κ ((i, ⟨some d, op, ty, pos, af, g⟩) :: rem) lg Kf L H := by rw [delF_eq] at hH; cases hH; subst hz; exact dt_step hw hs hp hv hok hd hn hlog hk

theorem dt_call {i : Nat} {f : FuncId} {xs : List Operand} {ts : Array TypeId} {ty : TypeId} {pos : String} {af : Array Edge} {g : Option (Nat × Bool)} {d : Nat} {args : List SV} {R : SV → Prop} (hw : wantedSV ops L g = some true)
    (ha : opsL L xs = args) (hc : FnP Γ.P Γ.τ Γ.τok f args R) (hok : opsOk xs = true) (hlow : SV.lowL 0 args = true) (hd : Nat.blt d Γ.n = true) (hlog : okLog ops i [] [] lg = true) (hne : ∃ r, R r)
    (hk : ∀ r, R r → DT Γ ops κ rem ((i, [], []) :: lg) Kf ((d, r) :: L) H) :
    DT Γ ops κ ((i, ⟨some d, .call { callee := .value (.func f), args := xs.toArray, argTypes := ts }, ty, pos, af, g⟩) :: rem) lg Kf L H := by
  have e1 : xs.map (ofL L H).op ++ [] = args := by rw [ofL_op, List.append_nil, ← opsL_map, ha]
  have hok' : opsOkB (.call { callee := .value (.func f), args := xs.toArray, argTypes := ts }) = true := by
    unfold opsOkB
    simp only [Op.operands, Call.operands, Array.toList_append, List.all_append, Bool.and_eq_true]
    refine ⟨rfl, ?_⟩
    have : ∀ (xs : List Operand), opsOk xs = true → xs.all opOkB = true := by
      intro xs
      induction xs with
      | nil => intro _; rfl
      | cons x xs ih => intro h; simp only [opsOk, Bool.and_eq_true] at h; simp [h.1, ih h.2]
    exact this xs hok
  refine .cons true _ [] [] (.call d f (.func f) [] xs ts R ((wantedF_eq ops L g).trans hw) rfl rfl rfl (e1 ▸ hc) (e1 ▸ hlow) hok' hd) hlog (hne.imp fun r h => ⟨.no, h, rfl⟩) (fun v u hv => by rw [hv.2]; rfl) fun v u hv => ?_
  rw [hv.2]
  have : (ofL L H).app (κ + i) (some d) v .no = ofL ((d, v) :: L) H := (ofL_put L H (some d) v)
  show DR Γ ops κ rem _ Kf ((ofL L H).app (κ + i) (some d) v .no)
  rw [this]
  exact hk v hv.1

theorem dt_callV {i : Nat} {f : FuncId} {x : Operand} {caps : List SV} {xs : List Operand} {ts : Array TypeId} {ty : TypeId} {pos : String} {af : Array Edge} {g : Option (Nat × Bool)} {d : Nat} {args : List SV} {R : SV → Prop} (hx : opSV L x = .fn f caps) (hxo : opOkB x = true) (hw : wantedSV ops L g = some true)
    (ha : opsL L xs ++ caps = args) (hc : FnP Γ.P Γ.τ Γ.τok f args R) (hok : opsOk xs = true) (hlow : SV.lowL 0 args = true) (hd : Nat.blt d Γ.n = true) (hlog : okLog ops i [] [] lg = true) (hne : ∃ r, R r)
    (hk : ∀ r, R r → DT Γ ops κ rem ((i, [], []) :: lg) Kf ((d, r) :: L) H) :
    DT Γ ops κ ((i, ⟨some d, .call { callee := .value x, args := xs.toArray, argTypes := ts }, ty, pos, af, g⟩) :: rem) lg Kf L H := by
  have e1 : xs.map (ofL L H).op ++ caps = args := by rw [ofL_op, ← opsL_map, ha]
  have hok' : opsOkB (.call { callee := .value x, args := xs.toArray, argTypes := ts }) = true := by
    unfold opsOkB
    simp only [Op.operands, Call.operands, Array.toList_append, List.all_append, Bool.and_eq_true]
    refine ⟨by simp [hxo], ?_⟩
    have : ∀ (xs : List Operand), opsOk xs = true → xs.all opOkB = true := by
      intro xs
      induction xs with
      | nil => intro _; rfl
      | cons x xs ih => intro h; simp only [opsOk, Bool.and_eq_true] at h; simp [h.1, ih h.2]
    exact this xs hok
  refine .cons true _ [] [] (.call d f x caps xs ts R ((wantedF_eq ops L g).trans hw) rfl rfl (by rw [ofL_op]; exact hx) (e1 ▸ hc) (e1 ▸ hlow) hok' hd) hlog (hne.imp fun r h => ⟨.no, h, rfl⟩) (fun v u hv => by rw [hv.2]; rfl) fun v u hv => ?_
  rw [hv.2]
  have : (ofL L H).app (κ + i) (some d) v .no = ofL ((d, v) :: L) H := (ofL_put L H (some d) v)
  show DR Γ ops κ rem _ Kf ((ofL L H).app (κ + i) (some d) v .no)
  rw [this]
  exact hk v hv.1

theorem ofL_bool {t : Nat} {b : Bool} (hb : L.get t = .d (.bool b)) : ofL ((t, .d (.bool b)) :: L) H = ofL L H := by
  unfold ofL
  congr 1
  funext t'
  rw [Sl.get_cons]
  split
  · rename_i h; subst h; exact hb.symm
  · rfl

theorem dt_split {t : Nat} {b : Bool} (hb : L.get t = .d (.bool b)) (ht : b = true → DT Γ ops κ rem lg Kf ((t, .d (.bool true)) :: L) H) (hf : b = false → DT Γ ops κ rem lg Kf ((t, .d (.bool false)) :: L) H) : DT Γ ops κ rem lg Kf L H := by
  unfold DT at *
  cases b with
  | true => exact ofL_bool (H := H) hb ▸ ht rfl
  | false => exact ofL_bool (H := H) hb ▸ hf rfl

/-- Is an operation's guard known? (for the walks: they ask whether this fits) -/
theorem dt_known {i : Nat} {op : Op} {ty : TypeId} {pos : String} {af : Array Edge} {g : Option (Nat × Bool)} {dst : Option Nat} {b : Bool} (_ : wantedSV ops L g = some b) (h : DT Γ ops κ ((i, ⟨dst, op, ty, pos, af, g⟩) :: rem) lg Kf L H) :
    DT Γ ops κ ((i, ⟨dst, op, ty, pos, af, g⟩) :: rem) lg Kf L H := h
theorem ds_known {op : Op} {ty : TypeId} {pos : String} {af : Array Edge} {g : Option (Nat × Bool)} {dst : Option Nat} {b : Bool} (_ : wantedSV ops L g = some b) (h : DS q Γ ops (⟨dst, op, ty, pos, af, g⟩ :: rest) K k L H) :
    DS q Γ ops (⟨dst, op, ty, pos, af, g⟩ :: rest) K k L H := h

/-- An operation's guard is a Bool that is not known: both ways. -/
theorem dt_guard {i : Nat} {op : Op} {ty : TypeId} {pos : String} {af : Array Edge} {j : Nat} {want b : Bool} {dst : Option Nat} {oj : Oper} {t : Nat} (_ : nthOp ops j = some oj) (_ : oj.dst = some t) (hb : L.get t = .d (.bool b))
    (ht : b = true → DT Γ ops κ ((i, ⟨dst, op, ty, pos, af, some (j, want)⟩) :: rem) lg Kf ((t, .d (.bool true)) :: L) H) (hf : b = false → DT Γ ops κ ((i, ⟨dst, op, ty, pos, af, some (j, want)⟩) :: rem) lg Kf ((t, .d (.bool false)) :: L) H) :
    DT Γ ops κ ((i, ⟨dst, op, ty, pos, af, some (j, want)⟩) :: rem) lg Kf L H := dt_split hb ht hf
theorem dt_guardP {i : Nat} {op : Op} {ty : TypeId} {pos : String} {af : Array Edge} {j : Nat} {want : Bool} {p : Prop} {_ : Decidable p} {dst : Option Nat} {oj : Oper} {t : Nat} (_ : nthOp ops j = some oj) (_ : oj.dst = some t) (hb : L.get t = .d (.bool (decide p)))
    (ht : p → DT Γ ops κ ((i, ⟨dst, op, ty, pos, af, some (j, want)⟩) :: rem) lg Kf ((t, .d (.bool true)) :: L) H) (hf : ¬ p → DT Γ ops κ ((i, ⟨dst, op, ty, pos, af, some (j, want)⟩) :: rem) lg Kf ((t, .d (.bool false)) :: L) H) :
    DT Γ ops κ ((i, ⟨dst, op, ty, pos, af, some (j, want)⟩) :: rem) lg Kf L H := dt_split hb (fun h => ht (of_decide_eq_true h)) (fun h => hf (of_decide_eq_false h))
/-- .. in the text's order, too. -/
theorem ds_guardB {op : Op} {ty : TypeId} {pos : String} {af : Array Edge} {j : Nat} {want b : Bool} {dst : Option Nat} {oj : Oper} {t : Nat} (_ : nthOp ops j = some oj) (_ : oj.dst = some t) (hb : L.get t = .d (.bool b))
    (ht : b = true → DS q Γ ops (⟨dst, op, ty, pos, af, some (j, want)⟩ :: rest) K k ((t, .d (.bool true)) :: L) H) (hf : b = false → DS q Γ ops (⟨dst, op, ty, pos, af, some (j, want)⟩ :: rest) K k ((t, .d (.bool false)) :: L) H) :
    DS q Γ ops (⟨dst, op, ty, pos, af, some (j, want)⟩ :: rest) K k L H := ds_split hb ht hf
theorem ds_guardP {op : Op} {ty : TypeId} {pos : String} {af : Array Edge} {j : Nat} {want : Bool} {p : Prop} {_ : Decidable p} {dst : Option Nat} {oj : Oper} {t : Nat} (_ : nthOp ops j = some oj) (_ : oj.dst = some t) (hb : L.get t = .d (.bool (decide p)))
    (ht : p → DS q Γ ops (⟨dst, op, ty, pos, af, some (j, want)⟩ :: rest) K k ((t, .d (.bool true)) :: L) H) (hf : ¬ p → DS q Γ ops (⟨dst, op, ty, pos, af, some (j, want)⟩ :: rest) K k ((t, .d (.bool false)) :: L) H) :
    DS q Γ ops (⟨dst, op, ty, pos, af, some (j, want)⟩ :: rest) K k L H := ds_split hb (fun h => ht (of_decide_eq_true h)) (fun h => hf (of_decide_eq_false h))
end
end Go.Proofs.Ytapciiffpnociaa

/- A plain logic over the walk: rows that lie in owned blocks. No program is named here. Condition: none. -/
namespace Go.Proofs.Ytapciiffpnociaa
open Go Go.RowKit

/-- What is handed back, under new names; what else is owned at the end is let go. -/
def KeptR (J : Nat) (R : Nat → SV → Hp → Prop) (_ : Nat) (r : SV) (H : Hp) : Prop :=
  ∃ (ρ : Nat → Nat) (k2 : Nat) (r2 : SV) (H2 : Hp), r = r2.ren ρ ∧ KnowsH ρ H H2 ∧ Hp.low k2 H2 = true ∧ distinct (H2.map fun p => ρ p.1) = true ∧ distinct (H2.map (·.1)) = true ∧ Nat.ble J k2 = true ∧ anchorOk ρ J = true ∧ r2.low k2 = true ∧ R k2 r2 H2

theorem fn_enterR {P : Program} {τ : List (Nat × TI)} {τok : TabOk P τ} {f : FuncId} {fn : Func} {c : Code} {args : List SV} {J k : Nat} {H : Hp} {R : Nat → SV → Hp → Prop} (N : Nat) (hf : P.funcs[f]? = some fn) (hb : fn.body = some c)
    (hN : args.length + (fn.ntmps - args.length) = N) (hcall : callable P f = true)
    (h : ∀ (O : Nat → Prop) (w0 : World) (E0 : Nat → Prop) (β0 : Nat → Nat), DW ⟨P, τ, τok, O, w0, E0, N, J, β0, none, noPan, true⟩ c (RetQ τ fn.results.toList (KeptR J R)) k (enumSl 0 args) H) : FnOk P τ τok f args J k H R := by
  have h2 := fn_enter (J := J) (k := k) (H := H) N hf hb hN hcall (R := KeptR J R) h
  refine ⟨h2.1, fun O e w vs hH hr => (h2.2 O e w vs hH hr).mono ?_⟩
  rintro en w' ⟨k', r, H', e', v, ⟨ρ, k2, r2, H2, rfl, hK, hl, hd, hd', hj, ha, hrl, hR⟩, rfl, hH', hrel⟩
  obtain ⟨g1, g2⟩ := hH'.ren ρ k2 H2 hK hl hd hd' hj ha
  exact ⟨k2, r2, H2, e'.ren ρ k2, v, hR, rfl, g1, Rel.keep (Nat.le_refl _) (fun _ _ _ => rfl) (fun b _ hy => g2 b hy) _ _ (Rel.ren ρ k2 r2 v hrl hrel)⟩

theorem set_same {α : Type} {l : List α} {i : Nat} {v : α} (h : l[i]? = some v) : l.set i v = l := by
  apply List.ext_getElem?
  intro j
  rw [List.getElem?_set]
  split
  · rename_i hij
    subst hij
    obtain ⟨h1, h2⟩ := List.getElem?_eq_some_iff.1 h
    rw [if_pos h1, h]
  · rfl

section
variable {Γ : Ctx} {k : Nat} {L : Sl} {H H' : Hp} {Q : Post} {c : Code}

/-- A nil slice in an owned block is an owned row without elements. -/
theorem ent_cellrow (i o : Nat) (te : TypeId) (es : Nat) {tb : TypeId} {cs : List SV} (hH : Hp.get H i = some (.blk tb cs)) (hc : cs[o]? = some .nils) (hS : setF ((k, .row te es []) :: H) i (.blk tb (cs.set o (.row k))) some = some H') : Ent Γ k L H (k + 1) L H' := by
  rw [setF_eq] at hS
  cases hS
  intro e a w m
  have hη : (e.bindRow k (.slice none 0 0)).η k = .slice none 0 0 := if_pos rfl
  have m2 := (m.new (lo_not k) (hb := .row te es []) (e' := e.bindRow k (.slice none 0 0)) (w' := w) (fun i => or_congr (m.top i) Iff.rfl) (e.bindRow_ext _ _ (fun h => lo_not k ((m.top k).1 h))) (Below.refl _ _)
    (fun b hb => by simp [HB.owned, hη, Value.ownBlock] at hb) (fun _ => ⟨[], by rw [hη]; exact World.ownsRow_nil w 0 te es, by simp, by simp, by simp⟩)).cast (with1_lo k)
  have hik : i < k := (m.top i).1 (m.heap _ (Hp.mem_of hH)).1
  have hH2 : Hp.get ((k, .row te es []) :: H) i = some (.blk tb cs) := by
    rw [Hp.get_cons, if_neg (by omega)]; exact hH
  refine ⟨_, m2.turn hH2 (Nat.le_refl _) rfl rfl rfl (fun _ _ _ => rfl) rfl ?_⟩
  obtain ⟨vs, h1, h2, h3⟩ := (m2.heap _ (Hp.mem_of hH2)).2
  refine ⟨vs, h1, ?_, h3⟩
  obtain ⟨v, g1, g2⟩ := RelL.get cs vs h2 o .nils hc
  have g2 : v = .slice none 0 0 := g2
  have := RelL.set cs vs h2 o (.row k) v ⟨(m2.top k).2 (Nat.lt_succ_self k), by rw [hη, g2], by rw [g2]; rfl⟩
  rwa [set_same g1] at this

/-- A row in an owned block is let go: from here on it is data. -/
theorem ent_cellseal (i o j : Nat) {es : Nat} {te tb : TypeId} {cs : List SV} {xs : List (List D)} {H1 : Hp} (hj : Hp.get H j = some (.row te es xs)) (hD : delF H j some = some H1) (hH : Hp.get H1 i = some (.blk tb cs)) (hc : cs[o]? = some (.row j))
    (hS : setF H1 i (.blk tb (cs.set o (.d (.slice es xs)))) some = some H') : Ent Γ k L H k L H' := by
  rw [delF_eq] at hD
  cases hD
  rw [setF_eq] at hS
  cases hS
  intro e a w m
  obtain ⟨m2, _⟩ := m.del j
  have hrow := row_data m hj
  refine ⟨_, m2.turn hH (Nat.le_refl _) rfl rfl rfl (fun _ _ _ => rfl) rfl ?_⟩
  obtain ⟨vs, h1, h2, h3⟩ := (m2.heap _ (Hp.mem_of hH)).2
  refine ⟨vs, h1, ?_, h3⟩
  obtain ⟨v, g1, g2⟩ := RelL.get cs vs h2 o (.row j) hc
  have := RelL.set cs vs h2 o (.d (.slice es xs)) v (by rw [g2.2.1]; exact hrow)
  rwa [set_same g1] at this

/-- What a datum in an owned block tells of itself. -/
theorem dw_lenC (i o : Nat) {tb : TypeId} {cs : List SV} {es : Nat} {xs : List (List D)} (hH : Hp.get H i = some (.blk tb cs)) (hc : cs[o]? = some (.d (.slice es xs))) (hk : xs.length ≤ 9223372036854775807 → DW Γ c Q k L H) : DW Γ c Q k L H := by
  intro e a w m
  obtain ⟨v, _, g2⟩ := HRel.blk_cell (m.heap _ (Hp.mem_of hH)).2 hc
  obtain ⟨ao, cap, _, h1, h2, _⟩ := g2.slice_inv
  exact hk (by unfold maxLen at h2; omega) e a w m
theorem dw_strC (i o : Nat) {tb : TypeId} {cs : List SV} {s : ByteArray} (hH : Hp.get H i = some (.blk tb cs)) (hc : cs[o]? = some (.d (.str s))) (hk : s.size ≤ 9223372036854775807 → DW Γ c Q k L H) : DW Γ c Q k L H := by
  intro e a w m
  obtain ⟨v, _, g2⟩ := HRel.blk_cell (m.heap _ (Hp.mem_of hH)).2 hc
  have g2 : RepC (Γ.X e H) w v (.str s) := g2
  cases g2 with
  | str h2 => exact hk (by unfold maxLen at h2; omega) e a w m

/-- A nil slice in an owned block is data without elements. -/
theorem ent_cellnil (i o es : Nat) {tb : TypeId} {cs : List SV} (hH : Hp.get H i = some (.blk tb cs)) (hc : cs[o]? = some .nils) (hS : setF H i (.blk tb (cs.set o (.d (.slice es [])))) some = some H') : Ent Γ k L H k L H' := by
  rw [setF_eq] at hS
  cases hS
  intro e a w m
  refine ⟨_, m.turn hH (Nat.le_refl _) rfl rfl rfl (fun _ _ _ => rfl) rfl ?_⟩
  obtain ⟨vs, h1, h2, h3⟩ := (m.heap _ (Hp.mem_of hH)).2
  refine ⟨vs, h1, ?_, h3⟩
  obtain ⟨v, g1, g2⟩ := RelL.get cs vs h2 o .nils hc
  have g2 : v = .slice none 0 0 := g2
  have := RelL.set cs vs h2 o (.d (.slice es [])) v (by rw [g2]; exact .nil)
  rwa [set_same g1] at this

/-- A nil slice in a slot is an owned row without elements. -/
theorem ent_nilrow {t : Nat} (te : TypeId) (es : Nat) (h : L.get t = .nils) : Ent Γ k L H (k + 1) ((t, .row k) :: L) ((k, .row te es []) :: H) := by
  intro e a w m
  have hη : (e.bindRow k (.slice none 0 0)).η k = .slice none 0 0 := if_pos rfl
  have m2 := (m.new (lo_not k) (hb := .row te es []) (e' := e.bindRow k (.slice none 0 0)) (w' := w) (fun i => or_congr (m.top i) Iff.rfl) (e.bindRow_ext _ _ (fun h => lo_not k ((m.top k).1 h))) (Below.refl _ _)
    (fun b hb => by simp [HB.owned, hη, Value.ownBlock] at hb) (fun _ => ⟨[], by rw [hη]; exact World.ownsRow_nil w 0 te es, by simp, by simp, by simp⟩)).cast (with1_lo k)
  refine ⟨_, ⟨m2.toHeap, m2.defers, m2.len, fun t' => ?_⟩⟩
  rw [Sl.get_cons]
  split
  · rename_i ht
    subst ht
    have hs := m.slot t
    rw [h] at hs
    refine ⟨.inr rfl, ?_⟩
    have hs : a.tmps.getD t undef = .slice none 0 0 := hs
    exact ⟨hs.trans hη.symm, by rw [hs]; rfl⟩
  · exact m2.slot t'

/-- A row in a slot is let go. -/
theorem ent_seal {i es : Nat} {te : TypeId} {xs : List (List D)} (t : Nat) (hL : L.get t = .row i) (hH : Hp.get H i = some (.row te es xs)) (hD : delF H i some = some H') : Ent Γ k L H k ((t, .d (.slice es xs)) :: L) H' := by
  rw [delF_eq] at hD
  cases hD
  intro e a w m
  obtain ⟨m2, _⟩ := m.del i
  refine ⟨e, ⟨m2.toHeap, m2.defers, m2.len, fun t' => ?_⟩⟩
  rw [Sl.get_cons]
  split
  · rename_i ht
    subst ht
    have hs := m.slot t
    rw [hL] at hs
    rw [hs.2.1]
    exact row_data m hH
  · exact m2.slot t'
/-- A nil slice in a slot is data without elements. -/
theorem ent_nild (t es : Nat) (hL : L.get t = .nils) : Ent Γ k L H k ((t, .d (.slice es [])) :: L) H := by
  intro e a w m
  refine ⟨e, ⟨m.toHeap, m.defers, m.len, fun t' => ?_⟩⟩
  rw [Sl.get_cons]
  split
  · rename_i ht
    subst ht
    have hs := m.slot t
    rw [hL] at hs
    rw [hs]
    exact .nil
  · exact m.slot t'
end
end Go.Proofs.Ytapciiffpnociaa

/- A plain logic over the walk: elements of own rows: read, written; rows that are made; rows that are shown to a call. No program is named here. Condition: none. -/
namespace Go.Proofs.Ytapciiffpnociaa
open Go Go.RowKit

section
variable {Γ : Ctx} {k : Nat → Prop} {L : Sl} {H : Hp} {K : Next'} {ops : List Oper} {rest : List Oper} {a : Act} {w : World} {e : Env} {t t' ty : TypeId} {x y : Operand}

/-- Cells of data. -/
def dcellsL : List SV → Option (List D)
  | [] => some []
  | .d x :: l => match dcellsL l with
    | some xs => some (x :: xs)
    | none => none
  | _ :: _ => none
def dcells : SV → Option (List D)
  | .d x => some [x]
  | .agg ss => dcellsL ss
  | _ => none
theorem dcellsL_spec {X e w} : ∀ {ss : List SV} {vs : List Value} {ds : List D}, dcellsL ss = some ds → RelL X e w ss vs → vs.length = ds.length ∧ (∀ u ∈ vs, u.oneCell' = true) ∧ ∀ q (hq : q < ds.length), ∃ u, vs[q]? = some u ∧ RepC X w u ds[q]
  | [], [], ds, h, _ => by cases h; exact ⟨rfl, by simp, fun q hq => absurd hq (Nat.not_lt_zero q)⟩
  | [], _ :: _, _, _, h => h.elim
  | _ :: _, [], _, _, h => h.elim
  | s :: ss, v :: vs, ds, h, ⟨h1, h2⟩ => by
    cases s with
    | d x =>
      simp only [dcellsL] at h
      split at h
      · rename_i xs hx
        cases h
        obtain ⟨g1, g2, g3⟩ := dcellsL_spec hx h2
        refine ⟨by simp [g1], fun u hu => ?_, fun q hq => ?_⟩
        · rcases List.mem_cons.1 hu with rfl | hu
          · exact (RepC.one h1).1
          · exact g2 u hu
        · cases q with
          | zero => exact ⟨v, rfl, h1⟩
          | succ q => simpa using g3 q (by simpa using hq)
      · cases h
    | _ => cases h
theorem dcells_spec {X e w} {s : SV} {v : Value} {ds : List D} (h : dcells s = some ds) (hr : Rel X e w s v) : v.cells.toList.length = ds.length ∧ (∀ u ∈ v.cells.toList, u.oneCell' = true) ∧ ∀ q (hq : q < ds.length), ∃ u, v.cells.toList[q]? = some u ∧ RepC X w u ds[q] := by
  cases s with
  | d x =>
    cases h
    have hr : RepC X w v x := hr
    rw [show v.cells.toList = [v] by rw [(RepC.one hr).2]]
    refine ⟨rfl, fun u hu => ?_, fun q hq => ?_⟩
    · rw [List.mem_singleton.1 hu]; exact (RepC.one hr).1
    · have : q = 0 := by simp at hq; omega
      subst this
      exact ⟨v, rfl, hr⟩
  | agg ss =>
    obtain ⟨vs, rfl, h2⟩ := hr
    have := dcellsL_spec h h2
    simpa [Value.cells] using this
  | _ => cases h

/-- Cells of an element are written. -/
def spliceD (ds : List D) (o : Nat) (new : List D) : List D := ds.take o ++ new ++ ds.drop (o + new.length)
theorem spliceD_len {ds new : List D} {o : Nat} (h : o + new.length ≤ ds.length) : (spliceD ds o new).length = ds.length := by
  unfold spliceD
  simp
  omega
theorem mul_lt_row {i j es q : Nat} (h : i < j) (hq : q < es) : i * es + q < j * es := by
  have h1 : (i + 1) * es ≤ j * es := Nat.mul_le_mul_right _ h
  rw [Nat.add_mul] at h1
  omega

theorem splice_get {α : Type} (vs new : List α) (o p : Nat) (h : o + new.length ≤ vs.length) : (vs.take o ++ new ++ vs.drop (o + new.length))[p]? = if p < o then vs[p]? else if p < o + new.length then new[p - o]? else vs[p]? := by
  have ht : (vs.take o).length = o := by simp; omega
  by_cases h1 : p < o
  · rw [if_pos h1, List.append_assoc, List.getElem?_append_left (by omega), List.getElem?_take, if_pos h1]
  · rw [if_neg h1, List.append_assoc, List.getElem?_append_right (by omega), ht]
    by_cases h2 : p < o + new.length
    · rw [if_pos h2, List.getElem?_append_left (by omega)]
    · rw [if_neg h2, List.getElem?_append_right (by omega), List.getElem?_drop]
      congr 1
      omega

theorem op_storeP {te tb : TypeId} {pos : String} {af : Array Edge} {g : Option (Nat × Bool)} {i j es o : Nat} {xs : List (List D)} {s : SV} {new : List D} (hx : opSV L x = .prow i j es o) (hH : Hp.get H i = some (.row tb es xs)) (hj : j < xs.length)
    (hy : opSV L y = s) (hyo : opOkB y = true) (hd : dcells s = some new) (hkn : (Γ.sh te).known = true) (hn : Nat.beq new.length (Γ.cells te) = true) (hle : Nat.ble (o + new.length) es = true) :
    OpOk Γ ⟨none, .store te x y, ty, pos, af, g⟩ k L H k L (Hp.set H i (.row tb es (xs.set j (spliceD xs[j] o new)))) := by
  intro e a w Q m
  obtain ⟨inf, z, hi, _, hs, _⟩ := Ctx.info (Sh.known_ne hkn)
  obtain ⟨_, g0, n0, cap0, hη, hp⟩ := evT m hx (cSV_prow · _ _ _ _)
  have hr := m.op y (opOkB_spec hyo)
  rw [hy] at hr
  obtain ⟨c1, c2, c3⟩ := dcells_spec hd hr
  have hmem := Hp.mem_of hH
  obtain ⟨vs, ho, hes, hone, hrep⟩ := (m.heap _ hmem).2
  have hle' := Nat.le_of_ble_eq_true hle
  have hn' := Nat.eq_of_beq_eq_true hn
  rcases ho.2 with ⟨h2, h3⟩ | ⟨g', cap', cur, h2, hb0, hg, hnc, hcm, hcs, htake⟩
  · omega
  rw [hη] at h2
  cases h2
  generalize hN : (a.eval y).cells.toList = N at c1 c2 c3
  have hlen : vs.length = xs.length * es := ho.1
  have hjr : j * es + o + N.length ≤ xs.length * es := by
    have h1 : (j + 1) * es ≤ xs.length * es := Nat.mul_le_mul_right _ hj
    rw [Nat.add_mul] at h1
    omega
  have hcl : xs.length * es ≤ cur.toList.length := by
    rw [← hlen, ← htake, List.length_take]
    exact Nat.min_le_right _ _
  have hst := run_storeCells_at Γ.P g0 (j * es + o) tb N 0 cur w hg (by rw [← Array.length_toList]; omega) c2
  have hrun : (execOp a.eval ⟨none, .store te x y, ty, pos, af, g⟩).run Γ.P w = .ok .skip (w.setRow g0 (cur.toList.take (j * es + o) ++ N ++ cur.toList.drop (j * es + o + N.length)).toArray) := by
    have hsz : (a.eval y).cells.size = inf.size := by rw [← Array.length_toList, hN, c1, hn', hs]
    rw [← hN] at hst ⊢
    simp only [execOp, Instr.storeAt, hp, Instr.sureAddr]
    simp [storeVar, run_sizeOf hi, hsz, hst]
  unfold Oper.wp
  rw [hrun]
  have hown : HB.owned e (i, .row tb es xs) = some g0 := by simp [HB.owned, hη, Value.ownBlock]
  refine ⟨e, m.turn (b' := .row tb es (xs.set j (spliceD xs[j] o new))) hH ?_ rfl rfl rfl (fun c _ hc => setRow_other w _ c _ (fun h => hc (by rw [hown, h]))) rfl ?_⟩
  · simp [World.setRow]
  · have hset : (vs.take (j * es + o) ++ N ++ vs.drop (j * es + o + N.length)).length = xs.length * es := by simp; omega
    have hgo : (w.setRow g0 (cur.toList.take (j * es + o) ++ N ++ cur.toList.drop (j * es + o + N.length)).toArray).heap[g0]? = some (.cells (cur.toList.take (j * es + o) ++ N ++ cur.toList.drop (j * es + o + N.length)).toArray tb (0, 0)) := setRow_heap w g0 cur _ tb (0, 0) hg
    have hkeep : ∀ b, b < w.heap.size → ¬ Γ.X e H b → (w.setRow g0 (cur.toList.take (j * es + o) ++ N ++ cur.toList.drop (j * es + o + N.length)).toArray).heap[b]? = w.heap[b]? := fun b _ hb => setRow_other w _ b _ (fun h => hb (.inr (List.mem_filterMap.2 ⟨_, hmem, by rw [hown, h]⟩)))
    have hj0 : xs[j].length = es := hes j hj
    refine ⟨vs.take (j * es + o) ++ N ++ vs.drop (j * es + o + N.length), ⟨by rw [hset, List.length_set], .inr ⟨g0, _, _, ?_, hb0, hgo, ?_, hcm, ?_, ?_⟩⟩, fun i' h' => ?_, fun v hv => ?_, fun i' h' q hq => ?_⟩
    · rw [List.length_set]; exact hη
    · rw [List.length_set]; exact hnc
    · rw [← hcs]
      simp only [List.size_toArray, List.length_append, List.length_take, List.length_drop, Array.length_toList]
      have hcl2 : cur.toList.length = cur.size := Array.length_toList
      omega
    · rw [List.length_set]
      apply List.ext_getElem?
      intro p
      rw [List.getElem?_take]
      by_cases hp' : p < xs.length * es
      · rw [if_pos hp', splice_get _ _ _ _ (by omega), splice_get _ _ _ _ (by omega)]
        have hcv : cur.toList[p]? = vs[p]? := by rw [← htake, List.getElem?_take, if_pos hp']
        rw [hcv]
      · rw [if_neg hp', List.getElem?_eq_none (by omega)]
    · rw [List.getElem_set]
      split
      · rw [spliceD_len (by omega)]; exact hj0
      · exact hes i' (by simpa using h')
    · simp only [List.mem_append] at hv
      rcases hv with (hv | hv) | hv
      · exact hone v (List.mem_of_mem_take hv)
      · exact c2 v hv
      · exact hone v (List.mem_of_mem_drop hv)
    · have hi' : i' < xs.length := by simpa using h'
      rw [splice_get _ _ _ _ (by omega)]
      have old : ∀ (hq : q < xs[i'].length), ∃ v, vs[i' * es + q]? = some v ∧ RepC (Γ.X e H) (w.setRow g0 (cur.toList.take (j * es + o) ++ N ++ cur.toList.drop (j * es + o + N.length)).toArray) v (xs[i'][q]'hq) := fun hq => by
        obtain ⟨v, p1, p2⟩ := hrep i' hi' q hq
        exact ⟨v, p1, RepC.keep (by simp [World.setRow]) hkeep (fun _ _ h => h) p2⟩
      have hei := hes i' hi'
      by_cases hij : i' = j
      · subst hij
        have hsl : spliceD xs[i'] o new = (xs.set i' (spliceD xs[i'] o new))[i'] := by simp
        have hq0 : q < (spliceD xs[i'] o new).length := by rw [hsl]; exact hq
        have hq' : q < es := by rw [spliceD_len (by omega)] at hq0; omega
        have hg' := splice_get xs[i'] new o q (by omega)
        have hgq : (xs[i'].take o ++ new ++ xs[i'].drop (o + new.length))[q]? = some ((xs.set i' (spliceD xs[i'] o new))[i'][q]) := by
          have h9 := List.getElem?_eq_getElem hq0
          simp only [List.getElem_set_self]
          exact h9
        rw [hg'] at hgq
        by_cases q1 : q < o
        · rw [if_pos q1] at hgq
          rw [if_pos (by omega)]
          obtain ⟨v, p1, p2⟩ := old (by omega)
          rw [List.getElem?_eq_getElem (by omega)] at hgq
          injection hgq with hgq
          exact ⟨v, p1, hgq ▸ p2⟩
        · rw [if_neg q1] at hgq
          rw [if_neg (by omega)]
          by_cases q2 : q < o + new.length
          · rw [if_pos q2] at hgq
            rw [if_pos (by omega), show i' * es + q - (i' * es + o) = q - o by omega]
            obtain ⟨u, u1, u2⟩ := c3 (q - o) (by omega)
            rw [List.getElem?_eq_getElem (by omega)] at hgq
            injection hgq with hgq
            exact ⟨u, u1, hgq ▸ RepC.keep (by simp [World.setRow]) hkeep (fun _ _ h => h) u2⟩
          · rw [if_neg q2] at hgq
            rw [if_neg (by omega)]
            obtain ⟨v, p1, p2⟩ := old (by omega)
            rw [List.getElem?_eq_getElem (by omega)] at hgq
            injection hgq with hgq
            exact ⟨v, p1, hgq ▸ p2⟩
      · have hsx : (xs.set j (spliceD xs[j] o new))[i'] = xs[i'] := by rw [List.getElem_set, if_neg (fun h => hij h.symm)]
        have hq' : q < xs[i'].length := by rw [← hsx]; exact hq
        obtain ⟨v, p1, p2⟩ := old hq'
        have hv : (xs.set j (spliceD xs[j] o new))[i'][q] = xs[i'][q] := by simp only [hsx]
        rw [hv]
        rcases Nat.lt_or_gt_of_ne hij with h1 | h1
        · have := mul_lt_row (es := es) (q := q) h1 (by omega)
          rw [if_pos (by omega)]
          exact ⟨v, p1, p2⟩
        · have := mul_lt_row (es := es) (q := o + N.length - 1) h1
          have h4 : (j + 1) * es ≤ i' * es := Nat.mul_le_mul_right _ h1
          rw [Nat.add_mul] at h4
          rw [if_neg (by omega), if_neg (by omega)]
          exact ⟨v, p1, p2⟩

/-- A row of zero values is made. -/
theorem op_mk {d z n : Nat} {te : TypeId} {pos : String} {af : Array Edge} {g : Option (Nat × Bool)} {x y : Operand} {m' : Int} {v0 : Value} {x0 : D} (hz' : ¬ k z) (ht : Γ.sh t = .slice te) (hkn : (Γ.sh te).known = true) (hes : Γ.cells te = 1) (hzero : (tiGet Γ.τ te).zero = [v0]) (hx0 : cSV v0 = .d x0) (hzok : zeroOk (tiGet Γ.τ te).zero = true)
    (hx : opSV L x = .d (.int .i64 m')) (hy : opSV L y = .d (.int .i64 m')) (hn : m' = (n : Int)) (hroom : (tiGet Γ.τ te).bytes * n ≤ 281474976710656) (hmax : n ≤ maxLen) (hd : Nat.blt d Γ.n = true) :
    OpOk Γ ⟨some d, .makeSlice t x y, ty, pos, af, g⟩ k L H (with1 k z) ((d, .row z) :: L) ((z, .row te 1 (List.replicate n [x0])) :: H) := by
  subst hn
  intro e a w Q m
  have hze : ¬ e.dom z := fun h => hz' ((m.top z).1 h)
  obtain ⟨inf, zv, hi, hzz, hs, hb, hzc⟩ := Ctx.info (Sh.known_ne hkn)
  have hzcells : zv.cells = #[v0] := by
    apply Array.toList_inj.1
    rw [hzc, hzero]
  have hbytes : (inf.bytes : Int) * (n : Int) ≤ 281474976710656 := by
    have h : ((inf.bytes * n : Nat) : Int) ≤ 281474976710656 := by rw [hb]; omega
    rwa [Int.natCast_mul] at h
  have hrun := run_make (P := Γ.P) w t te inf zv (Ctx.slice ht) hi hzz .i64 .i64 (n : Int) n (by omega) (Int.le_refl _) hbytes (by unfold maxLen at hmax; omega)
  rw [hs, hes, Nat.mul_one, hzcells, Int.toNat_natCast] at hrun
  have hop : (execOp a.eval ⟨some d, .makeSlice t x y, ty, pos, af, g⟩).run Γ.P w = .ok (.value (.slice (some ⟨w.heap.size, 0, none⟩) n n)) (w.alloc (.cells (madeCells #[v0] n) te)) := by
    simp [execOp, evI m hx, evI m hy, hrun]
  unfold Oper.wp
  rw [hop]
  have hη : (e.bindRow z (.slice (some ⟨w.heap.size, 0, none⟩) n n)).η z = .slice (some ⟨w.heap.size, 0, none⟩) n n := if_pos rfl
  obtain ⟨hz1, hz2⟩ := zeroOk_spec (X := Γ.X e H) (e := e) (w := w) _ hzok
  rw [hzero] at hz1 hz2
  have hone : v0.oneCell' = true := hz2 v0 (List.mem_singleton.2 rfl)
  have hrep : RepC (Γ.X e H) w v0 x0 := by
    have h1 := hz1.1
    rw [hx0] at h1
    exact h1
  have m2 := m.new hz' (hb := .row te 1 (List.replicate n [x0])) (e' := e.bindRow z (.slice (some ⟨w.heap.size, 0, none⟩) n n)) (w' := w.alloc (.cells (madeCells #[v0] n) te)) (fun i => or_congr (m.top i) Iff.rfl) (e.bindRow_ext _ _ hze) (below_alloc _ _)
    (fun b hb => by simp only [HB.owned, hη, Value.ownBlock, Option.some.injEq] at hb; omega) (fun hX => by
      refine ⟨List.replicate n v0, ⟨by simp, .inr ⟨w.heap.size, n, _, by rw [hη, List.length_replicate], Nat.zero_le _, heap_alloc_new w _, by simp, hmax, by simp [size_madeCells], by rw [toList_madeCells_one]; simp⟩⟩, fun i h => by simp, fun v hv => ?_, fun i h j hj => ?_⟩
      · rw [(List.mem_replicate.1 hv).2]; exact hone
      · have hj0 : j = 0 := by simp at hj; omega
        subst hj0
        have hin : i < n := by simpa using h
        refine ⟨v0, by simp [hin], ?_⟩
        simp only [List.getElem_replicate, List.getElem_cons_zero]
        exact RepC.keep (below_alloc _ _).size (fun b hb _ => (below_alloc _ _).block b hb) (fun b hb hx => hX b hb hx) hrep)
  exact ⟨_, m2.put (s := .row z) (v := .slice (some ⟨w.heap.size, 0, none⟩) n n) (Nat.le_of_ble_eq_true hd) ⟨.inr rfl, hη.symm, rfl⟩⟩

/-- A stretch of data. -/
theorem ev_sliceD {es : Nat} {xs : List (List D)} {lo hi : Option Operand} {n m' : Int} (ht : Γ.sh t = .slice t') (hc : Γ.cells t' = es) (hkn : (Γ.sh t').known = true) (hx : opSV L x = .d (.slice es xs)) (hl : lowC (lo.map (opSV L)) = some n) (hh : highC xs.length (hi.map (opSV L)) = some m')
    (h0 : 0 ≤ n) (h1 : n ≤ m') (h2 : m' ≤ xs.length) : Ev Γ k L H (.slice t x lo hi none) ty (.d (.slice es ((xs.take m'.toNat).drop n.toNat))) := by
  intro e a w m
  have hrep := evT m hx (cSV_slice · _ _)
  obtain ⟨inf, z, hi', _, hs, _⟩ := Ctx.info (Sh.known_ne hkn)
  obtain ⟨ao, cap, hv, hlen, hmx, hnil⟩ := hrep.slice_inv
  have eN : ((n.toNat : Nat) : Int) = n := Int.toNat_of_nonneg h0
  have eM : ((m'.toNat : Nat) : Int) = m' := Int.toNat_of_nonneg (by omega)
  have hel : Γ.P.underlying t = some (.slice (Γ.P.elem t)) := by
    have h := Ctx.slice ht
    rw [h]
    simp [Program.elem, h]
  have hE : Γ.P.elem t = t' := by
    have h := Ctx.slice ht
    simp [Program.elem, h]
  have hrun : ∀ w', (Instr.slice t (.slice ao xs.length cap) (lo.map a.eval) (hi.map a.eval) none).run Γ.P w' = .ok (sliced ao n.toNat m'.toNat cap es) w' := by
    intro w'
    have hso : (sizeOf (Γ.P.elem t)).run Γ.P w' = .ok es w' := by rw [hE, run_sizeOf hi', hs, hc]
    have lo1 : ∀ z, lo = some z → opSV L z = .d (.int .i64 n) := by
      rintro z rfl
      simp only [Option.map_some] at hl
      generalize opSV L z = sz at hl
      unfold lowC at hl
      split at hl
      · rename_i h; cases h
      · rename_i h; cases h; cases hl; rfl
      · cases hl
    have hi1 : ∀ z, hi = some z → opSV L z = .d (.int .i64 m') := by
      rintro z rfl
      simp only [Option.map_some] at hh
      generalize opSV L z = sz at hh
      unfold highC at hh
      split at hh
      · rename_i h; cases h
      · rename_i h; cases h; cases hh; rfl
      · cases hh
    cases lo with
    | none =>
      cases hl
      cases hi with
      | none =>
        cases hh
        have := run_slice_all (P := Γ.P) (w := w') t ao xs.length cap hel
        rw [hso] at this
        simpa [Result.andThen] using this
      | some z =>
        have := run_slice_h (P := Γ.P) (w := w') t ao xs.length cap hel .i64 m' (by omega) (by omega)
        rw [hso] at this
        simpa [Result.andThen, evI m (hi1 z rfl)] using this
    | some y =>
      cases hi with
      | none =>
        cases hh
        have := run_slice_l (P := Γ.P) (w := w') t ao xs.length cap hel .i64 n h0 h1
        rw [hso] at this
        simpa [Result.andThen, evI m (lo1 y rfl)] using this
      | some z =>
        have := run_slice_lh (P := Γ.P) (w := w') t ao xs.length cap hel .i64 .i64 n m' h0 h1 (by omega)
        rw [hso] at this
        simpa [Result.andThen, evI m (lo1 y rfl), evI m (hi1 z rfl)] using this
  refine ⟨sliced ao n.toNat m'.toNat cap es, fun _ _ _ _ w' _ => ?_, ?_⟩
  · simp [execOp, Instr.sliceAt, hv, run_underlying (Ctx.slice ht), hrun w']
  · rw [hv] at hrep
    have hN : n.toNat ≤ m'.toNat := by omega
    have hM : m'.toNat ≤ xs.length := by omega
    generalize n.toNat = N at hN
    generalize m'.toNat = M at hN hM
    clear hrun hh hl
    have hlen2 : ((xs.take M).drop N).length = M - N := by simp; omega
    unfold sliced
    generalize hq : xs.length = q at hrep hM hlen
    cases hrep with
    | nil =>
      have hN0 : N = 0 := by simp at hq; omega
      have hM0 : M = 0 := by simp at hq; omega
      subst hN0; subst hM0
      exact .nil
    | zero =>
      have hN0 : N = 0 := by simp at hq; omega
      have hM0 : M = 0 := by simp at hq; omega
      subst hN0; subst hM0
      exact .zero
    | slice c hn hcc hm hX hb he hcell hrep =>
      rename_i b off
      by_cases hcn : cap = N
      · rw [if_pos hcn]
        have h0 : (xs.take M).drop N = [] := List.eq_nil_of_length_eq_zero (by omega)
        rw [h0, show M - N = 0 by omega, show cap - N = 0 by omega]
        exact .zero
      · rw [if_neg hcn, Option.map_some, Addr.add_at]
        have hget : ∀ i (h : i < ((xs.take M).drop N).length), ((xs.take M).drop N)[i]'h = xs[N + i]'(by omega) := by intro i h; simp
        refine .slice (fun i j => c (N + i) j) hlen2.symm (by omega) (by omega) hX hb (fun i h => ?_) (fun i h j hj => ?_) (fun i h j hj => ?_)
        · rw [hget i h]; exact he _ _
        · have hj2 : j < (xs[N + i]'(by omega)).length := by rw [← hget i h]; exact hj
          have := hcell (N + i) (by omega) j hj2
          rw [show off + (N + i) * es + j = off + N * es + i * es + j by rw [Nat.add_mul]; omega] at this
          exact this
        · have hj2 : j < (xs[N + i]'(by omega)).length := by rw [← hget i h]; exact hj
          have h3 := hrep (N + i) (by omega) j hj2
          have h4 : (((xs.take M).drop N)[i]'h)[j]'hj = (xs[N + i]'(by omega))[j]'hj2 := by simp only [hget i h]
          rw [h4]
          exact h3
end
section
variable {Γ : Ctx} {k : Nat} {L : Sl} {H : Hp} {K : Next'} {ops : List Oper} {rest : List Oper} {t t' ty : TypeId} {x y : Operand} {q : Bool}

theorem nat_sub_1 (a : Nat) : ((a + 1 : Nat) : Int) - 1 = (a : Int) := by omega
theorem hv_set {α : Type} {f : α → List D} {l : List α} {j o : Nat} {u v : α} {new : List D} (h : spliceD (f u) o new = f v) : (l.map f).set j (spliceD (f u) o new) = (l.set j v).map f := by rw [h, List.map_set]
theorem hv_drop {α : Type} {f : α → List D} {l : List α} {n : Int} {j N : Nat} (hn : n = (j : Int)) : (((l.map f).take ((N : Int)).toNat).drop n.toNat) = ((l.take N).drop j).map f := by subst hn; simp
theorem hv_take {α : Type} {f : α → List D} {l : List α} {n : Int} {j : Nat} (hn : n = (j : Int)) : (((l.map f).take n.toNat).drop (0 : Int).toNat) = (l.take j).map f := by subst hn; simp

theorem ds_ixR {d i es j : Nat} {te : TypeId} {pos : String} {af : Array Edge} {g : Option (Nat × Bool)} {n : Int} {xs : List (List D)} (hx : opSV L x = .row i) (hH : Hp.get H i = some (.row te es xs)) (hy : opSV L y = .d (.int .i64 n)) (hn : n = (j : Int)) (h1 : j < xs.length)
    (ht : (tiGet Γ.τ t).sh = .slice t') (hc : (tiGet Γ.τ t').cells = es) (hkn : (tiGet Γ.τ t').sh.known = true) (hw : wantedSV ops L g = some true) (hd : Nat.blt d Γ.n = true)
    (hk : DS q Γ ops rest K k ((d, .prow i j es 0) :: L) H) : DS q Γ ops (⟨some d, .indexAddr t x y, ty, pos, af, g⟩ :: rest) K k L H :=
  ds_ev (ev_index_row ht hc hkn hx hy hH hn h1) hw hd hk

theorem ds_ldP {d i es j o : Nat} {te : TypeId} {pos : String} {af : Array Edge} {g : Option (Nat × Bool)} {xs : List (List D)} {ds : List D} {p : Prop} {s : SV} (hx : opSV L x = .prow i j es o) (hH : Hp.get H i = some (.row te es xs)) (hds : xs[j]? = some ds)
    (h : loadC Γ.τ t (.pd (ds.drop o)) (fun _ => none) = some (p, s)) (hw : wantedSV ops L g = some true) (hd : Nat.blt d Γ.n = true)
    (hk : DS q Γ ops rest K k ((d, s) :: L) H) : DS q Γ ops (⟨some d, .load t x, ty, pos, af, g⟩ :: rest) K k L H := by
  have hj : j < xs.length := (List.getElem?_eq_some_iff.1 hds).1
  exact ds_ev (ev_load_prow hx hH hj (List.getElem?_eq_some_iff.1 hds).2 h) hw hd hk

theorem ds_stP {te tb : TypeId} {pos : String} {af : Array Edge} {g : Option (Nat × Bool)} {i j es o : Nat} {xs ys : List (List D)} {s : SV} {ds new : List D} {H' : Hp} (hx : opSV L x = .prow i j es o) (hH : Hp.get H i = some (.row tb es xs)) (hds : xs[j]? = some ds)
    (hy : opSV L y = s) (hd : dcells s = some new) (hys : xs.set j (spliceD ds o new) = ys) (hH' : setF H i (.row tb es ys) some = some H') (hyo : opOkB y = true) (hkn : (tiGet Γ.τ te).sh.known = true) (hn : Nat.beq new.length (tiGet Γ.τ te).cells = true) (hle : Nat.ble (o + new.length) es = true)
    (hw : wantedSV ops L g = some true) (hk : DS false Γ ops rest K k L H') : DS false Γ ops (⟨none, .store te x y, ty, pos, af, g⟩ :: rest) K k L H := by
  have hj : j < xs.length := (List.getElem?_eq_some_iff.1 hds).1
  have he := (List.getElem?_eq_some_iff.1 hds).2
  subst hys
  rw [← he] at hH'
  rw [setF_eq] at hH'
  cases hH'
  exact dl_op hw (op_storeP hx hH hj hy hyo hd hkn hn hle) hk

theorem ds_slD {d es : Nat} {xs ys : List (List D)} {lo hi : Option Operand} {n m' : Int} {pos : String} {af : Array Edge} {g : Option (Nat × Bool)} (hx : opSV L x = .d (.slice es xs)) (ht : (tiGet Γ.τ t).sh = .slice t') (hc : (tiGet Γ.τ t').cells = es) (hkn : (tiGet Γ.τ t').sh.known = true)
    (hl : lowC (lo.map (opSV L)) = some n) (hh : highC xs.length (hi.map (opSV L)) = some m') (h0 : 0 ≤ n ∧ n ≤ m' ∧ m' ≤ xs.length) (hys : (xs.take m'.toNat).drop n.toNat = ys) (hw : wantedSV ops L g = some true) (hd : Nat.blt d Γ.n = true)
    (hk : DS q Γ ops rest K k ((d, .d (.slice es ys)) :: L) H) : DS q Γ ops (⟨some d, .slice t x lo hi none, ty, pos, af, g⟩ :: rest) K k L H := by
  subst hys
  exact ds_ev (ev_sliceD ht hc hkn hx hl hh h0.1 h0.2.1 h0.2.2) hw hd hk

theorem ds_mk (ys : List (List D)) {d n : Nat} {te : TypeId} {pos : String} {af : Array Edge} {g : Option (Nat × Bool)} {x y : Operand} {m' : Int} {v0 : Value} {x0 : D} (hx : opSV L x = .d (.int .i64 m')) (hy : opSV L y = .d (.int .i64 m')) (hn : m' = (n : Int)) (ht : (tiGet Γ.τ t).sh = .slice te)
    (hkn : (tiGet Γ.τ te).sh.known = true) (hes : (tiGet Γ.τ te).cells = 1) (hzero : (tiGet Γ.τ te).zero = [v0]) (hx0 : cSV v0 = .d x0) (hzok : zeroOk (tiGet Γ.τ te).zero = true) (hroom : (tiGet Γ.τ te).bytes * n ≤ 281474976710656) (hmax : n ≤ maxLen) (hys : List.replicate n [x0] = ys)
    (hw : wantedSV ops L g = some true) (hd : Nat.blt d Γ.n = true) (hk : DS false Γ ops rest K (k + 1) ((d, .row k) :: L) ((k, .row te 1 ys) :: H)) : DS false Γ ops (⟨some d, .makeSlice t x y, ty, pos, af, g⟩ :: rest) K k L H := by
  subst hys
  exact dl_op hw ((op_mk (lo_not k) ht hkn hes hzero hx0 hzok hx hy hn hroom hmax hd).cast (with1_lo k)) hk

/-- Rows that are shown to a call, which hands back a plain value. -/
def sealSV (i es : Nat) (xs : List (List D)) : SV → SV
  | .row j => match Nat.beq j i with | true => .d (.slice es xs) | false => .row j
  | s => s
def sealL (i es : Nat) (xs : List (List D)) : List SV → List SV
  | [] => []
  | s :: l => sealSV i es xs s :: sealL i es xs l
def scalB : SV → Bool
  | .d (.int _ _) => true
  | .d (.bool _) => true
  | .d (.str _) => true
  | .tup [] => true
  | _ => false
theorem scal_rel {X Y : Nat → Prop} {e e' : Env} {w w' : World} {s : SV} {v : Value} (h : scalB s = true) (hr : Rel X e w s v) : Rel Y e' w' s v := by
  cases s with
  | d x =>
    cases x with
    | slice => cases h
    | _ => cases hr <;> constructor <;> assumption
  | tup ss =>
    cases ss with
    | nil => obtain ⟨vs, h1, h2⟩ := hr; cases vs with | nil => exact ⟨[], h1, trivial⟩ | cons => exact h2.elim
    | cons => cases h
  | _ => cases h
theorem dl_callS {f : FuncId} {xs : List Operand} {ts : Array TypeId} {ty : TypeId} {pos : String} {af : Array Edge} {g : Option (Nat × Bool)} {d i es : Nat} {te : TypeId} {ds : List (List D)} {args : List SV} {R : SV → Prop} (hw : wantedSV ops L g = some true)
    (hH : Hp.get H i = some (.row te es ds)) (ha : sealL i es ds (opsL L xs) = args) (hc : FnP Γ.P Γ.τ Γ.τok f args R) (hok : opsOk xs = true) (hlow : SV.lowL 0 args = true) (hd : Nat.blt d Γ.n = true) (hs : ∀ r, R r → scalB r = true)
    (hk : ∀ r, R r → DL Γ ops rest K k ((d, r) :: L) H) :
    DL Γ ops (⟨some d, .call { callee := .value (.func f), args := xs.toArray, argTypes := ts }, ty, pos, af, g⟩ :: rest) K k L H := by
  refine dl_run hw fun e a w m => ?_
  obtain ⟨m2, hX⟩ := m.del i
  have key : ∀ (ss : List SV) (vs : List Value), RelL (Γ.X e H) e w ss vs → RelL (Γ.X e (Hp.del H i)) e w (sealL i es ds ss) vs := by
    intro ss
    induction ss with
    | nil => intro vs h; cases vs <;> exact h
    | cons s ss ih =>
      intro vs h
      cases vs with
      | nil => exact h.elim
      | cons v vs =>
        refine ⟨?_, ih vs h.2⟩
        have hk : Rel (Γ.X e (Hp.del H i)) e w s v := Rel.keep (Nat.le_refl _) (fun _ _ _ => rfl) (fun b _ h => hX b h) _ _ h.1
        unfold sealSV
        split
        · rename_i j
          cases hb : Nat.beq j i with
          | true =>
            have := Nat.eq_of_beq_eq_true hb
            subst this
            rw [show v = e.η j from h.1.2.1]
            exact row_data m hH
          | false => exact hk
        · exact hk
  unfold Oper.wp
  rw [run_callOp hc.1]
  rw [Oper.upon_enter]
  refine (hc.use (τ := Γ.τ) (τok := Γ.τok) (Γ := Γ) m2 hlow _ (ha ▸ key _ _ (opsL_rel m xs hok))).mono ?_
  rintro en w' ⟨r, v, hR, rfl, hb, hlr, hrel⟩
  exact ⟨k, _, H, e, (m.below hb).put (Nat.le_of_ble_eq_true hd) (scal_rel (hs r hR) hrel), hk r hR⟩
theorem ds_callS (i : Nat) {f : FuncId} {xs : List Operand} {ts : Array TypeId} {ty : TypeId} {pos : String} {af : Array Edge} {g : Option (Nat × Bool)} {d es : Nat} {te : TypeId} {ds : List (List D)} {args : List SV} {R : SV → Prop} (hc : FnP Γ.P Γ.τ Γ.τok f args R)
    (hH : Hp.get H i = some (.row te es ds)) (ha : sealL i es ds (opsL L xs) = args) (hs : ∀ r, R r → scalB r = true) (hw : wantedSV ops L g = some true) (hok : opsOk xs = true) (hlow : SV.lowL 0 args = true) (hd : Nat.blt d Γ.n = true)
    (hk : ∀ r, R r → DS false Γ ops rest K k ((d, r) :: L) H) : DS false Γ ops (⟨some d, .call { callee := .value (.func f), args := xs.toArray, argTypes := ts }, ty, pos, af, g⟩ :: rest) K k L H :=
  dl_callS hw hH ha hc hok hlow hd hs hk

/-- A struct's field that is a slice is not too long. -/
theorem dw_lenA (t j : Nat) {c : Code} {Q : Post} {es : Nat} {ss : List SV} {xs : List (List D)} (h : L.get t = .agg ss) (hj : ss[j]? = some (.d (.slice es xs))) (hk : xs.length ≤ 9223372036854775807 → DW Γ c Q k L H) : DW Γ c Q k L H := by
  intro e a w m
  have hr := m.slot t
  rw [h] at hr
  obtain ⟨vs, _, h2⟩ := hr
  obtain ⟨v, _, h3⟩ := RelL.get _ _ h2 j _ hj
  obtain ⟨ao, cap, _, h4, h5, _⟩ := RepC.slice_inv h3
  exact hk (by unfold maxLen at h5; omega) e a w m

/-- A place to stop at: a block that has a number. -/
theorem dw_stop (id : Nat) {c y : Code} {Q : Post} (h : DW Γ (.seq (.block id c) y) Q k L H) : DW Γ (.seq (.block id c) y) Q k L H := h
theorem dw_stopR (id : Nat) {ops : Array Oper} {b : Bool} {x z : Code} {Q : Post} (h : DW Γ (.seq (.seq (.region id ops b) x) z) Q k L H) : DW Γ (.seq (.seq (.region id ops b) x) z) Q k L H := h
/-- What is known between two parts is said. -/
theorem dw_cut {ι : Type} {c y : Code} {Q : Post} (I : ι → St) (pre : ι → Prop) (hx : DW Γ c (thenD (fun k' L' H' => ∃ i, pre i ∧ Ent Γ k' L' H' (I i).k (I i).L (I i).H) Q) k L H) (hy : ∀ i, pre i → DW Γ y Q (I i).k (I i).L (I i).H) : DW Γ (.seq c y) Q k L H := by
  intro e a w m
  refine wpIn_seq (wpIn_mono (hx e a w m) ?_)
  rintro ex a' w' (⟨k', L', H', e', m', hq⟩ | hf)
  · cases ex with
    | normal =>
      obtain ⟨i, hp, he⟩ := hq
      obtain ⟨e2, m2⟩ := he e' a' w' m'
      exact hy i hp e2 a' w' m2
    | _ => exact .inl ⟨k', L', H', e', m', hq⟩
  · obtain ⟨v, k', e', rfl, r⟩ := hf
    exact .inr ⟨v, k', e', rfl, r⟩

theorem ent_trans {k2 k3 : Nat} {L2 L3 : Sl} {H2 H3 : Hp} (h : Ent Γ k L H k2 L2 H2) (g : Ent Γ k2 L2 H2 k3 L3 H3) : Ent Γ k L H k3 L3 H3 := fun e a w m =>
  let ⟨e2, m2⟩ := h e a w m
  g e2 a w m2
end
end Go.Proofs.Ytapciiffpnociaa
