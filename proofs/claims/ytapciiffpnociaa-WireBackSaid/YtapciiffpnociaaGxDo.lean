/- A plain logic over the walk: one step, as the walks take it. No program is named here. Condition: none. -/
import Derived.Test.YtapciiffpnociaaGxSim
namespace Go.Proofs.Ytapciiffpnociaa
open Go Go.RowKit

theorem u8_range (c : UInt8) : 0 ≤ (c.toNat : Int) ∧ (c.toNat : Int) ≤ 255 := by have := c.toNat_lt; omega
theorem sat_range (s : ByteArray) (i : Nat) : 0 ≤ sat s i ∧ sat s i ≤ 255 := by
  unfold sat
  split
  · exact u8_range _
  · omega
theorem hv_chr {c : UInt8} : SV.d (.str ⟨#[UInt8.ofNat (c.toNat : Int).toNat]⟩) = .d (.str ⟨#[c]⟩) := by simp
theorem hv_row {α : Type} {l : List α} {f : α → List D} {n : Int} {j : Nat} (hn : n = (j : Int)) (h : j < (l.map f).length) : SV.pd (rowAt (l.map f) n.toNat) = .pd (f (l[j]'(by simpa using h))) := by
  have h' : j < l.length := by simpa using h
  subst hn; simp [rowAt, List.getD, h']
theorem hv_sat {s : ByteArray} {n : Int} {j : Nat} (hn : n = (j : Int)) (h : j < s.size) : SV.d (.int .u8 (sat s n.toNat)) = .d (.int .u8 ((s[j]'h).toNat : Int)) := by
  subst hn; simp [sat_eq h]
theorem bytesOk_one {n : Int} : BytesOk [[D.int .u8 n]] := by
  intro x hx
  rw [List.mem_singleton] at hx
  exact ⟨n, hx⟩
theorem hv_ext {s : ByteArray} {n m : Int} {i j : Nat} (hn : n = (i : Int)) (hm : m = (j : Int)) : SV.d (.str (s.extract n.toNat m.toNat)) = .d (.str (s.extract i j)) := by
  subst hn; subst hm; rfl

mutual
theorem SV.ren_id : ∀ (s : SV), s.ren id = s
  | .junk => rfl
  | .d _ => rfl
  | .nils => rfl
  | .pd _ => rfl
  | .loc _ _ => rfl
  | .row _ => rfl
  | .prow _ _ _ _ => rfl
  | .fn f caps => by simp only [SV.ren, SV.renL_id caps]
  | .agg ss => by simp only [SV.ren, SV.renL_id ss]
  | .tup ss => by simp only [SV.ren, SV.renL_id ss]
  | .val _ => rfl
theorem SV.renL_id : ∀ (ss : List SV), SV.renL id ss = ss
  | [] => rfl
  | s :: ss => by simp only [SV.renL, SV.ren_id s, SV.renL_id ss]
end

/-- What is handed back; what else is owned at the end is let go. -/
def Kept (J : Nat) (R : Nat → SV → Hp → Prop) (_ : Nat) (r : SV) (H : Hp) : Prop :=
  ∃ k2 H2, KnowsH id H H2 ∧ Hp.low k2 H2 = true ∧ distinct (H2.map (·.1)) = true ∧ Nat.ble J k2 = true ∧ r.low k2 = true ∧ R k2 r H2

theorem anchorOk_id : ∀ J, anchorOk id J = true
  | 0 => rfl
  | J + 1 => by simp only [anchorOk, Bool.and_eq_true]; exact ⟨Nat.beq_refl J, anchorOk_id J⟩

theorem fn_enterF {P : Program} {τ : List (Nat × TI)} {τok : TabOk P τ} {f : FuncId} {fn : Func} {c : Code} {args : List SV} {J k : Nat} {H : Hp} {R : Nat → SV → Hp → Prop} (N : Nat) (hf : P.funcs[f]? = some fn) (hb : fn.body = some c)
    (hN : args.length + (fn.ntmps - args.length) = N) (hcall : callable P f = true)
    (h : ∀ (O : Nat → Prop) (w0 : World) (E0 : Nat → Prop) (β0 : Nat → Nat), DW ⟨P, τ, τok, O, w0, E0, N, J, β0⟩ c (RetQ τ fn.results.toList (Kept J R)) k (enumSl 0 args) H) : FnOk P τ τok f args J k H R := by
  have h2 := fn_enter (J := J) (k := k) (H := H) N hf hb hN hcall (R := Kept J R) h
  refine ⟨h2.1, fun O e w vs hH hr => (h2.2 O e w vs hH hr).mono ?_⟩
  rintro en w' ⟨k', r, H', e', v, ⟨k2, H2, hK, hl, hd, hj, hrl, hR⟩, rfl, hH', hrel⟩
  obtain ⟨g1, g2⟩ := hH'.ren id k2 H2 hK hl hd hd hj (anchorOk_id J)
  exact ⟨k2, r, H2, e'.ren id k2, v, hR, rfl, g1, Rel.keep (Nat.le_refl _) (fun _ _ _ => rfl) (fun b _ hy => g2 b hy) _ _ (Rel.ren id k2 r v hrl ((SV.ren_id r).symm ▸ hrel))⟩

section
variable {Γ : Ctx} {k κ : Nat} {L : Sl} {H : Hp} {K : Next'} {ops : List Oper} {rest : List Oper} {q : Bool}

theorem ds_evC {d : Nat} {op : Op} {ty : TypeId} {pos : String} {af : Array Edge} {g : Option (Nat × Bool)} {p : Prop} {s s' : SV} (he : evC Γ.τ (opSV L) (Hp.get H) op = some (p, s)) (hp : p) (hv : s = s') (hok : opsOkB op = true)
    (hw : wantedSV ops L g = some true) (hd : Nat.blt d Γ.n = true) (hk : DS q Γ ops rest K k ((d, s') :: L) H) : DS q Γ ops (⟨some d, op, ty, pos, af, g⟩ :: rest) K k L H := by
  subst hv
  exact ds_ev (evC_sound he hp hok) hw hd hk

def setF : Hp → Nat → HB → (Hp → Option Hp) → Option Hp
  | [], _, _, k => k []
  | (d, s) :: H, i, b, k => match Nat.beq d i with
    | true => k ((d, b) :: H)
    | false => setF H i b fun H' => k ((d, s) :: H')
theorem setF_eq (i : Nat) (b : HB) : ∀ (H : Hp) (k : Hp → Option Hp), setF H i b k = k (Hp.set H i b)
  | [], _ => rfl
  | (d, s) :: H, k => by
    simp only [setF, Hp.set]
    cases h : Nat.beq d i with
    | true => rfl
    | false => simp only [setF_eq i b H]
def delF : Hp → Nat → (Hp → Option Hp) → Option Hp
  | [], _, k => k []
  | (d, s) :: H, i, k => match Nat.beq d i with
    | true => k H
    | false => delF H i fun H' => k ((d, s) :: H')
theorem delF_eq (i : Nat) : ∀ (H : Hp) (k : Hp → Option Hp), delF H i k = k (Hp.del H i)
  | [], _ => rfl
  | (d, s) :: H, k => by
    simp only [delF, Hp.del]
    cases h : Nat.beq d i with
    | true => rfl
    | false => simp only [delF_eq i H]

theorem ds_newC {d : Nat} {op : Op} {ty : TypeId} {pos : String} {af : Array Edge} {g : Option (Nat × Bool)} {p : Prop} {s : SV} {b : HB} (he : stepD Γ.τ (opSV L) (Hp.get H) k op = some (p, s, .new b)) (hp : p) (hok : opsOkB op = true)
    (hw : wantedSV ops L g = some true) (hd : Nat.blt d Γ.n = true) (hk : DS false Γ ops rest K (k + 1) ((d, s) :: L) ((k, b) :: H)) : DS false Γ ops (⟨some d, op, ty, pos, af, g⟩ :: rest) K k L H :=
  dl_op hw ((stepD_sound he hp hok hd (lo_not k)).cast (with1_lo k)) hk
theorem ds_tradeC {d j : Nat} {op : Op} {ty : TypeId} {pos : String} {af : Array Edge} {g : Option (Nat × Bool)} {p : Prop} {s : SV} {b : HB} {H' : Hp} (he : stepD Γ.τ (opSV L) (Hp.get H) k op = some (p, s, .trade j b)) (hp : p) (hok : opsOkB op = true)
    (hw : wantedSV ops L g = some true) (hd : Nat.blt d Γ.n = true) (hH : delF H j some = some H') (hk : DS false Γ ops rest K (k + 1) ((d, s) :: L) ((k, b) :: H')) : DS false Γ ops (⟨some d, op, ty, pos, af, g⟩ :: rest) K k L H := by
  rw [delF_eq] at hH
  cases hH
  exact dl_op hw ((stepD_sound he hp hok hd (lo_not k)).cast (with1_lo k)) hk
theorem store_sound {te ty : TypeId} {x y : Operand} {pos : String} {af : Array Edge} {g : Option (Nat × Bool)} {p : Prop} {s : SV} {j : Nat} {b : HB} {D : Nat → Prop} (h : storeC Γ.τ te (opSV L x) (opSV L y) (Hp.get H) = some (p, s, .set j b)) (hok : opOkB y = true) :
    OpOk Γ ⟨none, .store te x y, ty, pos, af, g⟩ D L H D L (Hp.set H j b) := by
  simp only [storeC, forceL_eq] at h
  split at h
  · rename_i i o hx
    split at h
    · rename_i tb cs hH
      split at h
      · rename_i hc
        cases h
        simp only [Bool.and_eq_true] at hc
        exact op_store hx hH rfl hok hc.1 hc.2.1 hc.2.2.1 hc.2.2.2
      · cases h
    · cases h
  · cases h
theorem ds_setC {te ty : TypeId} {x y : Operand} {pos : String} {af : Array Edge} {g : Option (Nat × Bool)} {p : Prop} {s : SV} {j : Nat} {b : HB} {H' : Hp} (he : storeC Γ.τ te (opSV L x) (opSV L y) (Hp.get H) = some (p, s, .set j b)) (hok : opOkB y = true)
    (hw : wantedSV ops L g = some true) (hH : setF H j b some = some H') (hk : DS false Γ ops rest K k L H') : DS false Γ ops (⟨none, .store te x y, ty, pos, af, g⟩ :: rest) K k L H := by
  rw [setF_eq] at hH
  cases hH
  exact dl_op hw (store_sound he hok) hk
theorem bs_sound {d : Nat} {t len : Nat} {ty : TypeId} {pos : String} {af : Array Edge} {g : Option (Nat × Bool)} {ps : Array (Nat × Operand)} {p : Prop} {s : SV} {D : Nat → Prop} (h : buildSliceC Γ.τ (opSV L) t len ps.toList = some (p, s, .no)) (hok : opsOkB (.buildSlice t len ps) = true) (hd : Nat.blt d Γ.n = true) :
    OpOk Γ ⟨some d, .buildSlice t len ps, ty, pos, af, g⟩ D L H D ((d, s) :: L) H := by
  unfold buildSliceC at h
  split at h
  · rename_i te ht
    split at h
    · rename_i hc
      simp only [Bool.and_eq_true] at hc
      obtain ⟨c1, c2, c3, c4, c5⟩ := hc
      split at h
      · rename_i cs hf
        split at h
        · rename_i hl
          split at h
          · rename_i xs hx
            cases h
            obtain ⟨pl⟩ := ps
            have hok' : partsOk pl = true := partsOk_all _ (by simpa [opsOkB, Op.operands, List.all_map, Function.comp_def] using hok)
            rw [show (List.map (fun p => (p.1, opSV L p.2)) (Array.mk pl).toList) = partsSV L pl from (partsSV_map pl).symm] at hf
            exact op_buildSlice ht c1 rfl c2 c3 c4 hok' c5 hf hl hx hd
          · cases h
        · cases h
      · cases h
    · cases h
  · cases h
theorem ds_bsC {d : Nat} {t len : Nat} {ty : TypeId} {pos : String} {af : Array Edge} {g : Option (Nat × Bool)} {ps : Array (Nat × Operand)} {p : Prop} {s : SV} (he : buildSliceC Γ.τ (opSV L) t len ps.toList = some (p, s, .no)) (hok : opsOkB (.buildSlice t len ps) = true)
    (hw : wantedSV ops L g = some true) (hd : Nat.blt d Γ.n = true) (hk : DS false Γ ops rest K k ((d, s) :: L) H) : DS false Γ ops (⟨some d, .buildSlice t len ps, ty, pos, af, g⟩ :: rest) K k L H :=
  dl_op hw (bs_sound he hok hd) hk

mutual
theorem Rel.lower {X e w} (k : Nat) : ∀ (s : SV) (v : Value), s.low k = true → Rel X e w s v → Rel X ⟨e.β, e.η, lo k⟩ w s v
  | .junk, _, _, _ => trivial
  | .d _, _, _, h => h
  | .nils, _, _, h => h
  | .pd _, _, _, h => h
  | .loc _ _, _, hb, h => ⟨Nat.le_of_ble_eq_true hb, h.2⟩
  | .row _, _, hb, h => ⟨Nat.le_of_ble_eq_true hb, h.2⟩
  | .prow _ _ _ _, _, hb, h => ⟨Nat.le_of_ble_eq_true hb, h.2⟩
  | .fn _ caps, _, hb, ⟨vs, h1, h2⟩ => ⟨vs, h1, RelL.lower k caps vs hb h2⟩
  | .agg ss, _, hb, ⟨vs, h1, h2⟩ => ⟨vs, h1, RelL.lower k ss vs hb h2⟩
  | .tup ss, _, hb, ⟨vs, h1, h2⟩ => ⟨vs, h1, RelL.lower k ss vs hb h2⟩
  | .val _, _, _, h => h
theorem RelL.lower {X e w} (k : Nat) : ∀ (ss : List SV) (vs : List Value), SV.lowL k ss = true → RelL X e w ss vs → RelL X ⟨e.β, e.η, lo k⟩ w ss vs
  | [], [], _, _ => trivial
  | [], _ :: _, _, h => h.elim
  | _ :: _, [], _, h => h.elim
  | s :: ss, v :: vs, hb, h => by
    simp only [SV.lowL, Bool.and_eq_true] at hb
    exact ⟨Rel.lower k s v hb.1 h.1, RelL.lower k ss vs hb.2 h.2⟩
end

theorem Sl.low_get {k : Nat} : ∀ (L : Sl), Sl.low k L = true → ∀ t, (Sl.get L t).low k = true
  | [], _, _ => rfl
  | (d, s) :: L, h, t => by
    simp only [Sl.low, Bool.and_eq_true] at h
    rw [Sl.get_cons]
    split
    · exact h.1
    · exact Sl.low_get L h.2 t

/-- Names that are not in use are given back. -/
theorem Models.lower {k' : Nat → Prop} {e : Env} {a : Act} {w : World} (m : Models Γ k' L H e a w) (k : Nat) (hL : Sl.low k L = true) (hH : Hp.low k H = true) (hj : Nat.ble Γ.J k = true) : Models Γ k L H ⟨e.β, e.η, lo k⟩ a w := by
  have hlow := Hp.low_spec H hH
  have hol : ownedL ⟨e.β, e.η, lo k⟩ H = ownedL e H := rfl
  refine ⟨⟨fun _ => Iff.rfl, fun p hp => ⟨(hlow p hp).1, ?_⟩, m.ids, m.nodup, m.mine, m.os, m.tape, m.output, m.size, m.block, m.obound, fun j hjl => Nat.lt_of_lt_of_le hjl (Nat.le_of_ble_eq_true hj), m.anchor⟩, m.defers, m.len, fun t => Rel.lower k _ _ (Sl.low_get L hL t) (m.slot t)⟩
  have h := (m.heap p hp).2
  have hl := (hlow p hp).2
  obtain ⟨i, b⟩ := p
  cases b with
  | blk ty cs =>
    obtain ⟨vs, h1, h2, h3⟩ := h
    exact ⟨vs, h1, RelL.lower k cs vs hl h2, h3⟩
  | row ty es xs => exact h

/-- Heads are looked at ahead of what follows. -/
def HB.force (b : HB) (k : HB → Prop) : Prop := match b with
  | .blk ty cs => forceL cs fun cs' => k (.blk ty cs')
  | .row ty es xs => k (.row ty es xs)
theorem HB.force_eq (b : HB) (k : HB → Prop) : b.force k = k b := by cases b <;> simp [HB.force, forceL_eq]
def forceHp : Hp → (Hp → Prop) → Prop
  | [], k => k []
  | (i, b) :: r, k => b.force fun b' => forceHp r fun r' => k ((i, b') :: r')
theorem forceHp_eq : ∀ (H : Hp) (k : Hp → Prop), forceHp H k = k H
  | [], _ => rfl
  | (i, b) :: r, k => by simp only [forceHp, HB.force_eq, forceHp_eq r]

/-- What goes on behind a call: with the old names, if no new ones are in use. -/
def afterCall (q : Bool) (Γ : Ctx) (ops rest : List Oper) (K : Next') (k m d : Nat) (r : SV) (L : Sl) (H : Hp) : Prop :=
  forceSV r fun r' => forceHp H fun H' => match Sl.low k L && (SV.low k r' && (Hp.low k H' && Nat.ble Γ.J k)) with
    | true => DS q Γ ops rest K k ((d, r') :: L) H'
    | false => DS q Γ ops rest K m ((d, r') :: L) H'

theorem after_call {m d : Nat} {r : SV} (h : afterCall false Γ ops rest K k m d r L H) : DS false Γ ops rest K m ((d, r) :: L) H := by
  unfold afterCall at h
  rw [forceSV_eq, forceHp_eq] at h
  split at h
  · rename_i hc
    simp only [Bool.and_eq_true] at hc
    intro e a w mm
    exact h _ a w (mm.lower k (by simp only [Sl.low, Bool.and_eq_true]; exact ⟨hc.2.1, hc.1⟩) hc.2.2.1 hc.2.2.2)
  · exact h

theorem ds_callF {f : FuncId} {xs : List Operand} {ts : Array TypeId} {ty : TypeId} {pos : String} {af : Array Edge} {g : Option (Nat × Bool)} {d : Nat} {args : List SV} {J kc : Nat} {Hc : Hp} {R : Nat → SV → Hp → Prop} (ρ : Nat → Nat)
    (hc : FnOk Γ.P Γ.τ Γ.τok f args J kc Hc R) (hw : wantedSV ops L g = some true) (ha : opsL L xs = SV.renL ρ args) (hok : opsOk xs = true) (hlA : SV.lowL kc args = true) (hKH : KnowsH ρ H Hc) (hl : Hp.low kc Hc = true)
    (hd : distinct (Hc.map fun p => ρ p.1) = true) (hd' : distinct (Hc.map (·.1)) = true) (hJ : Nat.ble J kc = true) (hall : allIn J (Hc.map (·.1)) = true) (hdn : Nat.blt d Γ.n = true)
    (hRr : ∀ k2 r H2, R k2 r H2 → r.rowsGe J = true ∧ Hp.rowsGe J H2 = true)
    (hk : ∀ k2 r H2, R k2 r H2 → afterCall false Γ ops rest K k (k + k2) d (r.ren (sig ρ J k)) L ((H2.map fun p => (sig ρ J k p.1, p.2.ren (sig ρ J k))) ++ restOf H (Hc.map fun p => ρ p.1))) :
    DS false Γ ops (⟨some d, .call { callee := .value (.func f), args := xs.toArray, argTypes := ts }, ty, pos, af, g⟩ :: rest) K k L H :=
  ds_callO ρ hc hw ha hok hlA hKH hl hd hd' hJ hall hdn hRr fun k2 r H2 h => after_call (hk k2 r H2 h)

theorem ds_callVF {f : FuncId} {x : Operand} {caps : List SV} {xs : List Operand} {ts : Array TypeId} {ty : TypeId} {pos : String} {af : Array Edge} {g : Option (Nat × Bool)} {d : Nat} {args : List SV} {J kc : Nat} {Hc : Hp} {R : Nat → SV → Hp → Prop} (ρ : Nat → Nat)
    (hc : FnOk Γ.P Γ.τ Γ.τok f args J kc Hc R) (hx : opSV L x = .fn f caps) (hxo : opOkB x = true) (hw : wantedSV ops L g = some true) (ha : opsL L xs ++ caps = SV.renL ρ args) (hok : opsOk xs = true) (hlA : SV.lowL kc args = true) (hKH : KnowsH ρ H Hc) (hl : Hp.low kc Hc = true)
    (hd : distinct (Hc.map fun p => ρ p.1) = true) (hd' : distinct (Hc.map (·.1)) = true) (hJ : Nat.ble J kc = true) (hall : allIn J (Hc.map (·.1)) = true) (hdn : Nat.blt d Γ.n = true)
    (hRr : ∀ k2 r H2, R k2 r H2 → r.rowsGe J = true ∧ Hp.rowsGe J H2 = true)
    (hk : ∀ k2 r H2, R k2 r H2 → afterCall false Γ ops rest K k (k + k2) d (r.ren (sig ρ J k)) L ((H2.map fun p => (sig ρ J k p.1, p.2.ren (sig ρ J k))) ++ restOf H (Hc.map fun p => ρ p.1))) :
    DS false Γ ops (⟨some d, .call { callee := .value x, args := xs.toArray, argTypes := ts }, ty, pos, af, g⟩ :: rest) K k L H :=
  ds_callVO ρ hc hx hxo hw ha hok hlA hKH hl hd hd' hJ hall hdn hRr fun k2 r H2 h => after_call (hk k2 r H2 h)

/-- The state is told anew, in the midst of a region. -/
theorem ds_ent {k' : Nat} {L' : Sl} {H' : Hp} (he : Ent Γ k L H k' L' H') (h : DS false Γ ops rest K k' L' H') : DS false Γ ops rest K k L H := fun e a w m =>
  let ⟨e', m'⟩ := he e a w m
  h e' a w m'

/-- The rest of a region that draws its order. -/
def DT (Γ : Ctx) (ops : List Oper) (κ : Nat) (rest : List (Nat × Oper)) (lg : Log) (K : FS → Prop) (L : Sl) (H : Hp) : Prop := DR Γ ops κ rest lg K (ofL L H)

variable {rem : List (Nat × Oper)} {lg : Log} {Kf : FS → Prop}

/-- So many operations, counted on from a number. -/
def lenIs : List Oper → Nat → Nat → Prop
  | [], k, m => k = m
  | _ :: l, k, m => lenIs l (k + 1) m
theorem lenIs_spec : ∀ (l : List Oper) (k m : Nat), lenIs l k m → k + l.length = m
  | [], _, _, h => h
  | _ :: l, k, m, h => by have := lenIs_spec l (k + 1) m h; simp only [List.length_cons]; omega

theorem dw_any {id m : Nat} {l : List Oper} {Q : Post} (hm : Γ.P.follows .mixedOrders = true) (hB : regAnyB l = true) (hl : lenIs l k m) (h : DT Γ l k (enumO 0 l) [] (endK Γ m (Q .normal)) L H) : DW Γ (.region id l.toArray true) Q k L H :=
  dw_region_any hm hB (lenIs_spec l k m hl ▸ h)

theorem dt_nil {m : Nat} {Q : Next'} (hn : distinct (H.map (·.1)) = true) (h : Q m L H) : DT Γ ops κ [] lg (endK Γ m Q) L H := by
  refine .nil fun e a w hr => ?_
  obtain ⟨L2, H2, m2, hs⟩ := hr
  have h1 : ∀ t, Sl.get L2 t = Sl.get L t := fun t => congrFun (congrArg FS.ℓ hs) t
  have h2 : ∀ i, Hp.get H2 i = Hp.get H i := fun i => congrFun (congrArg FS.η hs) i
  exact ⟨m, L, H, e, m2.same h1 h2 (distinct_spec _ hn), h⟩

/-- .. with no new names. -/
theorem dt_nil0 {m : Nat} {Q : Next'} (hn : distinct (H.map (·.1)) = true) (hj : Nat.ble Γ.J κ = true) (hL : Sl.low κ L = true) (hH : Hp.low κ H = true) (h : Q κ L H) : DT Γ ops κ [] lg (endK Γ m Q) L H := by
  refine .nil fun e a w hr => ?_
  obtain ⟨L2, H2, m2, hs⟩ := hr
  have h1 : ∀ t, Sl.get L2 t = Sl.get L t := fun t => congrFun (congrArg FS.ℓ hs) t
  have h2 : ∀ i, Hp.get H2 i = Hp.get H i := fun i => congrFun (congrArg FS.η hs) i
  exact ⟨κ, L, H, _, (m2.same h1 h2 (distinct_spec _ hn)).lower κ hL hH hj, h⟩

theorem dt_skip {i : Nat} {op : Op} {ty : TypeId} {pos : String} {af : Array Edge} {g : Option (Nat × Bool)} {dst : Option Nat} (hw : wantedSV ops L g = some false) (hd : dstOk Γ dst = true) (hlog : okLog ops i [] [] lg = true)
    (hk : DT Γ ops κ rem ((i, [], []) :: lg) Kf (putL dst (.tup []) L) H) : DT Γ ops κ ((i, ⟨dst, op, ty, pos, af, g⟩) :: rem) lg Kf L H := by
  refine .cons false _ [] [] (.skip ((wantedF_eq ops L g).trans hw) hd) hlog ⟨_, _, rfl, rfl⟩ (fun v u hv => by rw [hv.2]; rfl) fun v u hv => ?_
  rw [hv.1, hv.2]
  have : (ofL L H).app (κ + i) dst (.tup []) .no = ofL (putL dst (.tup []) L) H := by rw [← ofL_put]; cases dst <;> rfl
  show DR Γ ops κ rem _ Kf ((ofL L H).app (κ + i) dst (.tup []) .no)
  rw [this]
  exact hk

theorem dt_step {i : Nat} {op : Op} {ty : TypeId} {pos : String} {af : Array Edge} {g : Option (Nat × Bool)} {dst : Option Nat} {p : Prop} {v v' : SV} {u : Up} (hw : wantedSV ops L g = some true)
    (hs : stepC Γ.τ (opSV L) (Hp.get H) (κ + i) dst op = some (p, v, u)) (hp : p) (hv : v = v') (hok : opsOkB op = true) (hd : dstOk Γ dst = true) (hn : distinct (H.map (·.1)) = true)
    (hlog : okLog ops i (rdsN (opSV L) op) (u.names (κ + i)) lg = true) (hk : DT Γ ops κ rem ((i, rdsN (opSV L) op, u.names (κ + i)) :: lg) Kf (putL dst v' L) (u.appL (κ + i) H)) :
    DT Γ ops κ ((i, ⟨dst, op, ty, pos, af, g⟩) :: rem) lg Kf L H := by
  subst hv
  have hs' : stepC Γ.τ (ofL L H).op (ofL L H).η (κ + i) dst op = some (p, v, u) := by rw [ofL_op]; exact hs
  have hr : rdsN (ofL L H).op op = rdsN (opSV L) op := by rw [ofL_op]
  refine .cons false _ _ _ (.step p v u ((wantedF_eq ops L g).trans hw) hs' hp hok hd) (by rw [hr]; exact hlog) ⟨v, u, rfl, rfl⟩ (fun v u hv => by rw [hv.2]) fun v' u' hv => ?_
  rw [hv.1, hv.2]
  show DR Γ ops κ rem ((i, rdsN (ofL L H).op op, u.names (κ + i)) :: lg) Kf ((ofL L H).app (κ + i) dst v u)
  rw [hr, ← appL_get (distinct_spec _ hn) hs]
  exact hk

theorem dt_skipD {i : Nat} {op : Op} {ty : TypeId} {pos : String} {af : Array Edge} {g : Option (Nat × Bool)} {d : Nat} (hw : wantedSV ops L g = some false) (hd : Nat.blt d Γ.n = true) (hlog : okLog ops i [] [] lg = true)
    (hk : DT Γ ops κ rem ((i, [], []) :: lg) Kf ((d, .tup []) :: L) H) : DT Γ ops κ ((i, ⟨some d, op, ty, pos, af, g⟩) :: rem) lg Kf L H := dt_skip (dst := some d) hw hd hlog hk
theorem dt_skip0 {i : Nat} {op : Op} {ty : TypeId} {pos : String} {af : Array Edge} {g : Option (Nat × Bool)} (hw : wantedSV ops L g = some false) (hlog : okLog ops i [] [] lg = true)
    (hk : DT Γ ops κ rem ((i, [], []) :: lg) Kf L H) : DT Γ ops κ ((i, ⟨none, op, ty, pos, af, g⟩) :: rem) lg Kf L H := dt_skip (dst := none) hw rfl hlog hk

/-- An operation that only reads. -/
theorem dt_ev {i : Nat} {op : Op} {ty : TypeId} {pos : String} {af : Array Edge} {g : Option (Nat × Bool)} {d : Nat} {p : Prop} {v v' : SV} (hw : wantedSV ops L g = some true)
    (hs : stepC Γ.τ (opSV L) (Hp.get H) (κ + i) (some d) op = some (p, v, .no)) (hp : p) (hv : v = v') (hok : opsOkB op = true) (hd : Nat.blt d Γ.n = true) (hn : distinct (H.map (·.1)) = true)
    (hlog : okLog ops i (rdsN (opSV L) op) [] lg = true) (hk : DT Γ ops κ rem ((i, rdsN (opSV L) op, []) :: lg) Kf ((d, v') :: L) H) :
    DT Γ ops κ ((i, ⟨some d, op, ty, pos, af, g⟩) :: rem) lg Kf L H := dt_step hw hs hp hv hok hd hn hlog hk
/-- One that makes a thing. -/
theorem dt_new {i z : Nat} {op : Op} {ty : TypeId} {pos : String} {af : Array Edge} {g : Option (Nat × Bool)} {d : Nat} {p : Prop} {v v' : SV} {b : HB} (hw : wantedSV ops L g = some true) (hz : κ + i = z)
    (hs : stepC Γ.τ (opSV L) (Hp.get H) z (some d) op = some (p, v, .new b)) (hp : p) (hv : v = v') (hok : opsOkB op = true) (hd : Nat.blt d Γ.n = true) (hn : distinct (H.map (·.1)) = true)
    (hlog : okLog ops i (rdsN (opSV L) op) [z] lg = true) (hk : DT Γ ops κ rem ((i, rdsN (opSV L) op, [z]) :: lg) Kf ((d, v') :: L) ((z, b) :: H)) :
    DT Γ ops κ ((i, ⟨some d, op, ty, pos, af, g⟩) :: rem) lg Kf L H := by subst hz; exact dt_step hw hs hp hv hok hd hn hlog hk
/-- One that writes. -/
theorem dt_set {i j : Nat} {op : Op} {ty : TypeId} {pos : String} {af : Array Edge} {g : Option (Nat × Bool)} {p : Prop} {v : SV} {b : HB} {H' : Hp} (hw : wantedSV ops L g = some true)
    (hs : stepC Γ.τ (opSV L) (Hp.get H) (κ + i) none op = some (p, v, .set j b)) (hp : p) (hok : opsOkB op = true) (hn : distinct (H.map (·.1)) = true) (hH : setF H j b some = some H')
    (hlog : okLog ops i (rdsN (opSV L) op) [j] lg = true) (hk : DT Γ ops κ rem ((i, rdsN (opSV L) op, [j]) :: lg) Kf L H') :
    DT Γ ops κ ((i, ⟨none, op, ty, pos, af, g⟩) :: rem) lg Kf L H := by rw [setF_eq] at hH; cases hH; exact dt_step (dst := none) (v' := v) hw hs hp rfl hok rfl hn hlog hk
/-- One that appends. -/
theorem dt_trade {i j z : Nat} {op : Op} {ty : TypeId} {pos : String} {af : Array Edge} {g : Option (Nat × Bool)} {d : Nat} {p : Prop} {v v' : SV} {b : HB} (hw : wantedSV ops L g = some true) (hz : κ + i = z)
    (hs : stepC Γ.τ (opSV L) (Hp.get H) z (some d) op = some (p, v, .trade j b)) (hp : p) (hv : v = v') (hok : opsOkB op = true) (hd : Nat.blt d Γ.n = true) (hn : distinct (H.map (·.1)) = true)
    (hlog : okLog ops i (rdsN (opSV L) op) [j, z] lg = true) {H' : Hp} (hH : delF H j some = some H') (hk : DT Γ ops κ rem ((i, rdsN (opSV L) op, [j, z]) :: lg) Kf ((d, v') :: L) ((z, b) :: H')) :
    DT Γ ops κ ((i, ⟨some d, op, ty, pos, af, g⟩) :: rem) lg Kf L H := by rw [delF_eq] at hH; cases hH; subst hz; exact dt_step hw hs hp hv hok hd hn hlog hk

theorem dt_call {i : Nat} {f : FuncId} {xs : List Operand} {ts : Array TypeId} {ty : TypeId} {pos : String} {af : Array Edge} {g : Option (Nat × Bool)} {d : Nat} {args : List SV} {R : SV → Prop} (hw : wantedSV ops L g = some true)
    (ha : opsL L xs = args) (hc : FnP Γ.P Γ.τ Γ.τok f args R) (hok : opsOk xs = true) (hlow : SV.lowL 0 args = true) (hd : Nat.blt d Γ.n = true) (hlog : okLog ops i [] [] lg = true) (hne : ∃ r, R r)
    (hk : ∀ r, R r → DT Γ ops κ rem ((i, [], []) :: lg) Kf ((d, r) :: L) H) :
    DT Γ ops κ ((i, ⟨some d, .call { callee := .value (.func f), args := xs.toArray, argTypes := ts }, ty, pos, af, g⟩) :: rem) lg Kf L H := by
  have e1 : xs.map (ofL L H).op ++ [] = args := by rw [ofL_op, List.append_nil, ← opsL_map, ha]
  have hok' : opsOkB (.call { callee := .value (.func f), args := xs.toArray, argTypes := ts }) = true := by
    unfold opsOkB
    simp only [Op.operands, Call.operands, Array.toList_append, List.all_append, Bool.and_eq_true]
    refine ⟨rfl, ?_⟩
    have : ∀ (xs : List Operand), opsOk xs = true → xs.all opOkB = true := by
      intro xs
      induction xs with
      | nil => intro _; rfl
      | cons x xs ih => intro h; simp only [opsOk, Bool.and_eq_true] at h; simp [h.1, ih h.2]
    exact this xs hok
  refine .cons true _ [] [] (.call d f (.func f) [] xs ts R ((wantedF_eq ops L g).trans hw) rfl rfl rfl (e1 ▸ hc) (e1 ▸ hlow) hok' hd) hlog (hne.imp fun r h => ⟨.no, h, rfl⟩) (fun v u hv => by rw [hv.2]; rfl) fun v u hv => ?_
  rw [hv.2]
  have : (ofL L H).app (κ + i) (some d) v .no = ofL ((d, v) :: L) H := (ofL_put L H (some d) v)
  show DR Γ ops κ rem _ Kf ((ofL L H).app (κ + i) (some d) v .no)
  rw [this]
  exact hk v hv.1

theorem dt_callV {i : Nat} {f : FuncId} {x : Operand} {caps : List SV} {xs : List Operand} {ts : Array TypeId} {ty : TypeId} {pos : String} {af : Array Edge} {g : Option (Nat × Bool)} {d : Nat} {args : List SV} {R : SV → Prop} (hx : opSV L x = .fn f caps) (hxo : opOkB x = true) (hw : wantedSV ops L g = some true)
    (ha : opsL L xs ++ caps = args) (hc : FnP Γ.P Γ.τ Γ.τok f args R) (hok : opsOk xs = true) (hlow : SV.lowL 0 args = true) (hd : Nat.blt d Γ.n = true) (hlog : okLog ops i [] [] lg = true) (hne : ∃ r, R r)
    (hk : ∀ r, R r → DT Γ ops κ rem ((i, [], []) :: lg) Kf ((d, r) :: L) H) :
    DT Γ ops κ ((i, ⟨some d, .call { callee := .value x, args := xs.toArray, argTypes := ts }, ty, pos, af, g⟩) :: rem) lg Kf L H := by
  have e1 : xs.map (ofL L H).op ++ caps = args := by rw [ofL_op, ← opsL_map, ha]
  have hok' : opsOkB (.call { callee := .value x, args := xs.toArray, argTypes := ts }) = true := by
    unfold opsOkB
    simp only [Op.operands, Call.operands, Array.toList_append, List.all_append, Bool.and_eq_true]
    refine ⟨by simp [hxo], ?_⟩
    have : ∀ (xs : List Operand), opsOk xs = true → xs.all opOkB = true := by
      intro xs
      induction xs with
      | nil => intro _; rfl
      | cons x xs ih => intro h; simp only [opsOk, Bool.and_eq_true] at h; simp [h.1, ih h.2]
    exact this xs hok
  refine .cons true _ [] [] (.call d f x caps xs ts R ((wantedF_eq ops L g).trans hw) rfl rfl (by rw [ofL_op]; exact hx) (e1 ▸ hc) (e1 ▸ hlow) hok' hd) hlog (hne.imp fun r h => ⟨.no, h, rfl⟩) (fun v u hv => by rw [hv.2]; rfl) fun v u hv => ?_
  rw [hv.2]
  have : (ofL L H).app (κ + i) (some d) v .no = ofL ((d, v) :: L) H := (ofL_put L H (some d) v)
  show DR Γ ops κ rem _ Kf ((ofL L H).app (κ + i) (some d) v .no)
  rw [this]
  exact hk v hv.1

theorem ofL_bool {t : Nat} {b : Bool} (hb : L.get t = .d (.bool b)) : ofL ((t, .d (.bool b)) :: L) H = ofL L H := by
  unfold ofL
  congr 1
  funext t'
  rw [Sl.get_cons]
  split
  · rename_i h; subst h; exact hb.symm
  · rfl

theorem dt_split {t : Nat} {b : Bool} (hb : L.get t = .d (.bool b)) (ht : b = true → DT Γ ops κ rem lg Kf ((t, .d (.bool true)) :: L) H) (hf : b = false → DT Γ ops κ rem lg Kf ((t, .d (.bool false)) :: L) H) : DT Γ ops κ rem lg Kf L H := by
  unfold DT at *
  cases b with
  | true => exact ofL_bool (H := H) hb ▸ ht rfl
  | false => exact ofL_bool (H := H) hb ▸ hf rfl

/-- Is an operation's guard known? (for the walks: they ask whether this fits) -/
theorem dt_known {i : Nat} {op : Op} {ty : TypeId} {pos : String} {af : Array Edge} {g : Option (Nat × Bool)} {dst : Option Nat} {b : Bool} (_ : wantedSV ops L g = some b) (h : DT Γ ops κ ((i, ⟨dst, op, ty, pos, af, g⟩) :: rem) lg Kf L H) :
    DT Γ ops κ ((i, ⟨dst, op, ty, pos, af, g⟩) :: rem) lg Kf L H := h
theorem ds_known {op : Op} {ty : TypeId} {pos : String} {af : Array Edge} {g : Option (Nat × Bool)} {dst : Option Nat} {b : Bool} (_ : wantedSV ops L g = some b) (h : DS q Γ ops (⟨dst, op, ty, pos, af, g⟩ :: rest) K k L H) :
    DS q Γ ops (⟨dst, op, ty, pos, af, g⟩ :: rest) K k L H := h

/-- An operation's guard is a Bool that is not known: both ways. -/
theorem dt_guard {i : Nat} {op : Op} {ty : TypeId} {pos : String} {af : Array Edge} {j : Nat} {want b : Bool} {dst : Option Nat} {oj : Oper} {t : Nat} (_ : nthOp ops j = some oj) (_ : oj.dst = some t) (hb : L.get t = .d (.bool b))
    (ht : b = true → DT Γ ops κ ((i, ⟨dst, op, ty, pos, af, some (j, want)⟩) :: rem) lg Kf ((t, .d (.bool true)) :: L) H) (hf : b = false → DT Γ ops κ ((i, ⟨dst, op, ty, pos, af, some (j, want)⟩) :: rem) lg Kf ((t, .d (.bool false)) :: L) H) :
    DT Γ ops κ ((i, ⟨dst, op, ty, pos, af, some (j, want)⟩) :: rem) lg Kf L H := dt_split hb ht hf
theorem dt_guardP {i : Nat} {op : Op} {ty : TypeId} {pos : String} {af : Array Edge} {j : Nat} {want : Bool} {p : Prop} {_ : Decidable p} {dst : Option Nat} {oj : Oper} {t : Nat} (_ : nthOp ops j = some oj) (_ : oj.dst = some t) (hb : L.get t = .d (.bool (decide p)))
    (ht : p → DT Γ ops κ ((i, ⟨dst, op, ty, pos, af, some (j, want)⟩) :: rem) lg Kf ((t, .d (.bool true)) :: L) H) (hf : ¬ p → DT Γ ops κ ((i, ⟨dst, op, ty, pos, af, some (j, want)⟩) :: rem) lg Kf ((t, .d (.bool false)) :: L) H) :
    DT Γ ops κ ((i, ⟨dst, op, ty, pos, af, some (j, want)⟩) :: rem) lg Kf L H := dt_split hb (fun h => ht (of_decide_eq_true h)) (fun h => hf (of_decide_eq_false h))
/-- .. in the text's order, too. -/
theorem ds_guardB {op : Op} {ty : TypeId} {pos : String} {af : Array Edge} {j : Nat} {want b : Bool} {dst : Option Nat} {oj : Oper} {t : Nat} (_ : nthOp ops j = some oj) (_ : oj.dst = some t) (hb : L.get t = .d (.bool b))
    (ht : b = true → DS q Γ ops (⟨dst, op, ty, pos, af, some (j, want)⟩ :: rest) K k ((t, .d (.bool true)) :: L) H) (hf : b = false → DS q Γ ops (⟨dst, op, ty, pos, af, some (j, want)⟩ :: rest) K k ((t, .d (.bool false)) :: L) H) :
    DS q Γ ops (⟨dst, op, ty, pos, af, some (j, want)⟩ :: rest) K k L H := ds_split hb ht hf
theorem ds_guardP {op : Op} {ty : TypeId} {pos : String} {af : Array Edge} {j : Nat} {want : Bool} {p : Prop} {_ : Decidable p} {dst : Option Nat} {oj : Oper} {t : Nat} (_ : nthOp ops j = some oj) (_ : oj.dst = some t) (hb : L.get t = .d (.bool (decide p)))
    (ht : p → DS q Γ ops (⟨dst, op, ty, pos, af, some (j, want)⟩ :: rest) K k ((t, .d (.bool true)) :: L) H) (hf : ¬ p → DS q Γ ops (⟨dst, op, ty, pos, af, some (j, want)⟩ :: rest) K k ((t, .d (.bool false)) :: L) H) :
    DS q Γ ops (⟨dst, op, ty, pos, af, some (j, want)⟩ :: rest) K k L H := ds_split hb (fun h => ht (of_decide_eq_true h)) (fun h => hf (of_decide_eq_false h))
end
end Go.Proofs.Ytapciiffpnociaa
