/- A plain logic over the walk: what single operations do. No program is named here. Condition: none. -/
import Derived.Test.YtapciiffpnociaaGx
import Derived.WalkSpells
import Derived.Orders
namespace Go.Proofs.Ytapciiffpnociaa
open Go Go.RowKit

theorem str_beq (s u : ByteArray) : (s.toList == u.toList) = decide (s = u) := by
  rw [ByteArray.toList_eq, ByteArray.toList_eq, Bool.eq_iff_iff]
  simp only [beq_iff_eq, decide_eq_true_eq]
  exact ⟨fun h => by cases s; cases u; congr 1; exact Array.toList_inj.1 h, fun h => by rw [h]⟩

def Ctx.sh (Γ : Ctx) (t : TypeId) : Sh := (tiGet Γ.τ t).sh
def Ctx.cells (Γ : Ctx) (t : TypeId) : Nat := (tiGet Γ.τ t).cells

theorem Ctx.ti {Γ : Ctx} {t : TypeId} (h : Γ.sh t ≠ .other) : tiOf Γ.P t = some (tiGet Γ.τ t) := tiGet_ok Γ.τok t h
theorem ti_parts {P : Program} {t : TypeId} {i : TI} (h : tiOf P t = some i) : ∃ u inf z, P.underlying t = some u ∧ P.info? t = some inf ∧ inf.zero = some z ∧ i.sh = shOf P u ∧ inf.size = i.cells ∧ inf.bytes = i.bytes ∧ z.cells.toList = i.zero ∧ i.eqs = flatEqB P t := by
  unfold tiOf at h
  split at h
  · rename_i u inf h1 h2
    split at h
    · rename_i z hz
      cases h
      exact ⟨u, inf, z, h1, h2, hz, rfl, rfl, rfl, rfl, rfl⟩
    · cases h
  · cases h
theorem Ctx.str {Γ : Ctx} {t : TypeId} (h : Γ.sh t = .str) : Γ.P.underlying t = some .string := by
  obtain ⟨u, inf, z, h1, _, _, h4, _⟩ := ti_parts (Γ.ti (by rw [h]; intro h; cases h))
  rw [h1]
  have : shOf Γ.P u = .str := h4 ▸ h
  cases u <;> simp [shOf] at this ⊢
theorem Ctx.slice {Γ : Ctx} {t e : TypeId} (h : Γ.sh t = .slice e) : Γ.P.underlying t = some (.slice e) := by
  obtain ⟨u, inf, z, h1, _, _, h4, _⟩ := ti_parts (Γ.ti (by rw [h]; intro h; cases h))
  rw [h1]
  have : shOf Γ.P u = .slice e := h4 ▸ h
  cases u <;> simp [shOf] at this ⊢
  exact this
theorem Ctx.info {Γ : Ctx} {t : TypeId} (h : Γ.sh t ≠ .other) : ∃ inf z, Γ.P.info? t = some inf ∧ inf.zero = some z ∧ inf.size = Γ.cells t ∧ inf.bytes = (tiGet Γ.τ t).bytes ∧ z.cells.toList = (tiGet Γ.τ t).zero := by
  obtain ⟨u, inf, z, h1, h2, h3, h4, h5, h6, h7, _⟩ := ti_parts (Γ.ti h)
  exact ⟨inf, z, h2, h3, h5, h6, h7⟩
theorem Ctx.struct {Γ : Ctx} {t : TypeId} {l} (h : Γ.sh t = .struct l) : ∃ fs, Γ.P.underlying t = some (.struct fs) ∧ l = fs.toList.map fun f => (f.offset, f.type, ((Γ.P.info? f.type).map (·.size)).getD 0) := by
  obtain ⟨u, inf, z, h1, _, _, h4, _⟩ := ti_parts (Γ.ti (by rw [h]; intro h; cases h))
  have : shOf Γ.P u = .struct l := h4 ▸ h
  cases u <;> simp [shOf] at this
  rename_i fs
  exact ⟨fs, h1, this.symm⟩
def Sh.known : Sh → Bool | .other => false | _ => true
theorem Sh.known_ne {s : Sh} (h : s.known = true) : s ≠ .other := by intro e; subst e; cases h
/-- Is it a struct? -/
def Sh.isAgg : Sh → Bool | .struct _ => true | _ => false
theorem Ctx.agg {Γ : Ctx} {t : TypeId} (h : Γ.sh t ≠ .other) : ∀ w, (Go.isAgg t).run Γ.P w = .ok (Γ.sh t).isAgg w := by
  intro w
  obtain ⟨u, inf, z, h1, _, _, h4, _⟩ := ti_parts (Γ.ti h)
  have h5 : shOf Γ.P u = Γ.sh t := h4.symm
  rw [← h5] at h ⊢
  cases u <;> simp [Go.isAgg, run_underlying h1, shOf, Sh.isAgg] at h ⊢

def cOkB : Value → Bool
  | .int k n => (Lit.int k n).wf
  | .string s => Nat.ble s.size maxLen
  | _ => true
def opOkB : Operand → Bool
  | .const v => cOkB v
  | _ => true
theorem opOkB_spec {x : Operand} (h : opOkB x = true) : opOk x := by
  cases x with
  | const v =>
    cases v with
    | int k n => exact h
    | string s => exact Nat.le_of_ble_eq_true h
    | _ => trivial
  | _ => trivial

section
variable {Γ : Ctx} {k : Nat → Prop} {L : Sl} {H : Hp} {K : Next'} {ops : List Oper} {rest : List Oper} {a : Act} {w : World} {e : Env}

theorem evI (m : Models Γ k L H e a w) {x : Operand} {i : IntKind} {n : Int} (h : opSV L x = .d (.int i n)) : a.eval x = .int i n := by
  cases x with
  | tmp t =>
    have hr := m.slot t
    simp only [opSV] at h
    rw [h] at hr
    show a.tmps.getD t undef = _
    generalize a.tmps.getD t undef = v at hr
    cases hr; rfl
  | const v =>
    simp only [opSV] at h
    unfold cSV at h
    split at h <;> cases h
    rfl
  | global g => cases h
  | func f => cases h

theorem evIw (m : Models Γ k L H e a w) {x : Operand} {i : IntKind} {n : Int} (hx : opOkB x = true) (h : opSV L x = .d (.int i n)) : (Lit.int i n).wf = true := by
  have hr := m.op x (opOkB_spec hx)
  rw [h] at hr
  generalize a.eval x = v at hr
  cases hr; assumption

theorem evB (m : Models Γ k L H e a w) {x : Operand} {b : Bool} (h : opSV L x = .d (.bool b)) : a.eval x = .bool b := by
  cases x with
  | tmp t =>
    have hr := m.slot t
    simp only [opSV] at h
    rw [h] at hr
    show a.tmps.getD t undef = _
    generalize a.tmps.getD t undef = v at hr
    cases hr; rfl
  | const v =>
    simp only [opSV] at h
    unfold cSV at h
    split at h <;> cases h
    rfl
  | global g => cases h
  | func f => cases h

theorem evS (m : Models Γ k L H e a w) {x : Operand} {s : ByteArray} (h : opSV L x = .d (.str s)) : a.eval x = .string s := by
  cases x with
  | tmp t =>
    have hr := m.slot t
    simp only [opSV] at h
    rw [h] at hr
    show a.tmps.getD t undef = _
    generalize a.tmps.getD t undef = v at hr
    cases hr; rfl
  | const v =>
    simp only [opSV] at h
    unfold cSV at h
    split at h <;> cases h
    rfl
  | global g => cases h
  | func f => cases h

/-- An operation that only reads: its value, in whatever world has grown out of this one. -/
def Ev (Γ : Ctx) (k : Nat → Prop) (L : Sl) (H : Hp) (op : Op) (ty : TypeId) (s : SV) : Prop :=
  ∀ e a w, Models Γ k L H e a w → ∃ v, (∀ (dst : Option Tmp) pos after guard w', Below w.heap.size w w' → (execOp a.eval ⟨dst, op, ty, pos, after, guard⟩).run Γ.P w' = .ok (.value v) w') ∧ Rel (Γ.X e H) e w s v

/-- What an operation does to a state. -/
def OpOk (Γ : Ctx) (o : Oper) (k : Nat → Prop) (L : Sl) (H : Hp) (k' : Nat → Prop) (L' : Sl) (H' : Hp) : Prop :=
  ∀ e a w Q, Models Γ k L H e a w → o.wp Γ.P a w (fun a' w' => ∃ e', Models Γ k' L' H' e' a' w') Q

theorem op_ev {d : Nat} {op : Op} {ty : TypeId} {pos : String} {af : Array Edge} {g : Option (Nat × Bool)} {s : SV} (h : Ev Γ k L H op ty s) (hd : Nat.blt d Γ.n = true) :
    OpOk Γ ⟨some d, op, ty, pos, af, g⟩ k L H k ((d, s) :: L) H := by
  intro e a w Q m
  obtain ⟨v, h1, h2⟩ := h e a w m
  unfold Oper.wp
  rw [h1 (some d) pos af g w (Below.refl _ _)]
  exact ⟨e, m.put (Nat.le_of_ble_eq_true hd) h2⟩

def nthOp : List Oper → Nat → Option Oper
  | [], _ => none
  | o :: _, 0 => some o
  | _ :: l, n + 1 => nthOp l n
theorem nthOp_eq : ∀ (l : List Oper) (n : Nat), nthOp l n = l[n]?
  | [], _ => by simp [nthOp]
  | o :: _, 0 => by simp [nthOp]
  | _ :: l, n + 1 => by simp [nthOp, nthOp_eq l n]

/-- Is an operation wanted, by what is known? -/
def wantedSV (ops : List Oper) (L : Sl) : Option (Nat × Bool) → Option Bool
  | none => some true
  | some (j, want) => match nthOp ops j with
    | some o => match o.dst with
      | some t => match L.get t with
        | .d (.bool true) => some want
        | .d (.bool false) => some (!want)
        | .tup [] => some false
        | _ => none
      | none => none
    | none => none

theorem wantedSV_spec {o : Oper} {b : Bool} (m : Models Γ k L H e a w) (h : wantedSV ops L o.guard = some b) : Region.wanted o (yielded ops.toArray a.tmps) = b := by
  unfold Region.wanted
  cases hg : o.guard with
  | none => rw [hg] at h; simpa [wantedSV] using h
  | some q =>
    obtain ⟨j, want⟩ := q
    rw [hg] at h
    simp only [wantedSV, nthOp_eq] at h
    cases ho : ops[j]? with
    | none => simp [ho] at h
    | some oj =>
      simp only [ho] at h
      cases hd : oj.dst with
      | none => simp [hd] at h
      | some t =>
        simp only [hd] at h
        have hr := m.slot t
        have hy : ∀ b', L.get t = .d (.bool b') → yielded ops.toArray a.tmps j = some b' := by
          intro b' hb'
          rw [hb'] at hr
          generalize hv : a.tmps.getD t undef = v at hr
          cases hr
          have hv' : a.tmps[t]?.getD undef = Value.bool b' := by rw [← Array.getD_eq_getD_getElem?]; exact hv
          cases ht : a.tmps[t]? with
          | none => rw [ht] at hv'; cases hv'
          | some u => rw [ht] at hv'; simp only [Option.getD_some] at hv'; subst hv'; simp [yielded, ho, hd, ht]
        cases hs : L.get t with
        | tup ss =>
          cases ss with
          | cons _ _ => simp [hs] at h
          | nil =>
            simp only [hs, Option.some.injEq] at h
            subst h
            rw [hs] at hr
            obtain ⟨vs, hv, hl⟩ := hr
            cases vs with
            | cons _ _ => exact hl.elim
            | nil =>
              have hn : yielded ops.toArray a.tmps j = none := by
                have hv' : a.tmps[t]?.getD undef = Value.tuple #[] := by rw [← Array.getD_eq_getD_getElem?]; exact hv
                cases ht : a.tmps[t]? with
                | none => simp [yielded, ho, hd, ht]
                | some u => rw [ht] at hv'; simp only [Option.getD_some] at hv'; subst hv'; simp [yielded, ho, hd, ht]
              show (yielded ops.toArray a.tmps j == some want) = false
              rw [hn]; rfl
        | d x =>
          cases x with
          | bool b' =>
            simp only [hs] at h
            simp only [hy b' hs]
            cases b' <;> cases want <;> simp_all
          | _ => simp [hs] at h
        | _ => simp [hs] at h

end
section
variable {Γ : Ctx} {k : Nat} {L : Sl} {H : Hp} {K : Next'} {ops : List Oper} {rest : List Oper} {a : Act} {w : World} {e : Env}
theorem dl_run {op : Op} {ty : TypeId} {pos : String} {af : Array Edge} {g : Option (Nat × Bool)} {d : Option Nat} (hw : wantedSV ops L g = some true)
    (h : ∀ e a w, Models Γ k L H e a w → (Oper.mk d op ty pos af g).wp Γ.P a w (fun a' w' => ∃ (k' : Nat) (L' : Sl) (H' : Hp) (e' : Env), Models Γ k' L' H' e' a' w' ∧ DL Γ ops rest K k' L' H') (lift Γ (onNormal K))) :
    DL Γ ops (⟨d, op, ty, pos, af, g⟩ :: rest) K k L H := by
  intro e a w m
  refine wpList_step fun K' hK' => ?_
  rw [if_pos (wantedSV_spec m hw)]
  refine Oper.wp_mono ?_ (h e a w m)
  rintro a' w' ⟨k', L', H', e', m', hd⟩
  exact hK' _ _ (hd e' a' w' m')

theorem dl_skip {op : Op} {ty : TypeId} {pos : String} {af : Array Edge} {g : Option (Nat × Bool)} {d : Nat} (hw : wantedSV ops L g = some false) (hd : Nat.blt d Γ.n = true)
    (h : DL Γ ops rest K k ((d, .tup []) :: L) H) : DL Γ ops (⟨some d, op, ty, pos, af, g⟩ :: rest) K k L H := by
  intro e a w m
  refine wpList_step fun K' hK' => ?_
  rw [if_neg (by rw [wantedSV_spec m hw]; exact Bool.false_ne_true)]
  exact hK' _ _ (h e _ w (m.put (s := .tup []) (Nat.le_of_ble_eq_true hd) ⟨[], rfl, trivial⟩))

theorem dl_skip0 {op : Op} {ty : TypeId} {pos : String} {af : Array Edge} {g : Option (Nat × Bool)} (hw : wantedSV ops L g = some false)
    (h : DL Γ ops rest K k L H) : DL Γ ops (⟨none, op, ty, pos, af, g⟩ :: rest) K k L H := by
  intro e a w m
  refine wpList_step fun K' hK' => ?_
  rw [if_neg (by rw [wantedSV_spec m hw]; exact Bool.false_ne_true)]
  exact hK' _ _ (h e _ w m)

theorem dl_op {op : Op} {ty : TypeId} {pos : String} {af : Array Edge} {g : Option (Nat × Bool)} {d : Option Nat} {k' : Nat} {L' : Sl} {H' : Hp} (hw : wantedSV ops L g = some true)
    (h : OpOk Γ ⟨d, op, ty, pos, af, g⟩ k L H k' L' H') (hk : DL Γ ops rest K k' L' H') : DL Γ ops (⟨d, op, ty, pos, af, g⟩ :: rest) K k L H := by
  refine dl_run hw fun e a w m => Oper.wp_mono ?_ (h e a w _ m)
  rintro a' w' ⟨e', m'⟩
  exact ⟨k', L', H', e', m', hk⟩

theorem dl_ev {d : Nat} {op : Op} {ty : TypeId} {pos : String} {af : Array Edge} {g : Option (Nat × Bool)} {s : SV} (hw : wantedSV ops L g = some true) (h : Ev Γ k L H op ty s) (hd : Nat.blt d Γ.n = true)
    (hk : DL Γ ops rest K k ((d, s) :: L) H) : DL Γ ops (⟨some d, op, ty, pos, af, g⟩ :: rest) K k L H := by
  refine dl_run hw fun e a w m => ?_
  obtain ⟨v, h1, h2⟩ := h e a w m
  unfold Oper.wp
  rw [h1 (some d) pos af g w (Below.refl _ _)]
  exact ⟨k, _, H, e, m.put (Nat.le_of_ble_eq_true hd) h2, hk⟩

/-- A Bool that is not known: both ways. -/
theorem dl_split {t : Nat} {b : Bool} (hb : L.get t = .d (.bool b)) (ht : b = true → DL Γ ops rest K k ((t, .d (.bool true)) :: L) H) (hf : b = false → DL Γ ops rest K k ((t, .d (.bool false)) :: L) H) :
    DL Γ ops rest K k L H := by
  intro e a w m
  have key : ∀ b', b = b' → Models Γ k ((t, .d (.bool b')) :: L) H e a w := fun b' hb' =>
    ⟨m.toHeap, m.defers, m.len, fun t' => by
        rw [Sl.get_cons]
        split
        · rename_i h; subst h; rw [← hb', ← hb]; exact m.slot t
        · exact m.slot t'⟩
  cases b with
  | true => exact ht rfl e a w (key true rfl)
  | false => exact hf rfl e a w (key false rfl)

end
section
variable {Γ : Ctx} {k : Nat → Prop} {L : Sl} {H : Hp} {K : Next'} {ops : List Oper} {rest : List Oper} {a : Act} {w : World} {e : Env}
theorem ev_move {x : Operand} {ty : TypeId} (hx : opOkB x = true) : Ev Γ k L H (.move x) ty (opSV L x) := by
  intro e a w m
  exact ⟨a.eval x, fun _ _ _ _ w' _ => by simp [execOp], m.op x (opOkB_spec hx)⟩
theorem ev_assign {x : Operand} {ty : TypeId} (hx : opOkB x = true) : Ev Γ k L H (.assign x) ty (opSV L x) := by
  intro e a w m
  exact ⟨a.eval x, fun _ _ _ _ w' _ => by simp [execOp], m.op x (opOkB_spec hx)⟩

theorem ev_mv_d {x : Operand} {ty : TypeId} {y : D} (hx : opOkB x = true) (h : opSV L x = .d y) : Ev Γ k L H (.move x) ty (.d y) := h ▸ ev_move hx
theorem ev_mv_loc {x : Operand} {ty : TypeId} {i o : Nat} (hx : opOkB x = true) (h : opSV L x = .loc i o) : Ev Γ k L H (.move x) ty (.loc i o) := h ▸ ev_move hx
theorem ev_mv_row {x : Operand} {ty : TypeId} {i : Nat} (hx : opOkB x = true) (h : opSV L x = .row i) : Ev Γ k L H (.move x) ty (.row i) := h ▸ ev_move hx
theorem ev_as_d {x : Operand} {ty : TypeId} {y : D} (hx : opOkB x = true) (h : opSV L x = .d y) : Ev Γ k L H (.assign x) ty (.d y) := h ▸ ev_assign hx
theorem ev_as_loc {x : Operand} {ty : TypeId} {i o : Nat} (hx : opOkB x = true) (h : opSV L x = .loc i o) : Ev Γ k L H (.assign x) ty (.loc i o) := h ▸ ev_assign hx
theorem ev_as_row {x : Operand} {ty : TypeId} {i : Nat} (hx : opOkB x = true) (h : opSV L x = .row i) : Ev Γ k L H (.assign x) ty (.row i) := h ▸ ev_assign hx

/-- A pair of ints compared. -/
theorem ev_bin_int {op : BinOp} {t t' ty : TypeId} {x y : Operand} {i : IntKind} {n m' : Int} {s : SV} {v : Value} (hx : opSV L x = .d (.int i n)) (hy : opSV L y = .d (.int i m'))
    (hr : ∀ P w, (binOp op t (.int i n) (.int i m')).run P w = .ok v w) (hv : ∀ X e w, Rel X e w s v) : Ev Γ k L H (.binOp op t x y t') ty s := by
  intro e a w m
  refine ⟨v, fun _ _ _ _ w' _ => ?_, hv _ _ _⟩
  simp only [execOp, evI m hx, evI m hy]
  have he : eqGuard op t x y (Value.int i n) (Value.int i m') = pure () := by unfold eqGuard; split <;> rfl
  simp [he, hr]

section
variable {t t' ty : TypeId} {x y : Operand} {i : IntKind} {n m' : Int}
theorem ev_lss (hx : opSV L x = .d (.int i n)) (hy : opSV L y = .d (.int i m')) : Ev Γ k L H (.binOp .lss t x y t') ty (.d (.bool (decide (n < m')))) :=
  ev_bin_int hx hy (fun P w => by simp [binOp, Op.intCmp]) fun _ _ _ => .bool
theorem ev_leq (hx : opSV L x = .d (.int i n)) (hy : opSV L y = .d (.int i m')) : Ev Γ k L H (.binOp .leq t x y t') ty (.d (.bool (decide (n ≤ m')))) :=
  ev_bin_int hx hy (fun P w => by simp [binOp, Op.intCmp]) fun _ _ _ => .bool
theorem ev_gtr (hx : opSV L x = .d (.int i n)) (hy : opSV L y = .d (.int i m')) : Ev Γ k L H (.binOp .gtr t x y t') ty (.d (.bool (decide (m' < n)))) :=
  ev_bin_int hx hy (fun P w => by simp [binOp, Op.intCmp]) fun _ _ _ => .bool
theorem ev_geq (hx : opSV L x = .d (.int i n)) (hy : opSV L y = .d (.int i m')) : Ev Γ k L H (.binOp .geq t x y t') ty (.d (.bool (decide (m' ≤ n)))) :=
  ev_bin_int hx hy (fun P w => by simp [binOp, Op.intCmp]) fun _ _ _ => .bool
theorem ev_eql (hx : opSV L x = .d (.int i n)) (hy : opSV L y = .d (.int i m')) : Ev Γ k L H (.binOp .eql t x y t') ty (.d (.bool (decide (n = m')))) :=
  ev_bin_int hx hy (fun P w => by simp [binOp, Op.intCmp]; rfl) fun _ _ _ => .bool
theorem ev_neq (hx : opSV L x = .d (.int i n)) (hy : opSV L y = .d (.int i m')) : Ev Γ k L H (.binOp .neq t x y t') ty (.d (.bool (decide (n ≠ m')))) :=
  ev_bin_int hx hy (fun P w => by simp [binOp, Op.intCmp]; rfl) fun _ _ _ => .bool
theorem ev_add (hx : opSV L x = .d (.int .i64 n)) (hy : opSV L y = .d (.int .i64 m')) (hw : -9223372036854775808 ≤ n + m' ∧ n + m' ≤ 9223372036854775807) : Ev Γ k L H (.binOp .add t x y t') ty (.d (.int .i64 (n + m'))) :=
  ev_bin_int hx hy (fun P w => by simp [binOp, Op.intArith]; rfl) fun _ _ _ => by rw [IntWalk.i64_in _ hw]; exact .int (WalkArith.wf_i64 hw)
end

section
variable {t t' ty : TypeId} {x y : Operand} {i : IntKind} {n m' : Int}
theorem ev_sub (hx : opSV L x = .d (.int .i64 n)) (hy : opSV L y = .d (.int .i64 m')) (hw : -9223372036854775808 ≤ n - m' ∧ n - m' ≤ 9223372036854775807) : Ev Γ k L H (.binOp .sub t x y t') ty (.d (.int .i64 (n - m'))) :=
  ev_bin_int hx hy (fun P w => by simp [binOp, Op.intArith]; rfl) fun _ _ _ => by rw [IntWalk.i64_in _ hw]; exact .int (WalkArith.wf_i64 hw)
theorem ev_mul (hx : opSV L x = .d (.int .i64 n)) (hy : opSV L y = .d (.int .i64 m')) (hw : -9223372036854775808 ≤ n * m' ∧ n * m' ≤ 9223372036854775807) : Ev Γ k L H (.binOp .mul t x y t') ty (.d (.int .i64 (n * m'))) :=
  ev_bin_int hx hy (fun P w => by simp [binOp, Op.intArith]; rfl) fun _ _ _ => by rw [IntWalk.i64_in _ hw]; exact .int (WalkArith.wf_i64 hw)
theorem ev_not {b : Bool} (hx : opSV L x = .d (.bool b)) : Ev Γ k L H (.unOp .not t x) ty (.d (.bool (!b))) := by
  intro e a w m
  exact ⟨.bool (!b), fun _ _ _ _ w' _ => by simp [execOp, evB m hx, Op.unary], .bool⟩
theorem ev_pick {c : Operand} {b : Bool} (hc : opSV L c = .d (.bool b)) (hx : b = true → opOkB x = true) (hy : b = false → opOkB y = true) :
    Ev Γ k L H (.pick c x y) ty (match b with | true => opSV L x | false => opSV L y) := by
  intro e a w m
  cases b with
  | true => exact ⟨a.eval x, fun _ _ _ _ w' _ => by simp [execOp, evB m hc, asBool], m.op x (opOkB_spec (hx rfl))⟩
  | false => exact ⟨a.eval y, fun _ _ _ _ w' _ => by simp [execOp, evB m hc, asBool], m.op y (opOkB_spec (hy rfl))⟩

theorem ev_pickT {c : Operand} {y' : D} (hc : opSV L c = .d (.bool true)) (hxo : opOkB x = true) (hx : opSV L x = .d y') : Ev Γ k L H (.pick c x y) ty (.d y') := by
  have := ev_pick (Γ := Γ) (H := H) (k := k) (ty := ty) (y := y) hc (fun _ => hxo) (fun h => by cases h)
  simpa [hx] using this
theorem ev_pickF {c : Operand} {y' : D} (hc : opSV L c = .d (.bool false)) (hyo : opOkB y = true) (hy : opSV L y = .d y') : Ev Γ k L H (.pick c x y) ty (.d y') := by
  have := ev_pick (Γ := Γ) (H := H) (k := k) (ty := ty) (x := x) hc (fun h => by cases h) (fun _ => hyo)
  simpa [hy] using this

/-- Strings. -/
theorem ev_eqs {s u : ByteArray} (hx : opSV L x = .d (.str s)) (hy : opSV L y = .d (.str u)) : Ev Γ k L H (.binOp .eql t x y t') ty (.d (.bool (decide (s = u)))) := by
  intro e a w m
  refine ⟨_, fun _ _ _ _ w' _ => ?_, .bool⟩
  simp only [execOp, evS m hx, evS m hy]
  simp [eqGuard, binOp, Op.stringOp, str_beq]
theorem ev_nes {s u : ByteArray} (hx : opSV L x = .d (.str s)) (hy : opSV L y = .d (.str u)) : Ev Γ k L H (.binOp .neq t x y t') ty (.d (.bool (decide (s ≠ u)))) := by
  intro e a w m
  refine ⟨_, fun _ _ _ _ w' _ => ?_, .bool⟩
  simp only [execOp, evS m hx, evS m hy]
  simp [eqGuard, binOp, Op.stringOp, str_beq]
theorem ev_len_str {s : ByteArray} (ht : Γ.sh t = .str) (hx : opSV L x = .d (.str s)) (hxo : opOkB x = true) : Ev Γ k L H (.call { callee := .builtin .len, args := #[x], argTypes := #[t] }) ty (.d (.int .i64 s.size)) := by
  intro e a w m
  have hs : s.size ≤ maxLen := by
    have hr := m.op x (opOkB_spec hxo)
    rw [hx] at hr
    generalize a.eval x = v at hr
    cases hr; assumption
  refine ⟨.int .i64 s.size, fun _ _ _ _ w' _ => ?_, .int (WalkArith.wf_i64 (by unfold maxLen at hs; omega))⟩
  simp [execOp, resolve, invoke, builtin, evS m hx, Builtin.len_, goInt, run_underlying (Ctx.str ht)]
theorem ev_index_str {s : ByteArray} {n : Int} (ht : Γ.sh t = .str) (hx : opSV L x = .d (.str s)) (hy : opSV L y = .d (.int .i64 n)) (h0 : 0 ≤ n) (h1 : n.toNat < s.size) :
    Ev Γ k L H (.index t x y) ty (.d (.int .u8 (s[n.toNat]'h1).toNat)) := by
  intro e a w m
  refine ⟨.int .u8 (s[n.toNat]'h1).toNat, fun _ _ _ _ w' _ => ?_, .int (WalkArith.wf_u8 (by have := (s[n.toNat]'h1).toNat_lt; omega))⟩
  simp [execOp, Instr.index, evS m hx, evI m hy, asIntOf, run_underlying (Ctx.str ht), h0, h1]
end
end
end Go.Proofs.Ytapciiffpnociaa
