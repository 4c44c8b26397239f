/- A plain logic over the walk: calls, of names and of function values. No program is named here. Condition: none. -/
import Derived.Test.YtapciiffpnociaaGxOwn
namespace Go.Proofs.Ytapciiffpnociaa
open Go Go.RowKit

/-- A value that is told by its datum alone. -/
def SV.sure : SV → Option Value
  | .d (.int k n) => some (.int k n)
  | .d (.bool b) => some (.bool b)
  | .d (.str s) => some (.string s)
  | _ => none
theorem SV.sure_spec {X e w} {s : SV} {v u : Value} (h : s.sure = some u) (hr : Rel X e w s v) : v = u := by
  cases s with
  | d x => cases x <;> simp [SV.sure] at h <;> subst h <;> cases hr <;> rfl
  | _ => simp [SV.sure] at h

section
variable {Γ : Ctx} {k : Nat} {L : Sl} {H : Hp} {K : Next'} {ops : List Oper} {rest : List Oper} {a : Act} {w : World} {e : Env}

theorem ds_callO {f : FuncId} {xs : List Operand} {ts : Array TypeId} {ty : TypeId} {pos : String} {af : Array Edge} {g : Option (Nat × Bool)} {d : Nat} {args : List SV} {J kc : Nat} {Hc : Hp} {R : Nat → SV → Hp → Prop} (ρ : Nat → Nat)
    (hc : FnOk Γ.P Γ.τ Γ.τok f args J kc Hc R) (hw : wantedSV ops L g = some true) (ha : opsL L xs = SV.renL ρ args) (hok : opsOk xs = true) (hlA : SV.lowL kc args = true) (hKH : KnowsH ρ H Hc) (hl : Hp.low kc Hc = true)
    (hd : distinct (Hc.map fun p => ρ p.1) = true) (hd' : distinct (Hc.map (·.1)) = true) (hJ : Nat.ble J kc = true) (hall : allIn J (Hc.map (·.1)) = true) (hdn : Nat.blt d Γ.n = true)
    (hRr : ∀ k2 r H2, R k2 r H2 → r.rowsGe J = true ∧ Hp.rowsGe J H2 = true)
    (hk : ∀ k2 r H2, R k2 r H2 → DS false Γ ops rest K (k + k2) ((d, r.ren (sig ρ J k)) :: L) ((H2.map fun p => (sig ρ J k p.1, p.2.ren (sig ρ J k))) ++ restOf H (Hc.map fun p => ρ p.1))) :
    DS false Γ ops (⟨some d, .call { callee := .value (.func f), args := xs.toArray, argTypes := ts }, ty, pos, af, g⟩ :: rest) K k L H := by
  refine dl_run hw fun e a w m => ?_
  unfold Oper.wp
  rw [run_callOp hc.1]
  rw [Oper.upon_enter]
  refine (hc.use ρ m hlA hKH hl hd hd' hJ hall _ (ha ▸ opsL_rel m xs hok) hRr).mono ?_
  rintro en w' ⟨k2, r, H2, v, e'', hR, rfl, hm, hrel⟩
  exact ⟨_, _, _, e'', hm.put (Nat.le_of_ble_eq_true hdn) hrel, hk k2 r H2 hR⟩

theorem run_callV {P : Program} {f : FuncId} (hc : callable P f = true) (a : Act) (x : Operand) (us : List Value) (hx : a.eval x = .func (.func f) #[] us.toArray) (xs : List Operand) (ts : Array TypeId) (dst : Option Tmp) (ty : TypeId) (pos) (after) (guard) (w : World) :
    (execOp a.eval ⟨dst, .call { callee := .value x, args := xs.toArray, argTypes := ts }, ty, pos, after, guard⟩).run P w = .ok (.enter f (xs.map a.eval ++ us).toArray) w := by
  simp only [execOp, resolve]
  simp [hx, Deferred.ofValue, invoke, run_call hc]

/-- A function value is called. -/
theorem ds_callV {f : FuncId} {x : Operand} {caps : List SV} {xs : List Operand} {ts : Array TypeId} {ty : TypeId} {pos : String} {af : Array Edge} {g : Option (Nat × Bool)} {d : Nat} {args : List SV} {R : SV → Prop}
    (hx : opSV L x = .fn f caps) (hxo : opOkB x = true) (hw : wantedSV ops L g = some true) (ha : opsL L xs ++ caps = args) (hc : FnP Γ.P Γ.τ Γ.τok f args R) (hok : opsOk xs = true) (hlow : SV.lowL 0 args = true) (hd : Nat.blt d Γ.n = true)
    (hk : ∀ r, R r → DS false Γ ops rest K k ((d, r) :: L) H) :
    DS false Γ ops (⟨some d, .call { callee := .value x, args := xs.toArray, argTypes := ts }, ty, pos, af, g⟩ :: rest) K k L H := by
  refine dl_run hw fun e a w m => ?_
  have hr := m.op x (opOkB_spec hxo)
  rw [hx] at hr
  obtain ⟨us, hu, hru⟩ := hr
  unfold Oper.wp
  rw [run_callV hc.1 a x us hu]
  rw [Oper.upon_enter]
  refine (hc.use (τ := Γ.τ) (τok := Γ.τok) (Γ := Γ) m hlow _ (ha ▸ RelL.append _ _ _ _ (opsL_rel m xs hok) hru)).mono ?_
  rintro en w' ⟨r, v, hR, rfl, hb, hlr, hrel⟩
  exact ⟨k, _, H, e, (m.below hb).put (Nat.le_of_ble_eq_true hd) (Rel.keep (Nat.le_refl _) (fun _ _ _ => rfl) (fun _ _ hy => hy) _ _ hrel), hk r hR⟩

/-- .. one that is handed owned blocks. -/
theorem ds_callVO {f : FuncId} {x : Operand} {caps : List SV} {xs : List Operand} {ts : Array TypeId} {ty : TypeId} {pos : String} {af : Array Edge} {g : Option (Nat × Bool)} {d : Nat} {args : List SV} {J kc : Nat} {Hc : Hp} {R : Nat → SV → Hp → Prop} (ρ : Nat → Nat)
    (hc : FnOk Γ.P Γ.τ Γ.τok f args J kc Hc R) (hx : opSV L x = .fn f caps) (hxo : opOkB x = true) (hw : wantedSV ops L g = some true) (ha : opsL L xs ++ caps = SV.renL ρ args) (hok : opsOk xs = true) (hlA : SV.lowL kc args = true) (hKH : KnowsH ρ H Hc) (hl : Hp.low kc Hc = true)
    (hd : distinct (Hc.map fun p => ρ p.1) = true) (hd' : distinct (Hc.map (·.1)) = true) (hJ : Nat.ble J kc = true) (hall : allIn J (Hc.map (·.1)) = true) (hdn : Nat.blt d Γ.n = true)
    (hRr : ∀ k2 r H2, R k2 r H2 → r.rowsGe J = true ∧ Hp.rowsGe J H2 = true)
    (hk : ∀ k2 r H2, R k2 r H2 → DS false Γ ops rest K (k + k2) ((d, r.ren (sig ρ J k)) :: L) ((H2.map fun p => (sig ρ J k p.1, p.2.ren (sig ρ J k))) ++ restOf H (Hc.map fun p => ρ p.1))) :
    DS false Γ ops (⟨some d, .call { callee := .value x, args := xs.toArray, argTypes := ts }, ty, pos, af, g⟩ :: rest) K k L H := by
  refine dl_run hw fun e a w m => ?_
  have hr := m.op x (opOkB_spec hxo)
  rw [hx] at hr
  obtain ⟨us, hu, hru⟩ := hr
  unfold Oper.wp
  rw [run_callV hc.1 a x us hu]
  rw [Oper.upon_enter]
  refine (hc.use ρ m hlA hKH hl hd hd' hJ hall _ (ha ▸ RelL.append _ _ _ _ (opsL_rel m xs hok) hru) hRr).mono ?_
  rintro en w' ⟨k2, r, H2, v, e'', hR, rfl, hm, hrel⟩
  exact ⟨_, _, _, e'', hm.put (Nat.le_of_ble_eq_true hdn) hrel, hk k2 r H2 hR⟩

/-- In an open order: a call whose answer is told by its datum. -/
theorem ds_callQ {f : FuncId} {xs : List Operand} {ts : Array TypeId} {ty : TypeId} {pos : String} {af : Array Edge} {g : Option (Nat × Bool)} {d : Nat} {args : List SV} {r : SV} {u : Value}
    (hw : wantedSV ops L g = some true) (ha : opsL L xs = args) (hc : FnP Γ.P Γ.τ Γ.τok f args (fun s => s = r)) (hu : r.sure = some u) (hok : opsOk xs = true) (hlow : SV.lowL 0 args = true) (hd : Nat.blt d Γ.n = true)
    (hk : DS true Γ ops rest K k ((d, r) :: L) H) :
    DS true Γ ops (⟨some d, .call { callee := .value (.func f), args := xs.toArray, argTypes := ts }, ty, pos, af, g⟩ :: rest) K k L H := by
  intro e a w m
  refine wpQuiet_step fun K' hK' => ?_
  rw [if_pos (wantedSV_spec m hw)]
  have hrel : Rel (Γ.X e H) e w r u := by
    cases r with
    | d x =>
      cases x with
      | int i n =>
        simp only [SV.sure, Option.some.injEq] at hu; subst hu
        obtain ⟨en, w', fr, ⟨s, v, hs, he, hb, hl, hv⟩, _⟩ := (hc.use (τ := Γ.τ) (τok := Γ.τok) (Γ := Γ) m hlow _ (ha ▸ opsL_rel m xs hok)) []
        subst hs; cases hv; exact .int (by assumption)
      | bool b => simp only [SV.sure, Option.some.injEq] at hu; subst hu; exact .bool
      | str s =>
        simp only [SV.sure, Option.some.injEq] at hu; subst hu
        obtain ⟨en, w', fr, ⟨s', v, hs, he, hb, hl, hv⟩, _⟩ := (hc.use (τ := Γ.τ) (τok := Γ.τok) (Γ := Γ) m hlow _ (ha ▸ opsL_rel m xs hok)) []
        subst hs; cases hv; exact .str (by assumption)
      | slice es l => simp [SV.sure] at hu
    | _ => simp [SV.sure] at hu
  refine ⟨u, fun w' hw' => ?_, hK' _ (hk e _ w (m.put (Nat.le_of_ble_eq_true hd) hrel))⟩
  unfold Oper.quietAt
  rw [run_callOp hc.1]
  refine ⟨rfl, ?_⟩
  have m' := m.below hw'
  refine (hc.use (τ := Γ.τ) (τok := Γ.τok) (Γ := Γ) m' hlow _ (ha ▸ opsL_rel m' xs hok)).mono ?_
  rintro en w2 ⟨s, v, rfl, rfl, hb, hl, hv⟩
  exact ⟨by rw [SV.sure_spec hu hv], hw'.trans (hb.mono hw'.size)⟩
end
end Go.Proofs.Ytapciiffpnociaa
