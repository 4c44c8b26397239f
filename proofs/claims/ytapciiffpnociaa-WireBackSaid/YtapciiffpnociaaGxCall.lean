/- A plain logic over the walk: functions, calls, the quiet region. No program is named here. Condition: none. -/
import Derived.Test.YtapciiffpnociaaGxMem
import Derived.Deep.QuietTactic
namespace Go.Proofs.Ytapciiffpnociaa
open Go Go.RowKit

def enumSl : Nat → List SV → Sl
  | _, [] => []
  | i, s :: ss => (i, s) :: enumSl (i + 1) ss

/-- What a function's results are, by what is known. -/
def resOne (L : Sl) (H : Hp) (τ : List (Nat × TI)) : ResultVar → Option SV
  | .tmp t => some (L.get t)
  | .cell a t => match L.get a with
    | .loc i o => match Hp.get H i with
      | some (.blk _ cs) => match (tiGet τ t).sh with
        | .struct _ => match Nat.ble (o + (tiGet τ t).cells) cs.length with
          | true => some (.agg ((cs.drop o).take (tiGet τ t).cells))
          | false => none
        | .other => none
        | _ => cs[o]?
      | _ => none
    | _ => none
def resL (L : Sl) (H : Hp) (τ : List (Nat × TI)) : List ResultVar → Option (List SV)
  | [] => some []
  | r :: rs => match resOne L H τ r, resL L H τ rs with
    | some s, some ss => some (s :: ss)
    | _, _ => none
def resSV (L : Sl) (H : Hp) (τ : List (Nat × TI)) (rs : List ResultVar) : Option SV :=
  match resL L H τ rs with
  | some [s] => some s
  | some ss => some (.tup ss)
  | none => none

def RetQ (τ : List (Nat × TI)) (rs : List ResultVar) (R : Nat → SV → Hp → Prop) : Post := fun x k L H =>
  (x = .ret ∨ x = .normal) ∧ ∃ r, resSV L H τ rs = some r ∧ R k r H

theorem wf_range {n : Int} (h : (Lit.int .i64 n).wf = true) : -9223372036854775808 ≤ n ∧ n ≤ 9223372036854775807 := by
  simp [Lit.wf, IntKind.min, IntKind.max, IntKind.bits, IntKind.signed] at h
  omega

/-- A function with a body of its own. -/
def callable (P : Program) (f : FuncId) : Bool := match P.funcs[f]? with
  | some fn => !(fn.name == "runtime.NumGoroutine") && fn.body.isSome
  | none => false

/-- A function's contract, over data. -/
def FnOk (P : Program) (τ : List (Nat × TI)) (τok : TabOk P τ) (f : FuncId) (args : List SV) (J k : Nat) (H : Hp) (R : Nat → SV → Hp → Prop) : Prop :=
  callable P f = true ∧
  ∀ (O : Nat → Prop) (e : Env) (w : World) (vs : List Value),
    Heap ⟨P, τ, τok, O, w, fun b => b ∈ ownedL e H, 0, J, e.β⟩ k H e w → RelL (Ctx.X ⟨P, τ, τok, O, w, fun b => b ∈ ownedL e H, 0, J, e.β⟩ e H) e w args vs →
    Calls P f vs.toArray w (fun en w' => ∃ k' r H' e' v, R k' r H' ∧ en = .returned v ∧ Heap ⟨P, τ, τok, O, w, fun b => b ∈ ownedL e H, 0, J, e.β⟩ k' H' e' w' ∧
      Rel (Ctx.X ⟨P, τ, τok, O, w, fun b => b ∈ ownedL e H, 0, J, e.β⟩ e' H') e' w' r v)

theorem Heap.reframe {P τ τok O w0 E0 n n' J β0} {k : Nat → Prop} {H : Hp} {e : Env} {w : World} (h : Heap ⟨P, τ, τok, O, w0, E0, n, J, β0⟩ k H e w) : Heap ⟨P, τ, τok, O, w0, E0, n', J, β0⟩ k H e w :=
  ⟨h.top, h.heap, h.ids, h.nodup, h.mine, h.os, h.tape, h.output, h.size, h.block, h.obound, h.jle, h.anchor⟩

theorem enumSl_slot {X e w} : ∀ (ss : List SV) (vs more : List Value) (i : Nat) (pre : List Value), pre.length = i → RelL X e w ss vs → ∀ t, Rel X e w ((enumSl i ss).get t) ((pre ++ vs ++ more).toArray.getD t undef)
  | [], _, _, _, _, _, _, _ => trivial
  | _ :: _, [], _, _, _, _, h, _ => h.elim
  | s :: ss, v :: vs, more, i, pre, hp, ⟨h1, h2⟩, t => by
    simp only [enumSl, Sl.get_cons]
    split
    · rename_i ht
      subst ht
      have : (pre ++ v :: vs ++ more).toArray.getD i undef = v := by
        simp [Array.getD_eq_getD_getElem?, ← hp]
      rw [this]; exact h1
    · have := enumSl_slot ss vs more (i + 1) (pre ++ [v]) (by simp [hp]) h2 t
      simpa using this

theorem resOne_run {Γ : Ctx} {k : Nat → Prop} {L H e a w} (m : Models Γ k L H e a w) (r : ResultVar) (s : SV) (h : resOne L H Γ.τ r = some s) :
    ∃ v, (match r with | .tmp t => (pure (a.tmps.getD t undef) : Sem Value) | .cell p t => do loadVar t (← asAddr (a.tmps.getD p undef))).run Γ.P w = .ok v w ∧ Rel (Γ.X e H) e w s v := by
  cases r with
  | tmp t =>
    simp only [resOne, Option.some.injEq] at h
    exact ⟨_, by simp, h ▸ m.slot t⟩
  | cell p t =>
    simp only [resOne] at h
    have hp := m.slot p
    cases hL : L.get p with
    | loc i o =>
      simp only [hL] at h hp
      obtain ⟨_, hv⟩ := hp
      cases hH : Hp.get H i with
      | none => simp [hH] at h
      | some b =>
        cases b with
        | row ty es xs => simp [hH] at h
        | blk ty cs =>
          simp only [hH] at h
          have hb := (m.heap _ (Hp.mem_of hH)).2
          have one : (tiGet Γ.τ t).sh ≠ .other → (tiGet Γ.τ t).sh.isAgg = false → cs[o]? = some s → ∃ v, (do loadVar t (← asAddr (a.tmps.getD p undef)) : Sem Value).run Γ.P w = .ok v w ∧ Rel (Γ.X e H) e w s v := by
            intro ho hg hc
            obtain ⟨v, g1, g2⟩ := HRel.blk_cell hb hc
            exact ⟨v, by simp [hv, asAddr, loadVar, Ctx.agg (Γ := Γ) (t := t) ho, Ctx.sh, hg, g1], g2⟩
          cases hs : (tiGet Γ.τ t).sh with
          | struct l =>
            simp only [hs] at h
            cases hn : Nat.ble (o + (tiGet Γ.τ t).cells) cs.length with
            | false => simp [hn] at h
            | true =>
              simp only [hn, Option.some.injEq] at h
              obtain ⟨vs, g1, g2, g3, _⟩ := HRel.blk_cells hb o (Γ.cells t) (Nat.le_of_ble_eq_true hn)
              have ht : Γ.sh t = .struct l := hs
              have hr := run_load_agg (Γ := Γ) (t := t) (w' := w) (p := ⟨e.β i, o, none⟩) (by rw [ht]; intro h; cases h) (by rw [ht]; rfl) g1 g2
              exact ⟨.agg vs.toArray, by simp [hv, asAddr, hr], h ▸ ⟨vs, rfl, g3⟩⟩
          | other => simp [hs] at h
          | int _ => simp only [hs] at h; exact one (by simp [hs]) (by simp [hs, Sh.isAgg]) h
          | bool => simp only [hs] at h; exact one (by simp [hs]) (by simp [hs, Sh.isAgg]) h
          | str => simp only [hs] at h; exact one (by simp [hs]) (by simp [hs, Sh.isAgg]) h
          | slice _ => simp only [hs] at h; exact one (by simp [hs]) (by simp [hs, Sh.isAgg]) h
          | ptr _ => simp only [hs] at h; exact one (by simp [hs]) (by simp [hs, Sh.isAgg]) h
          | map _ _ => simp only [hs] at h; exact one (by simp [hs]) (by simp [hs, Sh.isAgg]) h
    | _ => simp [hL] at h

theorem results_run {Γ : Ctx} {k : Nat → Prop} {L H e a w} (m : Models Γ k L H e a w) (fn : Func) (s : SV) (h : resSV L H Γ.τ fn.results.toList = some s) :
    ∃ v, (results fn a.tmps).run Γ.P w = .ok v w ∧ Rel (Γ.X e H) e w s v := by
  have key : ∀ (rs : List ResultVar) (ss : List SV), resL L H Γ.τ rs = some ss → ∃ vs : List Value, (rs.mapM fun (r : ResultVar) => match r with | .tmp t => (pure (a.tmps.getD t undef) : Sem Value) | .cell p t => do loadVar t (← asAddr (a.tmps.getD p undef))).run Γ.P w = .ok vs w ∧ RelL (Γ.X e H) e w ss vs := by
    intro rs
    induction rs with
    | nil => intro ss h; simp only [resL, Option.some.injEq] at h; subst h; exact ⟨[], by simp, trivial⟩
    | cons r rs ih =>
      intro ss h
      simp only [resL] at h
      cases h1 : resOne L H Γ.τ r with
      | none => simp [h1] at h
      | some s1 =>
        cases h2 : resL L H Γ.τ rs with
        | none => simp [h1, h2] at h
        | some ss2 =>
          simp only [h1, h2, Option.some.injEq] at h
          subst h
          obtain ⟨v, g1, g2⟩ := resOne_run m r s1 h1
          obtain ⟨vs, g3, g4⟩ := ih ss2 h2
          refine ⟨v :: vs, ?_, g2, g4⟩
          rw [List.mapM_cons]
          simp only [Sem.run_bind, Sem.run_pure]
          cases r <;> simp_all
  unfold resSV at h
  cases hL : resL L H Γ.τ fn.results.toList with
  | none => simp [hL] at h
  | some ss =>
    obtain ⟨vs, g1, g2⟩ := key _ _ hL
    have hr : (results fn a.tmps).run Γ.P w = .ok (if h : vs.toArray.size = 1 then vs.toArray[0] else .tuple vs.toArray) w := by
      unfold results
      rw [Array.mapM_eq_mapM_toList]
      rw [map_eq_pure_bind]
      simp only [Sem.run_bind, Sem.run_pure]
      exact congrArg (fun r : Result (List Value) => (r.andThen fun a w' => Result.ok a.toArray w').andThen fun a w' => Result.ok (if h : a.size = 1 then a[0] else Value.tuple a) w') g1
    have hlen := RelL.length _ _ g2
    rw [hL] at h
    refine ⟨_, hr, ?_⟩
    clear hr g1 hL key
    cases ss with
    | nil =>
      cases vs with
      | nil => cases h; exact ⟨[], rfl, trivial⟩
      | cons v vs => exact g2.elim
    | cons s1 ss =>
      cases vs with
      | nil => exact g2.elim
      | cons v1 vs =>
        cases ss with
        | nil =>
          cases vs with
          | nil => cases h; exact g2.1
          | cons v vs => exact g2.2.elim
        | cons s2 ss =>
          cases vs with
          | nil => exact g2.2.elim
          | cons v2 vs => cases h; exact ⟨v1 :: v2 :: vs, by simp, g2⟩

/-- A function's contract, by a walk of its body. -/
theorem fn_enter {P : Program} {τ : List (Nat × TI)} {τok : TabOk P τ} {f : FuncId} {fn : Func} {c : Code} {args : List SV} {J k : Nat} {H : Hp} {R : Nat → SV → Hp → Prop} (N : Nat) (hf : P.funcs[f]? = some fn) (hb : fn.body = some c)
    (hN : args.length + (fn.ntmps - args.length) = N) (hcall : callable P f = true)
    (h : ∀ (O : Nat → Prop) (w0 : World) (E0 : Nat → Prop) (β0 : Nat → Nat), DW ⟨P, τ, τok, O, w0, E0, N, J, β0⟩ c (RetQ τ fn.results.toList R) k (enumSl 0 args) H) : FnOk P τ τok f args J k H R := by
  refine ⟨hcall, ?_⟩
  intro O e w vs hH hr
  have hl := RelL.length _ _ hr
  refine calls_of_wp hf hb (Code.wp_mono ?_ (h O w (fun b => b ∈ ownedL e H) e.β e _ w ⟨hH.reframe, rfl, ?_, fun t => ?_⟩))
  · rintro ex a' w' ⟨k', L', H', e', m', hx, r, hres, hR⟩
    obtain ⟨v, g1, g2⟩ := results_run m' fn r hres
    rcases hx with rfl | rfl
    · exact ⟨m'.defers, v, g1, k', r, H', e', v, hR, rfl, m'.toHeap.reframe, g2⟩
    · exact ⟨m'.defers, v, g1, k', r, H', e', v, hR, rfl, m'.toHeap.reframe, g2⟩
  · simp [← hN, hl]
  · have := enumSl_slot args vs (List.replicate (fn.ntmps - vs.length) undef) 0 [] rfl hr t
    have he : vs.toArray ++ Array.replicate (fn.ntmps - vs.toArray.size) undef = ([] ++ vs ++ List.replicate (fn.ntmps - vs.length) undef).toArray := by simp
    rw [he]
    exact this

mutual
theorem Rel.env {X e e' w} : ∀ (s : SV) (v : Value), s.low 0 = true → Rel X e w s v → Rel X e' w s v
  | .junk, _, _, _ => trivial
  | .d _, _, _, h => h
  | .nils, _, _, h => h
  | .pd _, _, _, h => h
  | .loc _ _, _, hb, _ => by simp [SV.low, Nat.blt] at hb
  | .row _, _, hb, _ => by simp [SV.low, Nat.blt] at hb
  | .prow _ _ _ _, _, hb, _ => by simp [SV.low, Nat.blt] at hb
  | .fn _ caps, _, hb, ⟨vs, h1, h2⟩ => ⟨vs, h1, RelL.env caps vs hb h2⟩
  | .agg ss, _, hb, ⟨vs, h1, h2⟩ => ⟨vs, h1, RelL.env ss vs hb h2⟩
  | .tup ss, _, hb, ⟨vs, h1, h2⟩ => ⟨vs, h1, RelL.env ss vs hb h2⟩
  | .val _, _, _, h => h
theorem RelL.env {X e e' w} : ∀ (ss : List SV) (vs : List Value), SV.lowL 0 ss = true → RelL X e w ss vs → RelL X e' w ss vs
  | [], [], _, _ => trivial
  | [], _ :: _, _, h => h.elim
  | _ :: _, [], _, h => h.elim
  | s :: ss, v :: vs, hb, h => by
    simp only [SV.lowL, Bool.and_eq_true] at hb
    exact ⟨Rel.env s v hb.1 h.1, RelL.env ss vs hb.2 h.2⟩
end

/-- A function that owns nothing and hands back plain data: what it hands back is told. -/
def FnP (P : Program) (τ : List (Nat × TI)) (τok : TabOk P τ) (f : FuncId) (args : List SV) (R : SV → Prop) : Prop := FnOk P τ τok f args 0 0 [] (fun _ r H' => H' = [] ∧ r.low 0 = true ∧ R r)

section
variable {Γ : Ctx} {k : Nat → Prop} {L : Sl} {H : Hp} {K : Next'} {ops : List Oper} {rest : List Oper}

def opsL (L : Sl) : List Operand → List SV
  | [] => []
  | x :: xs => opSV L x :: opsL L xs
def opsOk : List Operand → Bool
  | [] => true
  | x :: xs => opOkB x && opsOk xs

theorem opsL_rel {a w e} (m : Models Γ k L H e a w) : ∀ (xs : List Operand), opsOk xs = true → RelL (Γ.X e H) e w (opsL L xs) (xs.map a.eval)
  | [], _ => trivial
  | x :: xs, h => by
    simp only [opsOk, Bool.and_eq_true] at h
    exact ⟨m.op x (opOkB_spec h.1), opsL_rel m xs h.2⟩

theorem run_call {P : Program} {f : FuncId} (hc : callable P f = true) (args : Array Value) (w : World) : (callFunc f args).run P w = .ok (.enter f args) w := by
  unfold callable at hc
  cases hf : P.funcs[f]? with
  | none => simp [hf] at hc
  | some fn =>
    simp only [hf, Bool.and_eq_true, Bool.not_eq_true'] at hc
    have h1 : fn.name ≠ "runtime.NumGoroutine" := by simpa using hc.1
    have h2 : fn.body ≠ none := by intro hb; simp [hb] at hc
    simp [callFunc, hf, h1, h2]

theorem run_callOp {P : Program} {f : FuncId} (hc : callable P f = true) (a : Act) (xs : List Operand) (ts : Array TypeId) (dst : Option Tmp) (ty : TypeId) (pos) (after) (guard) (w : World) :
    (execOp a.eval ⟨dst, .call { callee := .value (.func f), args := xs.toArray, argTypes := ts }, ty, pos, after, guard⟩).run P w = .ok (.enter f (xs.map a.eval).toArray) w := by
  simp only [execOp, resolve]
  have : a.eval (.func f) = .func (.func f) #[] #[] := rfl
  simp [this, Deferred.ofValue, invoke, run_call hc]

theorem FnP.use {P : Program} {τ : List (Nat × TI)} {τok : TabOk P τ} {Γ : Ctx} {f : FuncId} {args : List SV} {R : SV → Prop} (hc : FnP P τ τok f args R) {e : Env} {w : World} {a : Act} (m : Models Γ k L H e a w) (hlow : SV.lowL 0 args = true)
    (vs : List Value) (hr : RelL (Γ.X e H) e w args vs) :
    Calls P f vs.toArray w (fun en w' => ∃ r v, R r ∧ en = .returned v ∧ Below w.heap.size w w' ∧ r.low 0 = true ∧ Rel (Γ.X e H) e w' r v) := by
  have hO : ∀ b, Γ.X e H b → b < w.heap.size := fun b hb => hb.elim (fun h => Nat.lt_of_lt_of_le (m.obound b h).1 m.size) (m.lt b)
  have hX : ∀ e' b, Ctx.X ⟨P, τ, τok, Γ.X e H, w, fun b => b ∈ ownedL (e.ren id 0) [], 0, 0, (e.ren id 0).β⟩ e' [] b ↔ Γ.X e H b := by
    intro e' b
    unfold Ctx.X
    simp [ownedL]
  refine (hc.2 (Γ.X e H) (e.ren id 0) w vs ⟨fun _ => Iff.rfl, by simp, by simp, by simp [ownedL], by simp [ownedL], rfl, rfl, rfl, Nat.le_refl _, fun _ _ _ => rfl, fun b hb => ⟨hO b hb, by simp [ownedL]⟩, fun j hj => absurd hj (Nat.not_lt_zero j), fun j hj => absurd hj (Nat.not_lt_zero j)⟩ ?_).mono ?_
  · exact RelL.keep (Nat.le_refl _) (fun _ _ _ => rfl) (fun b _ hy => (hX _ b).1 hy) _ _ (RelL.env _ _ hlow hr)
  · rintro en w' ⟨k', r, H', e', v, ⟨rfl, hlr, hR⟩, rfl, hH, hrel⟩
    refine ⟨r, v, hR, rfl, ⟨hH.os, hH.tape, hH.output, hH.size, fun b hb => hH.block b hb (by simp [ownedL])⟩, hlr, ?_⟩
    exact Rel.keep (Nat.le_refl _) (fun _ _ _ => rfl) (fun b _ hy => (hX _ b).2 hy) _ _ (Rel.env _ _ hlr hrel)

end
section
variable {Γ : Ctx} {k : Nat} {L : Sl} {H : Hp} {K : Next'} {ops : List Oper} {rest : List Oper}
theorem dl_call {f : FuncId} {xs : List Operand} {ts : Array TypeId} {ty : TypeId} {pos : String} {af : Array Edge} {g : Option (Nat × Bool)} {d : Nat} {args : List SV} {R : SV → Prop} (hw : wantedSV ops L g = some true)
    (hc : FnP Γ.P Γ.τ Γ.τok f args R) (ha : opsL L xs = args) (hok : opsOk xs = true) (hlow : SV.lowL 0 args = true) (hd : Nat.blt d Γ.n = true)
    (hk : ∀ r, R r → DL Γ ops rest K k ((d, r) :: L) H) :
    DL Γ ops (⟨some d, .call { callee := .value (.func f), args := xs.toArray, argTypes := ts }, ty, pos, af, g⟩ :: rest) K k L H := by
  refine dl_run hw fun e a w m => ?_
  unfold Oper.wp
  rw [run_callOp hc.1]
  rw [Oper.upon_enter]
  refine (hc.use (τ := Γ.τ) (τok := Γ.τok) (Γ := Γ) m hlow _ (ha ▸ opsL_rel m xs hok)).mono ?_
  rintro en w' ⟨r, v, hR, rfl, hb, hlr, hrel⟩
  exact ⟨k, _, H, e, (m.below hb).put (Nat.le_of_ble_eq_true hd) (Rel.keep (Nat.le_refl _) (fun _ _ _ => rfl) (fun _ _ hy => hy) _ _ hrel), hk r hR⟩

/-- The same, of a region whose order is open: all its operations only read. -/
def DQ (Γ : Ctx) (ops : List Oper) (rest : List Oper) (K : Next') (k : Nat) (L : Sl) (H : Hp) : Prop :=
  ∀ e a w, Models Γ k L H e a w → wpQuiet Γ.P ops.toArray (fun w' => Below w.heap.size w w') (fun a' => ∃ L', Models Γ k L' H e a' w ∧ K k L' H) rest a

theorem dq_nil (h : K k L H) : DQ Γ ops [] K k L H := fun _ _ _ m => wpQuiet_nil ⟨L, m, h⟩

theorem dq_ev {d : Nat} {op : Op} {ty : TypeId} {pos : String} {af : Array Edge} {g : Option (Nat × Bool)} {s : SV} (hw : wantedSV ops L g = some true) (h : Ev Γ k L H op ty s) (hd : Nat.blt d Γ.n = true)
    (hk : DQ Γ ops rest K k ((d, s) :: L) H) : DQ Γ ops (⟨some d, op, ty, pos, af, g⟩ :: rest) K k L H := by
  intro e a w m
  refine wpQuiet_step fun K' hK' => ?_
  rw [if_pos (wantedSV_spec m hw)]
  obtain ⟨v, h1, h2⟩ := h e a w m
  refine ⟨v, fun w' hw' => ?_, hK' _ (hk e _ w (m.put (Nat.le_of_ble_eq_true hd) h2))⟩
  unfold Oper.quietAt
  rw [h1 (some d) pos af g w' hw']
  exact ⟨rfl, rfl⟩

theorem dq_skip {op : Op} {ty : TypeId} {pos : String} {af : Array Edge} {g : Option (Nat × Bool)} {d : Nat} (hw : wantedSV ops L g = some false) (hd : Nat.blt d Γ.n = true)
    (h : DQ Γ ops rest K k ((d, .tup []) :: L) H) : DQ Γ ops (⟨some d, op, ty, pos, af, g⟩ :: rest) K k L H := by
  intro e a w m
  refine wpQuiet_step fun K' hK' => ?_
  rw [if_neg (by rw [wantedSV_spec m hw]; exact Bool.false_ne_true)]
  exact hK' _ (h e _ w (m.put (s := .tup []) (Nat.le_of_ble_eq_true hd) ⟨[], rfl, trivial⟩))

theorem models_bool {k : Nat → Prop} {e a w} {t : Nat} {b : Bool} (m : Models Γ k L H e a w) (hb : L.get t = .d (.bool b)) (b' : Bool) (hb' : b = b') : Models Γ k ((t, .d (.bool b')) :: L) H e a w :=
  ⟨m.toHeap, m.defers, m.len, fun t' => by
    rw [Sl.get_cons]
    split
    · rename_i h; subst h; rw [← hb', ← hb]; exact m.slot t
    · exact m.slot t'⟩

theorem dq_split {t : Nat} {b : Bool} (hb : L.get t = .d (.bool b)) (ht : b = true → DQ Γ ops rest K k ((t, .d (.bool true)) :: L) H) (hf : b = false → DQ Γ ops rest K k ((t, .d (.bool false)) :: L) H) :
    DQ Γ ops rest K k L H := by
  intro e a w m
  cases b with
  | true => exact ht rfl e a w (models_bool m hb true rfl)
  | false => exact hf rfl e a w (models_bool m hb false rfl)

theorem dw_region_quiet {id : Nat} {l : List Oper} {Q : Post} (hm : Γ.P.follows .mixedOrders = true) (hB : Region.lexB .any l.toArray = true) (h : DQ Γ l l (Q .normal) k L H) : DW Γ (.region id l.toArray true) Q k L H := by
  intro e a w m
  refine wp_region_quiet (C := fun w' => Below w.heap.size w w') hm hB ((Below.refl _ _).drew) ?_
  have hq := h e a w m
  have key : ∀ (rest : List Oper) (A : Act), wpQuiet Γ.P l.toArray (fun w' => Below w.heap.size w w') (fun a' => ∃ L', Models Γ k L' H e a' w ∧ Q .normal k L' H) rest A →
      wpQuiet Γ.P l.toArray (fun w' => Below w.heap.size w w') (fun a' => ∀ w', Below w.heap.size w w' → lift Γ Q .normal a' w') rest A := by
    intro rest
    induction rest with
    | nil =>
      rintro A ⟨L', m', hq'⟩ w' hw'
      exact ⟨k, L', H, e, m'.below hw', hq'⟩
    | cons o rest ih =>
      intro A hA
      simp only [wpQuiet] at hA ⊢
      split
      · rename_i hc
        rw [if_pos hc] at hA
        exact Oper.quiet_mono ih hA
      · rename_i hc
        rw [if_neg hc] at hA
        exact ih _ hA
  have := key l a hq
  simpa using this

/-- A region's operations: in the text's order (false), or quiet in an open order (true). -/
def DS (q : Bool) (Γ : Ctx) (ops : List Oper) (rest : List Oper) (K : Next') (k : Nat) (L : Sl) (H : Hp) : Prop := match q with
  | true => DQ Γ ops rest K k L H
  | false => DL Γ ops rest K k L H

section
variable {q : Bool}
theorem ds_nil (h : K k L H) : DS q Γ ops [] K k L H := by
  cases q
  · exact dl_nil h
  · exact dq_nil h
theorem ds_ev {d : Nat} {op : Op} {ty : TypeId} {pos : String} {af : Array Edge} {g : Option (Nat × Bool)} {s : SV} (h : Ev Γ k L H op ty s) (hw : wantedSV ops L g = some true) (hd : Nat.blt d Γ.n = true)
    (hk : DS q Γ ops rest K k ((d, s) :: L) H) : DS q Γ ops (⟨some d, op, ty, pos, af, g⟩ :: rest) K k L H := by
  cases q
  · exact dl_ev hw h hd hk
  · exact dq_ev hw h hd hk
theorem ds_skip {op : Op} {ty : TypeId} {pos : String} {af : Array Edge} {g : Option (Nat × Bool)} {d : Nat} (hw : wantedSV ops L g = some false) (hd : Nat.blt d Γ.n = true)
    (h : DS q Γ ops rest K k ((d, .tup []) :: L) H) : DS q Γ ops (⟨some d, op, ty, pos, af, g⟩ :: rest) K k L H := by
  cases q
  · exact dl_skip hw hd h
  · exact dq_skip hw hd h
theorem ds_skip0 {op : Op} {ty : TypeId} {pos : String} {af : Array Edge} {g : Option (Nat × Bool)} (hw : wantedSV ops L g = some false)
    (h : DS false Γ ops rest K k L H) : DS false Γ ops (⟨none, op, ty, pos, af, g⟩ :: rest) K k L H := dl_skip0 hw h
theorem ds_split {t : Nat} {b : Bool} (hb : L.get t = .d (.bool b)) (ht : b = true → DS q Γ ops rest K k ((t, .d (.bool true)) :: L) H) (hf : b = false → DS q Γ ops rest K k ((t, .d (.bool false)) :: L) H) :
    DS q Γ ops rest K k L H := by
  cases q
  · exact dl_split hb ht hf
  · exact dq_split hb ht hf
/-- An operation's guard is a Bool that is not known: it is done, or passed over. -/
theorem ds_guard {op : Op} {ty : TypeId} {pos : String} {af : Array Edge} {j d : Nat} {want b : Bool} {oj : Oper} {t : Nat} (hj : nthOp ops j = some oj) (hd : oj.dst = some t) (hb : L.get t = .d (.bool b)) (hdn : Nat.blt d Γ.n = true)
    (ht : b = want → DS q Γ ops (⟨some d, op, ty, pos, af, none⟩ :: rest) K k ((t, .d (.bool want)) :: L) H) (hf : b = (!want) → DS q Γ ops rest K k ((d, .tup []) :: (t, .d (.bool (!want))) :: L) H) :
    DS q Γ ops (⟨some d, op, ty, pos, af, some (j, want)⟩ :: rest) K k L H := by
  have hw : ∀ L' b', wantedSV ops ((t, .d (.bool b')) :: L') (some (j, want)) = some (b' == want) := by
    intro L' b'
    simp only [wantedSV, hj, hd, Sl.get_cons, if_pos]
    cases b' <;> cases want <;> rfl
  cases q with
  | false =>
    intro e a w m
    by_cases h : b = want
    · have m' := models_bool m hb want h
      have h1 := ht h e a w m'
      refine wpList_step fun K' hK' => ?_
      rw [if_pos (by rw [wantedSV_spec m' (hw L want)]; simp)]
      simp only [wpList] at h1
      rw [if_pos (by rfl)] at h1
      rcases h1 with h1 | ⟨_, a0, w0, _, _, _, _, _, hx, _⟩
      · exact Oper.wp_mono (fun a w h => hK' a w h) h1
      · cases hx
    · have h' : b = (!want) := by cases b <;> cases want <;> simp_all
      have m' := models_bool m hb (!want) h'
      refine wpList_step fun K' hK' => ?_
      rw [if_neg (by rw [wantedSV_spec m' (hw L (!want))]; cases want <;> simp)]
      exact hK' _ _ (hf h' e _ w (m'.put (s := .tup []) (Nat.le_of_ble_eq_true hdn) ⟨[], rfl, trivial⟩))
  | true =>
    intro e a w m
    by_cases h : b = want
    · have m' := models_bool m hb want h
      have h1 := ht h e a w m'
      simp only [wpQuiet] at h1 ⊢
      rw [if_pos (by rw [wantedSV_spec m' (hw L want)]; simp)]
      rw [if_pos (by rfl)] at h1
      exact h1
    · have h' : b = (!want) := by cases b <;> cases want <;> simp_all
      have m' := models_bool m hb (!want) h'
      simp only [wpQuiet]
      rw [if_neg (by rw [wantedSV_spec m' (hw L (!want))]; cases want <;> simp)]
      exact hf h' e _ w (m'.put (s := .tup []) (Nat.le_of_ble_eq_true hdn) ⟨[], rfl, trivial⟩)
theorem ds_guardT {op : Op} {ty : TypeId} {pos : String} {af : Array Edge} {j d : Nat} {p : Prop} {_ : Decidable p} {oj : Oper} {t : Nat} (hj : nthOp ops j = some oj) (hd : oj.dst = some t) (hb : L.get t = .d (.bool (decide p))) (hdn : Nat.blt d Γ.n = true)
    (ht : p → DS q Γ ops (⟨some d, op, ty, pos, af, none⟩ :: rest) K k ((t, .d (.bool true)) :: L) H) (hf : ¬ p → DS q Γ ops rest K k ((d, .tup []) :: (t, .d (.bool false)) :: L) H) :
    DS q Γ ops (⟨some d, op, ty, pos, af, some (j, true)⟩ :: rest) K k L H :=
  ds_guard hj hd hb hdn (fun h => ht (of_decide_eq_true h)) (fun h => hf (of_decide_eq_false h))
theorem ds_guardF {op : Op} {ty : TypeId} {pos : String} {af : Array Edge} {j d : Nat} {p : Prop} {_ : Decidable p} {oj : Oper} {t : Nat} (hj : nthOp ops j = some oj) (hd : oj.dst = some t) (hb : L.get t = .d (.bool (decide p))) (hdn : Nat.blt d Γ.n = true)
    (ht : ¬ p → DS q Γ ops (⟨some d, op, ty, pos, af, none⟩ :: rest) K k ((t, .d (.bool false)) :: L) H) (hf : p → DS q Γ ops rest K k ((d, .tup []) :: (t, .d (.bool true)) :: L) H) :
    DS q Γ ops (⟨some d, op, ty, pos, af, some (j, false)⟩ :: rest) K k L H :=
  ds_guard hj hd hb hdn (fun h => ht (of_decide_eq_false h)) (fun h => hf (of_decide_eq_true h))
theorem ds_region {id : Nat} {l : List Oper} {Q : Post} (h : DS false Γ l l (Q .normal) k L H) : DW Γ (.region id l.toArray false) Q k L H := dw_region h
theorem ds_region_quiet {id : Nat} {l : List Oper} {Q : Post} (hm : Γ.P.follows .mixedOrders = true) (hB : Region.lexB .any l.toArray = true) (h : DS true Γ l l (Q .normal) k L H) : DW Γ (.region id l.toArray true) Q k L H :=
  dw_region_quiet hm hB h
theorem ds_call {f : FuncId} {xs : List Operand} {ts : Array TypeId} {ty : TypeId} {pos : String} {af : Array Edge} {g : Option (Nat × Bool)} {d : Nat} {args : List SV} {R : SV → Prop} (hw : wantedSV ops L g = some true)
    (ha : opsL L xs = args) (hc : FnP Γ.P Γ.τ Γ.τok f args R) (hok : opsOk xs = true) (hlow : SV.lowL 0 args = true) (hd : Nat.blt d Γ.n = true)
    (hk : ∀ r, R r → DS false Γ ops rest K k ((d, r) :: L) H) :
    DS false Γ ops (⟨some d, .call { callee := .value (.func f), args := xs.toArray, argTypes := ts }, ty, pos, af, g⟩ :: rest) K k L H := dl_call hw hc ha hok hlow hd hk
end
end


theorem fnp_enter {P : Program} {τ : List (Nat × TI)} {τok : TabOk P τ} {f : FuncId} {fn : Func} {c : Code} {args : List SV} {R : SV → Prop} (N : Nat) (hf : P.funcs[f]? = some fn) (hb : fn.body = some c)
    (hN : args.length + (fn.ntmps - args.length) = N) (hcall : callable P f = true)
    (h : ∀ (O : Nat → Prop) (w0 : World) (E0 : Nat → Prop) (β0 : Nat → Nat), DW ⟨P, τ, τok, O, w0, E0, N, 0, β0⟩ c (RetQ τ fn.results.toList fun _ r H' => H' = [] ∧ r.low 0 = true ∧ R r) 0 (enumSl 0 args) []) : FnP P τ τok f args R :=
  fn_enter N hf hb hN hcall h

/-- What is owned at the end need not be told of: it is let go. -/
theorem fnp_enter' {P : Program} {τ : List (Nat × TI)} {τok : TabOk P τ} {f : FuncId} {fn : Func} {c : Code} {args : List SV} {R : SV → Prop} (N : Nat) (hf : P.funcs[f]? = some fn) (hb : fn.body = some c)
    (hN : args.length + (fn.ntmps - args.length) = N) (hcall : callable P f = true)
    (h : ∀ (O : Nat → Prop) (w0 : World) (E0 : Nat → Prop) (β0 : Nat → Nat), DW ⟨P, τ, τok, O, w0, E0, N, 0, β0⟩ c (RetQ τ fn.results.toList fun _ r _ => r.low 0 = true ∧ R r) 0 (enumSl 0 args) []) : FnP P τ τok f args R := by
  have h2 := fn_enter (J := 0) (k := 0) (H := []) N hf hb hN hcall (R := fun _ r _ => r.low 0 = true ∧ R r) h
  refine ⟨h2.1, fun O e w vs hH hr => (h2.2 O e w vs hH hr).mono ?_⟩
  rintro en w' ⟨k', r, H', e', v, ⟨hl, hR⟩, rfl, hH', hrel⟩
  obtain ⟨g1, g2⟩ := hH'.ren id 0 [] trivial rfl rfl rfl rfl rfl
  exact ⟨0, r, [], e'.ren id 0, v, ⟨rfl, hl, hR⟩, rfl, g1, Rel.keep (Nat.le_refl _) (fun _ _ _ => rfl) (fun b _ hy => g2 b hy) _ _ (Rel.env _ _ hl hrel)⟩

/-- A loop: the states at its head are a family, under a condition; a measure falls. -/
theorem ds_loop {Γ : Ctx} {k : Nat} {L : Sl} {H : Hp} {Q : Post} {ι : Type} {c : Code} (I : ι → St) (pre : ι → Prop) (μ : ι → Nat) (x0 : ι) (p0 : pre x0) (h0 : Ent Γ k L H (I x0).k (I x0).L (I x0).H)
    (round : ∀ x, pre x → DW Γ c (thenD (fun k' L' H' => ∃ y, pre y ∧ Ent Γ k' L' H' (I y).k (I y).L (I y).H ∧ μ y < μ x) Q) (I x).k (I x).L (I x).H) : DW Γ (.loop c) Q k L H := by
  refine dw_loop (ι := { x // pre x }) (fun x => I x.1) (fun x => μ x.1) ⟨x0, p0⟩ h0 fun x => ?_
  intro e a w m
  refine wp_mono (round x.1 x.2 e a w m) ?_
  rintro ex a' w' ⟨k', L', H', e', m', hq⟩
  cases ex with
  | normal =>
    obtain ⟨y, py, hy, hlt⟩ := hq
    exact ⟨k', L', H', e', m', ⟨⟨y, py⟩, hy, hlt⟩⟩
  | _ => exact ⟨k', L', H', e', m', hq⟩

theorem dw_condP {Γ : Ctx} {k : Nat} {L : Sl} {H : Hp} {Q : Post} {c : Operand} {x y : Code} {p : Prop} {_ : Decidable p} (hc : opSV L c = .d (.bool (decide p))) (ht : p → DW Γ x Q k L H) (hf : ¬ p → DW Γ y Q k L H) : DW Γ (.cond c x y) Q k L H :=
  dw_cond hc (fun h => ht (of_decide_eq_true h)) (fun h => hf (of_decide_eq_false h))
theorem dw_condT {Γ : Ctx} {k : Nat} {L : Sl} {H : Hp} {Q : Post} {c : Operand} {x y : Code} (hc : opSV L c = .d (.bool true)) (h : DW Γ x Q k L H) : DW Γ (.cond c x y) Q k L H := dw_cond hc (fun _ => h) (fun h => by cases h)
theorem dw_condF {Γ : Ctx} {k : Nat} {L : Sl} {H : Hp} {Q : Post} {c : Operand} {x y : Code} (hc : opSV L c = .d (.bool false)) (h : DW Γ y Q k L H) : DW Γ (.cond c x y) Q k L H := dw_cond hc (fun h => by cases h) (fun _ => h)

section
variable {Γ : Ctx} {k : Nat} {L : Sl} {H : Hp} {Q : Post} {K : Next'}
theorem dw_seq2 {x y : Code} (h : DW Γ x (thenD (DW Γ y Q) Q) k L H) : DW Γ (.seq x y) Q k L H := dw_seq fun _ hK => by
  intro e a w m
  refine wp_mono (h e a w m) ?_
  rintro ex a' w' ⟨k', L', H', e', m', hq⟩
  cases ex with
  | normal => exact ⟨k', L', H', e', m', hK _ _ _ hq⟩
  | _ => exact ⟨k', L', H', e', m', hq⟩
theorem thenD_n (h : K k L H) : thenD K Q .normal k L H := h
theorem thenD_e {id : Nat} (h : Q (.exit id) k L H) : thenD K Q (.exit id) k L H := h
theorem thenD_r (h : Q .ret k L H) : thenD K Q .ret k L H := h
theorem inB_n {id : Nat} (h : Q .normal k L H) : inBlockD id Q .normal k L H := h
theorem inB_r {id : Nat} (h : Q .ret k L H) : inBlockD id Q .ret k L H := h
theorem inB_e {id i : Nat} (hb : Nat.beq i id = true) (h : Q .normal k L H) : inBlockD id Q (.exit i) k L H := by simp only [inBlockD, hb]; exact h
theorem inB_x {id i : Nat} (hb : Nat.beq i id = false) (h : Q (.exit i) k L H) : inBlockD id Q (.exit i) k L H := by simp only [inBlockD, hb]; exact h
end

section
variable {Γ : Ctx} {k : Nat} {L : Sl} {H : Hp} {Q : Post} {c : Code}
/-- What a slot's data tell of themselves. -/
theorem dw_len {t es : Nat} {xs : List (List D)} (h : L.get t = .d (.slice es xs)) (hk : xs.length ≤ 9223372036854775807 → DW Γ c Q k L H) : DW Γ c Q k L H := by
  intro e a w m
  have hr := m.slot t
  rw [h] at hr
  obtain ⟨ao, cap, _, h1, h2, _⟩ := hr.slice_inv
  exact hk (by unfold maxLen at h2; omega) e a w m
theorem dw_len_map {α : Type} {t es : Nat} {l : List α} {f : α → List D} (h : L.get t = .d (.slice es (l.map f))) (hk : l.length ≤ 9223372036854775807 → DW Γ c Q k L H) : DW Γ c Q k L H :=
  dw_len h (by simpa using hk)
theorem dw_str {t : Nat} {s : ByteArray} (h : L.get t = .d (.str s)) (hk : s.size ≤ 9223372036854775807 → DW Γ c Q k L H) : DW Γ c Q k L H := by
  intro e a w m
  have hr := m.slot t
  rw [h] at hr
  generalize a.tmps.getD t undef = v at hr
  cases hr with
  | str h2 => exact hk (by unfold maxLen at h2; omega) e a w m
theorem dw_int {t : Nat} {n : Int} (h : L.get t = .d (.int .i64 n)) (hk : -9223372036854775808 ≤ n ∧ n ≤ 9223372036854775807 → DW Γ c Q k L H) : DW Γ c Q k L H := by
  intro e a w m
  have hr := m.slot t
  rw [h] at hr
  generalize a.tmps.getD t undef = v at hr
  cases hr with
  | int h2 => exact hk (wf_range h2) e a w m
end

section
variable {k : Nat} {L : Sl} {H : Hp} {τ : List (Nat × TI)} {rs : List ResultVar}
/-- The end of a walk: what is handed back. -/
theorem ret_b {b b' : Bool} (hr : resSV L H τ rs = some (.d (.bool b))) (h : b = b') : RetQ τ rs (fun _ r _ => r.low 0 = true ∧ r = .d (.bool b')) .ret k L H := ⟨.inl rfl, _, hr, rfl, by rw [h]⟩
theorem ret_i {i : IntKind} {n n' : Int} (hr : resSV L H τ rs = some (.d (.int i n))) (h : n = n') : RetQ τ rs (fun _ r _ => r.low 0 = true ∧ r = .d (.int i n')) .ret k L H := ⟨.inl rfl, _, hr, rfl, by rw [h]⟩
theorem ret_d {x y : D} (hr : resSV L H τ rs = some (.d x)) (h : x = y) : RetQ τ rs (fun _ r _ => r.low 0 = true ∧ r = .d y) .ret k L H := ⟨.inl rfl, _, hr, rfl, by rw [h]⟩
theorem ret_2 {x y x' y' : D} (hr : resSV L H τ rs = some (.tup [.d x, .d y])) (h : x = x' ∧ y = y') : RetQ τ rs (fun _ r _ => r.low 0 = true ∧ r = .tup [.d x', .d y']) .ret k L H := ⟨.inl rfl, _, hr, rfl, by rw [h.1, h.2]⟩
theorem ret_3 {x y z x' y' z' : D} (hr : resSV L H τ rs = some (.tup [.d x, .d y, .d z])) (h : x = x' ∧ y = y' ∧ z = z') : RetQ τ rs (fun _ r _ => r.low 0 = true ∧ r = .tup [.d x', .d y', .d z']) .ret k L H := ⟨.inl rfl, _, hr, rfl, by rw [h.1, h.2.1, h.2.2]⟩
end
end Go.Proofs.Ytapciiffpnociaa
