/- In an open order: a function value is called. Condition: none. -/
import Derived.Test.YtapciiffpnociaaGxCal
import Derived.Laws.Externs
namespace Go.Proofs.Ytapciiffpnociaa
open Go Go.RowKit
section
variable {Γ : Ctx} {k : Nat} {L : Sl} {H : Hp} {K : Next'} {ops : List Oper} {rest : List Oper} {a : Act} {w : World} {e : Env}

/-- In an open order: a call whose answer is told by its datum. -/
theorem ds_callVQ {f : FuncId} {x : Operand} {caps : List SV} {xs : List Operand} {ts : Array TypeId} {ty : TypeId} {pos : String} {af : Array Edge} {g : Option (Nat × Bool)} {d : Nat} {args : List SV} {r : SV} {u : Value}
    (hx : opSV L x = .fn f caps) (hxo : opOkB x = true) (hw : wantedSV ops L g = some true) (ha : opsL L xs ++ caps = args) (hc : FnP Γ.P Γ.τ Γ.τok f args (fun s => s = r)) (hu : r.sure = some u) (hok : opsOk xs = true) (hlow : SV.lowL 0 args = true) (hd : Nat.blt d Γ.n = true)
    (hk : DS true Γ ops rest K k ((d, r) :: L) H) :
    DS true Γ ops (⟨some d, .call { callee := .value x, args := xs.toArray, argTypes := ts }, ty, pos, af, g⟩ :: rest) K k L H := by
  intro e a w m
  refine wpQuiet_step fun K' hK' => ?_
  rw [if_pos (wantedSV_spec m hw)]
  have hfx := m.op x (opOkB_spec hxo)
  rw [hx] at hfx
  obtain ⟨us, hux, hru⟩ := hfx
  have hrel : Rel (Γ.X e H) e w r u := by
    cases r with
    | d x =>
      cases x with
      | int i n =>
        simp only [SV.sure, Option.some.injEq] at hu; subst hu
        obtain ⟨en, w', fr, ⟨s, v, hs, he, hb, hl, hv⟩, _⟩ := (hc.use (τ := Γ.τ) (τok := Γ.τok) (Γ := Γ) m hlow _ (ha ▸ RelL.append _ _ _ _ (opsL_rel m xs hok) hru)) []
        subst hs; cases hv; exact .int (by assumption)
      | bool b => simp only [SV.sure, Option.some.injEq] at hu; subst hu; exact .bool
      | str s =>
        simp only [SV.sure, Option.some.injEq] at hu; subst hu
        obtain ⟨en, w', fr, ⟨s', v, hs, he, hb, hl, hv⟩, _⟩ := (hc.use (τ := Γ.τ) (τok := Γ.τok) (Γ := Γ) m hlow _ (ha ▸ RelL.append _ _ _ _ (opsL_rel m xs hok) hru)) []
        subst hs; cases hv; exact .str (by assumption)
      | slice es l => simp [SV.sure] at hu
    | _ => simp [SV.sure] at hu
  refine ⟨u, fun w' hw' => ?_, hK' _ (hk e _ w (m.put (Nat.le_of_ble_eq_true hd) hrel))⟩
  unfold Oper.quietAt
  rw [run_callV hc.1 a x us hux]
  refine ⟨rfl, ?_⟩
  have m' := m.below hw'
  have hfx' := m'.op x (opOkB_spec hxo)
  rw [hx] at hfx'
  obtain ⟨us', hux', hru'⟩ := hfx'
  have hue : us' = us := by
    rw [hux'] at hux
    injection hux with _ _ h3
    exact Array.toList_inj.2 h3 |> fun h => by simpa using h
  subst hue
  refine (hc.use (τ := Γ.τ) (τok := Γ.τok) (Γ := Γ) m' hlow _ (ha ▸ RelL.append _ _ _ _ (opsL_rel m' xs hok) hru')).mono ?_
  rintro en w2 ⟨s, v, rfl, rfl, hb, hl, hv⟩
  exact ⟨by rw [SV.sure_spec hu hv], hw'.trans (hb.mono hw'.size)⟩

end
section
variable {Γ : Ctx} {k : Nat → Prop} {L : Sl} {H : Hp} {K : Next'} {ops : List Oper} {rest : List Oper} {a : Act} {w : World} {e : Env}
/-- A string's beginning. -/
theorem ev_slice_str_hi {t ty : TypeId} {x : Operand} {s : ByteArray} {j : Nat} {m' : Int} {hi : Operand} (ht : Γ.sh t = .str) (hx : opSV L x = .d (.str s)) (hxo : opOkB x = true) (hh : opSV L hi = .d (.int .i64 m')) (hm : m' = (j : Int)) (h2 : j ≤ s.size) :
    Ev Γ k L H (.slice t x none (some hi) none) ty (.d (.str (s.extract 0 j))) := by
  subst hm
  intro e a w m
  have hs : s.size ≤ maxLen := by
    have hr := m.op x (opOkB_spec hxo)
    rw [hx] at hr
    generalize a.eval x = v at hr
    cases hr; assumption
  refine ⟨.string (s.extract 0 j), fun _ _ _ _ w' _ => ?_, .str (by simp [ByteArray.size_extract]; omega)⟩
  simp [execOp, Instr.sliceAt, Instr.slice, Instr.sliceBounds, Instr.sliceBound, evS m hx, evI m hh, asIntOf, run_underlying (Ctx.str ht), h2]

/-- The first place of a byte in a string: the model stands in for the library. -/
theorem ev_indexByte {f : FuncId} {fn : Func} {x y : Operand} {ts : Array TypeId} {ty : TypeId} {s : ByteArray} {c : Int} (hf : Γ.P.funcs[f]? = some fn) (hname : (fn.name == "runtime.NumGoroutine") = false)
    (hb : fn.body.isNone = true) (hn : Extern.findNext fn = none) (he : Extern.find fn = some Extern.BytealgIndexByte.indexByte)
    (hx : opSV L x = .d (.str s)) (hxo : opOkB x = true) (hy : opSV L y = .d (.int .u8 c)) : Ev Γ k L H (.call { callee := .value (.func f), args := #[x, y], argTypes := ts }) ty (.d (.int .i64 (firstIdx s c.toNat.toUInt8))) := by
  intro e a w m
  have hs : s.size ≤ maxLen := by
    have hr := m.op x (opOkB_spec hxo)
    rw [hx] at hr
    generalize a.eval x = v at hr
    cases hr; assumption
  refine ⟨.int .i64 (firstIdx s c.toNat.toUInt8), fun dst pos after guard w' _ => ?_, .int ?_⟩
  · have h := run_callFunc_extern (P := Γ.P) hf hname hb hn he #[.string s, .int .u8 c] w'
    rw [run_indexByte_string] at h
    simp [execOp, resolve, Deferred.ofValue, invoke, evS m hx, evI m hy]
    exact h
  · unfold firstIdx
    have hm : maxLen = 9223372036854775807 := rfl
    split
    · rename_i i hi
      have := List.mem_of_find?_eq_some hi
      rw [List.mem_range] at this
      exact WalkArith.wf_i64 (by omega)
    · rfl

/-- A closure is made. -/
theorem ev_makeFunc {f : FuncId} {xs : List Operand} {caps : List SV} {ty : TypeId} (ha : opsL L xs = caps) (hok : opsOk xs = true) : Ev Γ k L H (.makeFunc (.func f) #[] xs.toArray) ty (.fn f caps) := by
  intro e a w m
  refine ⟨.func (.func f) #[] (xs.map a.eval).toArray, fun _ _ _ _ w' _ => ?_, ⟨_, rfl, ha ▸ opsL_rel m xs hok⟩⟩
  simp [execOp, Instr.makeFunc]
end
end Go.Proofs.Ytapciiffpnociaa
