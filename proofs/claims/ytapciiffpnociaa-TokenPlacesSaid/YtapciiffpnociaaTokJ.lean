/- strings.Join as a contract over data. Condition: none. -/
import Derived.Test.YtapciiffpnociaaTokD
import Derived.Test.YtapciiffpnociaaShJ
namespace Go.Proofs.Ytapciiffpnociaa
open Go Go.RowKit

/-- A contract of the kit's, that turns nothing below the heap's end, is one over data. -/
theorem fnp_of_calls {P : Program} {τ : List (Nat × TI)} {τok : TabOk P τ} {f : FuncId} {args : List SV} {R : SV → Prop} (hcall : callable P f = true)
    (h : ∀ (X : Nat → Prop) (e : Env) (w : World) (vs : List Value), RelL X e w args vs → Calls P f vs.toArray w fun en w' => ∃ v r, en = .returned v ∧ R r ∧ r.low 0 = true ∧ (∀ Y, Rel Y e w' r v) ∧ Below w.heap.size w w') :
    FnP P τ τok f args R := by
  refine ⟨hcall, fun O e w vs hH hr => (h _ e w vs hr).mono ?_⟩
  rintro en w' ⟨v, r, h1, h2, h3, h4, h5⟩
  refine ⟨0, r, [], e, v, ⟨rfl, h3, h2⟩, h1, ?_, h4 _⟩
  exact { top := hH.top, heap := (fun p hp => nomatch hp), ids := .nil, nodup := .nil, mine := (fun b hb => nomatch hb), os := h5.os, tape := h5.tape, output := h5.output, size := h5.size, block := (fun b hb _ => h5.block b hb), obound := hH.obound, jle := hH.jle, anchor := hH.anchor }

def joinB (xs : List ByteArray) (sep : ByteArray) : ByteArray := ⟨(Lib.join (xs.map (·.data.toList)) sep.data.toList).toArray⟩
def encStrs (xs : List ByteArray) : List (List D) := xs.map fun t => [D.str t]

theorem join_fn (xs : List ByteArray) (sep : ByteArray) (hN : xs.length ≤ 140737488355328) (hlen : (joinB xs sep).size ≤ 140737488355328) :
    Fn 69 [.d (.slice 1 (encStrs xs)), .d (.str sep)] (fun r => r = .d (.str (joinB xs sep))) := by
  have hlen' : (Lib.join (xs.map (·.data.toList)) sep.data.toList).length ≤ 140737488355328 := by simpa [joinB, ByteArray.size] using hlen
  have hmax : (joinB xs sep).size ≤ maxLen := Nat.le_trans hlen (by decide)
  refine fnp_of_calls (by kernel_rfl) fun X e w vs hr => ?_
  obtain ⟨v1, v2, rfl, h1, h2⟩ : ∃ v1 v2, vs = [v1, v2] ∧ Rel X e w (.d (.slice 1 (encStrs xs))) v1 ∧ Rel X e w (.d (.str sep)) v2 := by
    match vs, hr with
    | [v1, v2], ⟨h1, h2, _⟩ => exact ⟨v1, v2, rfl, h1, h2⟩
  cases h2
  change RepC X w v1 (.slice 1 (encStrs xs)) at h1
  generalize hq : encStrs xs = ys at h1
  cases h1 with
  | nil =>
    have hx : xs = [] := by simpa [encStrs] using hq
    subst hx
    exact (Try.strings_Join_none none 0 sep w).mono fun en w' ⟨h3, h4⟩ => ⟨_, _, h3, rfl, rfl, fun _ => .str hmax, h4 ▸ Below.refl _ _⟩
  | zero =>
    have hx : xs = [] := by simpa [encStrs] using hq
    subst hx
    exact (Try.strings_Join_none _ 0 sep w).mono fun en w' ⟨h3, h4⟩ => ⟨_, _, h3, rfl, rfl, fun _ => .str hmax, h4 ▸ Below.refl _ _⟩
  | slice c hn hc hm hX hb he hcell hrep =>
    rename_i b off n cap
    subst hq
    have hl : (encStrs xs).length = xs.length := by simp [encStrs]
    rw [hl] at hn
    subst hn
    refine (Try.strings_Join b off cap xs sep w ?_ hb hN hc hlen').mono fun en w' ⟨h3, h4⟩ => ⟨_, _, h3, rfl, rfl, fun _ => .str hmax, h4⟩
    intro j x hx
    obtain ⟨hj, hx⟩ := List.getElem?_eq_some_iff.1 hx
    have hj' : j < (encStrs xs).length := by rw [hl]; exact hj
    have hel : (encStrs xs)[j] = [D.str x] := by simp [encStrs, hx]
    have g1 := hcell j hj' 0 (by rw [hel]; exact Nat.one_pos)
    have g2 := hrep j hj' 0 (by rw [hel]; exact Nat.one_pos)
    simp only [hel] at g2
    rw [show off + j = off + j * 1 + 0 by omega, g1]
    change RepC X w (c j 0) (.str x) at g2
    generalize c j 0 = u at g2
    cases g2
    rfl
end Go.Proofs.Ytapciiffpnociaa
