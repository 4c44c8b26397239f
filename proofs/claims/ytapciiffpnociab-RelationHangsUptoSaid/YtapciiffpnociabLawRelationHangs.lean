/- RelationHangs: sets are what they were, in whatever order facts came; what is in the union, or the difference, is told by Has; and the order is one, as long as it is of bulk 1048576 at the most. Condition: none. -/
import Derived.Test.YtapciiffpnociabRows
import Derived.Test.YtapciiffpnociabB13
import Derived.Test.YtapciiffpnociabB14
import Derived.ProofKit
namespace Go.Proofs.Ytapciiffpnociab
open Go Go.RowKit Go.ChangeShapes Go.WideShapes Go.ChangeAt

theorem own : ownKnob Try.prog.godebug = none := by kernel_rfl
theorem laidOut : laidOutB Try.prog = true := by kernel_rfl
abbrev relRts : List RT := [.slice 2 32 rtFctR, .slice 2 32 rtFctR, rtFctR, rtFctR, rtFctR]

theorem relationHangs_args : ∀ zs, ArgsDR 4294967296 relRts zs → FnP false Try.prog tab tab_ok 3 zs (fun r => r = .d (.bool true)) := by
  rintro zs ⟨x1, l1, rfl, h1, x2, l2, rfl, h2, x3, l3, rfl, h3, x4, l4, rfl, h4, x5, l5, rfl, h5, rfl⟩
  obtain ⟨l, e1, b1, a1⟩ := fcts_argR x1 h1
  obtain ⟨m, e2, b2, a2⟩ := fcts_argR x2 h2
  obtain ⟨f, e3, _⟩ := fct_argR x3 h3
  obtain ⟨g, e4, _⟩ := fct_argR x4 h4
  obtain ⟨i, e5, _⟩ := fct_argR x5 h5
  rw [e1, e2, e3, e4, e5]
  exact relationHangs_fn l m f g i (by omega) (by omega) (fun x hx => by have := a1 x hx; omega) (fun x hx => by have := a2 x hx; omega)

set_option maxRecDepth 100000 in
theorem relationHangs_lifted (os : Os) (started : os.Started) (H : Type) (enc : TypeId × Value → H) (F : Stop.Interp) :
    ReturnsInHanded {} Try.checked os 3 .any ((Rows.OpenSpec.upto Rows.relationHangsSpec).pre6 enc Try.prog Try.f3 Rows.relationHangsUptoRow.domain false) (((Rows.OpenSpec.upto Rows.relationHangsSpec).at F).post enc Try.prog Try.f3 false true false false) := by
  refine law_lifted_cond (C := Try.checked) (s := Rows.OpenSpec.upto Rows.relationHangsSpec) (k := Rows.uptoSmall) (τok := tab_ok) (rs := relRts) (R := 4294967296) (tb := 4) started rfl own (by kernel_rfl) Try.func3
    (OpenSpec.witness (enc := enc) (C := Try.checked) (s := Rows.OpenSpec.upto Rows.relationHangsSpec) (k := Rows.uptoSmall) rfl false ⟨#[], #[.slice none 0 0, .slice none 0 0, .agg #[.int .i64 0, .slice none 0 0], .agg #[.int .i64 0, .slice none 0 0], .agg #[.int .i64 0, .slice none 0 0]], []⟩ 8 (by kernel_rfl) (by kernel_rfl) (by kernel_rfl)
      (x := ([.nil, .nil, .agg [.lit (.int .i64 0), .nil], .agg [.lit (.int .i64 0), .nil], .agg [.lit (.int .i64 0), .nil]], [], [])) (by kernel_rfl) rfl (by kernel_rfl))
    rfl rfl ?_ (by kernel_rfl) (by kernel_rfl) laidOut (by kernel_rfl) (by kernel_rfl) (fun ds hk => upto_weights (rs := relRts) (by kernel_rfl) (by decide) hk) relationHangs_args
  intro ds hd
  have hd : ds.length = 5 := hd
  match ds, hd with
  | [d0, d1, d2, d3, d4], _ => rfl

theorem relationHangs_holds : Rows.RelationHangsUptoSaid :=
  OpenClaim.holds_of_cond 3 Try.f3 rfl rfl rfl rfl rfl rfl rfl ⟨rfl, rfl, rfl, rfl, rfl⟩ rfl rfl rfl rfl rfl (by kernel_rfl) Try.func3 (by kernel_rfl)
    (of_decide_eq_true (by kernel_rfl)) (by unfold Func.isWrapper; first | (rw [if_pos (by decide +kernel)]; kernel_rfl) | (rw [if_neg (by decide +kernel)]; exact ⟨rfl, rfl⟩))
    (fun os started H enc _ F => relationHangs_lifted os started H enc F)
#print axioms relationHangs_holds
end Go.Proofs.Ytapciiffpnociab
