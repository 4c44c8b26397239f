/- Several texts in one: RelL GxRng GxItr RelV RuM RuZ StrB. Condition: none. -/
import Derived.Test.YtapciiffpnociabGreatB15
import Derived.Test.YtapciiffpnociabGreatB08
import Derived.Test.YtapciiffpnociabGreatB18
import Derived.Test.YtapciiffpnociabGreatB22
import Derived.Test.YtapciiffpnociabGreatB20
import Derived.Test.YtapciiffpnociabGreatB14
import Derived.Test.YtapciiffpnociabGreatB10

/- relation.keep. Condition: none. -/
namespace Go.Proofs.YtapciiffpnociabGreat
open Go Go.RowKit
attribute [local irreducible] DW DS DL DQ Ev FnOk FnP thenD inBlockD DT
set_option maxHeartbeats 8000000 in
theorem keep_fn (l : List Fct) (g : FuncId) (caps : List SV) (pr : Fct → Bool) (hlow : SV.lowL 0 caps = true) (hl : l.length ≤ 4398046511104) (hargs : ∀ x ∈ l, x.args.length ≤ 17592186044416) (hg : ∀ x ∈ l, Fn g ([elFct x] ++ caps) (fun r => r = .d (.bool (pr x)))) :
    Fn 145 [.d (.slice 2 (l.map encFct)), .fn g caps] (fun r => ∃ s : List Fct, s.Perm (l.filter pr) ∧ s.Pairwise (fun a b => ordF b a ≥ 0) ∧ r = .d (.slice 2 ((cmpF s).map encFct))) := by
  refine fnp_enter' _ Tryz.func145 rfl rfl (by kernel_rfl) ?_
  intro O w0 E0 β0
  have ll : (l.map encFct).length = l.length := List.length_map _
  have hlows : ∀ k, SV.lowL k caps = true := fun k => SV.lowL_mono k caps hlow
  repeat' ((fail_if_success (apply dw_stop 0)); (first | (apply ds_evC; exact rfl; (with_reducible exact trivial); (with_reducible exact rfl); exact rfl; exact rfl; exact rfl) | apply ds_nil | apply dw_seq2 | (apply ds_region; exact rfl) | apply dw_block | apply thenD_n))
  refine dw_ent (ent_nilrow (t := 5) 95 2 rfl) ?_
  repeat' fail
  refine ds_loop (ι := Nat × List Fct) (fun x => ⟨1, [(1, .fn g caps), (5, .row 0), (8, .d (.slice 2 (l.map encFct))), (9, .d (.int .i64 l.length)), (10, .d (.int .i64 x.1))], [(0, .row 95 2 (x.2.map encFct))]⟩)
    (fun x => x.1 ≤ l.length ∧ x.2 = (l.take x.1).filter pr) (fun x => l.length - x.1) (0, []) ⟨Nat.zero_le _, rfl⟩ (ent_ren id ⟨(SV.ren_id _).symm, rfl, rfl, by rw [← ll]; rfl, rfl, trivial⟩ ⟨rfl, trivial⟩ (by simp [Sl.low, SV.low, hlows]) rfl rfl rfl rfl rfl) ?_
  rintro ⟨i, o⟩ ⟨g1, g2⟩
  dsimp only at g1 g2 ⊢
  have lo : (o.map encFct).length = o.length := List.length_map _
  have hol : o.length ≤ i := by rw [g2]; have := List.length_filter_le pr (l.take i); rw [List.length_take] at this; omega
  by_cases hi : i < l.length
  · have hm := List.getElem_mem hi
    have hx := hg _ hm
    have hw := own_fn l[i] (hargs _ hm)
    have hll : SV.lowL 0 ([elFct l[i]] ++ caps) = true := by simp [SV.lowL, SV.low, hlow]
    have hstep : (l.take (i + 1)).filter pr = o ++ (if pr l[i] then [l[i]] else []) := by
      rw [List.take_succ_eq_append_getElem hi, List.filter_append, ← g2]
      congr 1
      simp [List.filter_cons]
    cases hb : pr l[i] with
    | true =>
      rw [hb] at hx
      rw [hb, if_pos rfl] at hstep
      repeat' (first | (apply ds_evC; exact rfl; (first | (with_reducible exact trivial) | omega); (first | ((with_reducible apply hv_row); (exact rfl); (omega)) | (with_reducible exact rfl)); exact rfl; exact rfl; exact rfl) | apply ds_nil | apply dw_seq2 | (apply ds_region; exact rfl) | apply dw_block | apply dw_skip | apply dw_exit | (apply dw_condT; exact rfl) | apply thenD_n | apply thenD_e | apply inB_n | (apply inB_e; exact rfl) | (apply ds_callV; exact rfl; exact rfl; exact rfl; exact rfl; apply hx; exact rfl; (assumption); exact rfl; rintro _ rfl) | (apply ds_call; exact rfl; exact rfl; apply hw; exact rfl; (exact rfl); exact rfl; rintro _ rfl) | (apply ds_newC; exact rfl; (with_reducible exact trivial); exact rfl; exact rfl; exact rfl) | (apply ds_setC; exact rfl; exact rfl; exact rfl; exact rfl) | (apply ds_bsC; exact rfl; exact rfl; exact rfl; exact rfl) | (apply ds_tradeC; exact rfl; (unfold maxLen; simp <;> omega); exact rfl; exact rfl; exact rfl; exact rfl) | (apply dw_condP; exact rfl; all_goals intro hg))
      all_goals try (exfalso; omega)
      exact ⟨(i + 1, o ++ [l[i]]), ⟨by dsimp only; omega, hstep.symm⟩, ent_ren (fun j => match j with | 0 => 2 | j => j) ⟨(SV.ren_low0 _ (.fn g caps) hlow).symm, rfl, rfl, rfl, rfl, trivial⟩ ⟨by rw [List.map_append]; rfl, trivial⟩ (by simp [Sl.low, SV.low, hlows]) rfl rfl rfl rfl rfl, by show l.length - (i + 1) < l.length - i; omega⟩
    | false =>
      rw [hb] at hx
      rw [hb, if_neg (by simp), List.append_nil] at hstep
      repeat' (first | (apply ds_evC; exact rfl; (first | (with_reducible exact trivial) | omega); (first | ((with_reducible apply hv_row); (exact rfl); (omega)) | (with_reducible exact rfl)); exact rfl; exact rfl; exact rfl) | apply ds_nil | apply dw_seq2 | (apply ds_region; exact rfl) | apply dw_block | apply dw_skip | apply dw_exit | (apply dw_condF; exact rfl) | apply thenD_n | apply thenD_e | apply inB_n | (apply inB_e; exact rfl) | (apply ds_callV; exact rfl; exact rfl; exact rfl; exact rfl; apply hx; exact rfl; (assumption); exact rfl; rintro _ rfl) | (apply ds_newC; exact rfl; (with_reducible exact trivial); exact rfl; exact rfl; exact rfl) | (apply ds_setC; exact rfl; exact rfl; exact rfl; exact rfl) | (apply dw_condP; exact rfl; all_goals intro hg))
      all_goals try (exfalso; omega)
      exact ⟨(i + 1, o), ⟨by dsimp only; omega, hstep.symm⟩, ent_ren id ⟨(SV.ren_low0 _ (.fn g caps) hlow).symm, rfl, rfl, rfl, rfl, trivial⟩ ⟨rfl, trivial⟩ (by simp [Sl.low, SV.low, hlows]) rfl rfl rfl rfl rfl, by show l.length - (i + 1) < l.length - i; omega⟩
  · rw [List.take_of_length_le (by omega)] at g2
    repeat' (first | (apply ds_evC; exact rfl; (first | (with_reducible exact trivial) | omega); (first | ((with_reducible apply hv_row); (exact rfl); (omega)) | (with_reducible exact rfl)); exact rfl; exact rfl; exact rfl) | apply ds_nil | apply dw_seq2 | (apply ds_region; exact rfl) | apply dw_block | apply dw_skip | apply dw_exit | apply thenD_n | apply thenD_e | (apply inB_e; exact rfl) | (apply ds_newC; exact rfl; (with_reducible exact trivial); exact rfl; exact rfl; exact rfl) | (apply ds_setC; exact rfl; exact rfl; exact rfl; exact rfl) | (apply dw_condP; exact rfl; all_goals intro hg))
    all_goals try (exfalso; omega)
    refine ds_sort sortFacts_c o (by kernel_rfl) rfl rfl rfl rfl rfl rfl (by omega) ?_
    intro s hp hs
    have hsl : s.length ≤ 4398046511104 := by rw [hp.length_eq]; omega
    refine ds_ent (ent_ren (k' := 1) (L' := [(5, .row 0)]) (H' := [(0, .row 95 2 (s.map encFct))]) id ⟨rfl, trivial⟩ ⟨rfl, trivial⟩ rfl rfl rfl rfl rfl rfl) ?_
    repeat' (first | (apply ds_evC; exact rfl; (with_reducible exact trivial); (with_reducible exact rfl); exact rfl; exact rfl; exact rfl) | apply ds_nil | apply dw_seq2 | (apply ds_region; exact rfl) | apply thenD_n)
    all_goals try (exfalso; omega)
    (refine ds_callF id (compact_fn s hsl) rfl rfl rfl rfl ⟨rfl, trivial⟩ rfl rfl rfl rfl rfl rfl ?_ ?_)
    · rintro k2 r H2 ⟨rfl, rfl⟩; exact ⟨rfl, rfl⟩
    rintro k2 r H2 ⟨rfl, rfl⟩
    change DS _ _ _ _ _ _ _ _
    repeat' (first | (apply ds_evC; exact rfl; (with_reducible exact trivial); (with_reducible exact rfl); exact rfl; exact rfl; exact rfl) | apply ds_nil | apply dw_ret | apply thenD_n)
    exact ⟨.inl rfl, _, rfl, rfl, s, g2 ▸ hp, hs, rfl⟩
end Go.Proofs.YtapciiffpnociabGreat

/- A plain logic over the walk: a range over a function. No program is named here. Condition: none. -/
namespace Go.Proofs.YtapciiffpnociabGreat
open Go Go.RowKit
def Kepts (L : Sl) : Sl → Prop
  | [] => True
  | (t, s) :: r => Sl.get L t = s ∧ Kepts L r
def params : List Nat → List SV → Sl → Sl
  | p :: ps, s :: ss, L => params ps ss ((p, s) :: L)
  | _, _, L => L
theorem Heap.widen {Γ : Ctx} {k : Nat → Prop} {H : Hp} {e : Env} {w : World} {l : Nat} (h : Heap Γ k H e w) (hl : ¬ Γ.O l) : Heap ⟨Γ.P, Γ.τ, Γ.τok, Γ.O, Γ.w0, fun b => Γ.E0 b ∨ b = l, Γ.n, Γ.J, Γ.β0, Γ.rd, Γ.pan, Γ.mks, Γ.dr⟩ k H e w where
  top := h.top
  heap := h.heap
  ids := h.ids
  nodup := h.nodup
  mine b hb := ⟨(h.mine b hb).1.imp .inl id, (h.mine b hb).2⟩
  os := h.os
  tape := h.tape
  output := h.output
  drawn := h.drawn
  size := h.size
  block b h1 h2 := h.block b h1 fun h => h2 (.inl h)
  obound b hb := ⟨(h.obound b hb).1, fun hx => hx.elim (h.obound b hb).2 fun hx => hl (hx ▸ hb)⟩
  jle := h.jle
  anchor := h.anchor
end Go.Proofs.YtapciiffpnociabGreat

/- A plain logic over the walk: iterators. No program is named here. Condition: none. -/
namespace Go.Proofs.YtapciiffpnociabGreat
open Go Go.RowKit
def SV.flat : SV → Bool
  | .val _ => true
  | .junk => true
  | .d (.int _ _) => true
  | .d (.bool _) => true
  | _ => false
theorem Rel.flat {X e w X' e' w'} : ∀ (s : SV) (v : Value), s.flat = true → Rel X e w s v → Rel X' e' w' s v
  | .val _, _, _, h => h
  | .junk, _, _, _ => trivial
  | .d (.int _ _), _, _, h => by
    have h' : RepC _ _ _ _ := h
    cases h' with
    | int g => exact RepC.int g
  | .d (.bool _), _, _, h => by
    have h : RepC _ _ _ _ := h
    cases h
    exact RepC.bool
  | .d (.str _), _, h, _ => nomatch h
  | .d (.slice _ _), _, h, _ => nomatch h
  | .nils, _, h, _ => nomatch h
  | .pd _, _, h, _ => nomatch h
  | .loc _ _, _, h, _ => nomatch h
  | .row _, _, h, _ => nomatch h
  | .prow _ _ _ _, _, h, _ => nomatch h
  | .sl _ _ _ _, _, h, _ => nomatch h
  | .rsl _ _ _ _, _, h, _ => nomatch h
  | .fn _ _, _, h, _ => nomatch h
  | .agg _, _, h, _ => nomatch h
  | .tup _, _, h, _ => nomatch h
def flatB : Sl → Bool
  | [] => true
  | (_, s) :: r => s.flat && flatB r
theorem flat_get : ∀ {L : Sl}, flatB L = true → ∀ t, (L.get t).flat = true
  | [], _, _ => rfl
  | (d, s) :: r, h, t => by
    simp only [flatB, Bool.and_eq_true] at h
    rw [Sl.get_cons]
    split
    · exact h.1
    · exact flat_get h.2 t
theorem kepts_get {L : Sl} : ∀ {L' : Sl}, Kepts L L' → ∀ t, L'.get t = .junk ∨ L'.get t = L.get t
  | [], _, _ => .inl rfl
  | (d, s) :: r, h, t => by
    rw [Sl.get_cons]
    split
    · rename_i hd; subst hd; exact .inr h.1.symm
    · exact kepts_get h.2 t
structure Flat (N : Nat) (L : Sl) (a : Act) : Prop where
  len : a.tmps.size = N
  defers : a.defers = []
  slot : ∀ t X e w, Rel X e w (L.get t) (a.tmps.getD t undef)
abbrev Γit (P : Program) (τ : List (Nat × TI)) (τok : TabOk P τ) (O : Nat → Prop) (W : World) (N : Nat) : Ctx := ⟨P, τ, τok, O, W, fun _ => False, N, 0, fun _ => (0, undef), none, noPan, false, false⟩
section
variable {P : Program} {τ : List (Nat × TI)} {τok : TabOk P τ} {O : Nat → Prop} {N : Nat} {L : Sl}
theorem Models.flatten {W : World} {k : Nat → Prop} {H : Hp} {e : Env} {a : Act} {w : World} (m : Models (Γit P τ τok O W N) k L H e a w) {Ls : Sl} (hK : Kepts L Ls) (hf : flatB Ls = true) : Flat N Ls a where
  len := m.len
  defers := by
    obtain ⟨rs, h1, h0, _⟩ := m.defers
    rw [h1, h0 rfl]; rfl
  slot t X e' w' := by
    have hg := flat_get hf t
    rcases kepts_get hK t with h | h
    · rw [h]; trivial
    · rw [h] at hg ⊢; exact Rel.flat _ _ hg (m.slot t)
end
section
variable {Γ : Ctx} {k : Nat} {L : Sl} {H : Hp} {K : Next'} {ops : List Oper} {rest : List Oper} {x y : Operand} {t ty : TypeId}
end
section
variable {Γ : Ctx} {k : Nat} {L : Sl} {H : Hp} {R : Exit → Act → World → Prop}
end
section
variable {Γ : Ctx} {k : Nat} {L : Sl} {H : Hp} {R : Exit → Act → World → Prop}
end
end Go.Proofs.YtapciiffpnociabGreat

/- relation.Set, Has. Condition: none. -/
namespace Go.Proofs.YtapciiffpnociabGreat
open Go Go.RowKit
theorem FnP.imp {dr : Bool} {P : Program} {τ : List (Nat × TI)} {τok : TabOk P τ} {f : FuncId} {args : List SV} {R R' : SV → Prop} (h : FnP dr P τ τok f args R) (g : ∀ r, R r → R' r) : FnP dr P τ τok f args R' :=
  ⟨h.1, fun O e w vs hH hr => (h.2 O e w vs hH hr).mono fun _ _ ⟨k', r, H', e', v, ⟨a, b, c⟩, d⟩ => ⟨k', r, H', e', v, ⟨a, b, g r c⟩, d⟩⟩
attribute [local irreducible] DW DS DL DQ Ev FnOk FnP thenD inBlockD DT
theorem keepS_fn (l : List Fct) (g : FuncId) (caps : List SV) (pr : Fct → Bool) (hlow : SV.lowL 0 caps = true) (hl : l.length ≤ 4398046511104) (hargs : ∀ x ∈ l, x.args.length ≤ 17592186044416) (hg : ∀ x ∈ l, Fn g ([elFct x] ++ caps) (fun r => r = .d (.bool (pr x)))) :
    Fn 145 [.d (.slice 2 (l.map encFct)), .fn g caps] (fun r => r = .d (.slice 2 ((setF' (l.filter pr)).map encFct))) :=
  FnP.imp (keep_fn l g caps pr hlow hl hargs hg) fun r ⟨s, h1, h2, h3⟩ => by rw [h3, keep_set h1 h2]
set_option maxHeartbeats 8000000 in
theorem set_fn (l : List Fct) (hl : l.length ≤ 4398046511104) (hargs : ∀ x ∈ l, x.args.length ≤ 17592186044416) : Fn 97 [.d (.slice 2 (l.map encFct))] (fun r => r = .d (.slice 2 ((setF' l).map encFct))) := by
  refine fnp_enter' _ Tryz.func97 rfl rfl (by kernel_rfl) ?_
  intro O w0 E0 β0
  have hk := keepS_fn l 146 [] (fun _ => true) rfl hl hargs (fun x _ => setAny_fn x)
  rw [show l.filter (fun _ => true) = l from List.filter_eq_self.2 fun _ _ => rfl] at hk
  repeat' (first | (apply ds_evC; exact rfl; (with_reducible exact trivial); (with_reducible exact rfl); exact rfl; exact rfl; exact rfl) | apply ds_nil | apply dw_seq2 | (apply ds_region; exact rfl) | apply dw_ret | apply thenD_n | (apply ds_call; exact rfl; exact rfl; apply hk; exact rfl; (exact rfl); exact rfl; rintro _ rfl))
  exact ⟨.inl rfl, _, rfl, rfl, rfl⟩
end Go.Proofs.YtapciiffpnociabGreat

/- The program's rule.Ways, Args. Condition: none. -/
namespace Go.Proofs.YtapciiffpnociabGreat
open Go Go.RowKit
def ruleAt (p : Prg) (n : Int) : Rul := p.rules.getD n.toNat ⟨0, [], 0, [], 0⟩
def wayE (p : Prg) (n : Int) (l : List Fct) : Int := if waysE p n l ≠ 0 then waysE p n l else if manyW (setF' l) (ruleAt p n) then 0 else 2
def wayL (p : Prg) (n : Int) (l : List Fct) : List (List Int) := if waysE p n l = 0 then rawW (setF' l) (ruleAt p n) else []
structure WayOk (p : Prg) (n : Int) (l : List Fct) : Prop where
  prog : progE nameR p = 0
  lo : 0 ≤ n
  hi : n.toNat < p.rules.length
  len : l.length ≤ 60
  facts : ∀ x ∈ l, FctOk p.arity x
  rul : RulR p.arity (ruleAt p n)
  ruls : RulS (setF' l) (ruleAt p n)
  alen : ∀ x ∈ l, x.args.length ≤ 3
  tlen : (ruleAt p n).terms.length ≤ 3
theorem ruleAt_get {p : Prg} {n : Int} (h : n.toNat < p.rules.length) : ruleAt p n = p.rules[n.toNat] := by unfold ruleAt; rw [List.getD, List.getElem?_eq_getElem h]; rfl
theorem rulS_mk {arity : List Int} {S : List Fct} {r : Rul} (hr : RulR arity r) (ha : ∀ i, 0 ≤ arity.getD i 0 ∧ arity.getD i 0 ≤ 3) (hS : ∀ x ∈ S, FctOk arity x) : RulS S r := by
  have hv := hr.vars
  refine ⟨⟨fun l hl => lit_okL (hr.lits l hl) hv.1 hS, fun l hl hk => ?_, fun l hl t ht => ?_, fun x hx => (hS x hx).nums, hr.body, by omega, fun l hl => ?_⟩, safe_Bd hr.safe, hv⟩
  · obtain ⟨_, h2, _⟩ := litE_right (hr.lits l hl)
    unfold opB inR at h2
    rw [if_pos hk] at h2
    simp only [Bool.and_eq_true, decide_eq_true_eq] at h2
    exact h2
  · exact ((litE_right (hr.lits l hl)).2.2.2.2 t ht).2.2
  · obtain ⟨h1, _, h3, h4, _⟩ := litE_right (hr.lits l hl)
    by_cases hk : l.kind = 1 ∨ l.kind = 2
    · have := (h3 hk).2
      have := ha l.pred.toNat
      omega
    · have := (h4 hk).2
      omega
theorem wayOk {p : Prg} {n : Int} {l : List Fct} (h : waysE p n l = 0) : WayOk p n l := by
  unfold waysE at h
  split at h
  · rename_i h1; exact absurd h h1
  rename_i h1
  split at h; · cases h
  rename_i h2
  unfold factsE at h
  split at h; · cases h
  rename_i h3
  have h1 : progE nameR p = 0 := by simpa using h1
  obtain ⟨q1, q2, _, _⟩ := progE_rule h1
  have hi : n.toNat < p.rules.length := by omega
  have hf : ∀ x ∈ l, FctOk p.arity x := fun x hx => factE_ok (firstL_all0 h x hx)
  have hr : RulR p.arity (ruleAt p n) := by rw [ruleAt_get hi]; exact q1 _ (List.getElem_mem hi)
  refine ⟨h1, by omega, hi, by omega, hf, hr, rulS_mk hr q2 fun x hx => hf x (((setF_spec l).2 x).1 hx), fun x hx => ?_, ?_⟩
  · have := (hf x hx).len
    have := q2 x.pred.toNat
    omega
  · have := hr.tlen
    have := q2 (ruleAt p n).pred.toNat
    omega
attribute [local irreducible] DW DS DL DQ Ev FnOk FnP thenD inBlockD DT
set_option maxHeartbeats 8000000 in
theorem args_fn (l : List Trm) (a : List Int) (hok : ∀ t ∈ l, okT a.length t) (hl : l.length ≤ 1000000) : Fn 147 [.d (.slice 2 (l.map encTrm)), .d (.slice 1 (a.map encI))] (fun r => r = .d (.slice 1 ((l.map (vA a)).map encI))) := by
  refine fnp_enter' _ Tryz.func147 rfl rfl (by kernel_rfl) ?_
  intro O w0 E0 β0
  have ll : (l.map encTrm).length = l.length := List.length_map _
  have la : (a.map encI).length = a.length := List.length_map _
  repeat' (first | (apply ds_bs0; exact rfl; exact rfl; exact rfl; exact rfl; exact rfl; exact rfl; exact rfl; exact rfl) | (first | (apply ds_evC; exact rfl; (with_reducible exact trivial); (with_reducible exact rfl); exact rfl; exact rfl; exact rfl) | apply ds_nil | apply dw_seq2 | (apply ds_region; exact rfl) | apply dw_block | apply thenD_n))
  refine ds_loop (ι := Nat) (fun i => ⟨1, [(0, .d (.slice 2 (l.map encTrm))), (1, .d (.slice 1 (a.map encI))), (5, .row 0), (9, .d (.slice 2 (l.map encTrm))), (10, .d (.int .i64 l.length)), (11, .d (.int .i64 i))], [(0, .row 3 1 (((l.take i).map (vA a)).map encI))]⟩)
    (fun i => i ≤ l.length) (fun i => l.length - i) 0 (Nat.zero_le _) (ent_ren id ⟨rfl, rfl, rfl, rfl, by rw [← ll]; rfl, rfl, trivial⟩ ⟨rfl, trivial⟩ rfl rfl rfl rfl rfl rfl) ?_
  intro i g1
  by_cases hi : i < l.length
  · have ho := hok _ (List.getElem_mem hi)
    unfold okT at ho
    have ht : l.take (i + 1) = l.take i ++ [l[i]] := List.take_succ_eq_append_getElem hi
    by_cases hv : l[i].var < 0
    · have hva : vA a l[i] = l[i].n := by unfold vA; rw [if_pos hv]
      repeat' (first | (apply ds_evC; exact rfl; (first | (with_reducible exact trivial) | omega); (first | ((with_reducible apply hv_row); (first | exact rfl | exact (Int.toNat_of_nonneg (by omega)).symm); (omega)) | (with_reducible exact rfl)); exact rfl; exact rfl; exact rfl) | apply ds_nil | apply dw_seq2 | (apply ds_region; exact rfl) | apply dw_block | apply dw_skip | apply dw_exit | apply thenD_n | apply thenD_e | apply inB_n | (apply inB_e; exact rfl) | (apply ds_newC; exact rfl; (with_reducible exact trivial); exact rfl; exact rfl; exact rfl) | (apply ds_setC; exact rfl; exact rfl; exact rfl; exact rfl) | (apply ds_bsC; exact rfl; exact rfl; exact rfl; exact rfl) | (apply ds_tradeC; exact rfl; (first | omega | (unfold maxLen; simp <;> omega)); exact rfl; exact rfl; exact rfl; exact rfl) | (apply dw_condP; exact rfl; all_goals intro hg))
      all_goals try (exfalso; omega)
      exact ⟨i + 1, hi, ent_ren (fun _ => 2) ⟨rfl, rfl, rfl, rfl, rfl, rfl, trivial⟩ ⟨by rw [ht, List.map_append, List.map_append, List.map_singleton, hva]; rfl, trivial⟩ rfl rfl rfl rfl rfl rfl, by omega⟩
    · have hlt : l[i].var.toNat < a.length := by omega
      have hva : vA a l[i] = a[l[i].var.toNat] := by unfold vA; rw [if_neg hv, List.getD, List.getElem?_eq_getElem hlt]; rfl
      repeat' (first | (apply ds_evC; exact rfl; (first | (with_reducible exact trivial) | omega); (first | ((with_reducible apply hv_row); (first | exact rfl | exact (Int.toNat_of_nonneg (by omega)).symm); (omega)) | (with_reducible exact rfl)); exact rfl; exact rfl; exact rfl) | apply ds_nil | apply dw_seq2 | (apply ds_region; exact rfl) | apply dw_block | apply dw_skip | apply dw_exit | apply thenD_n | apply thenD_e | apply inB_n | (apply inB_e; exact rfl) | (apply ds_newC; exact rfl; (with_reducible exact trivial); exact rfl; exact rfl; exact rfl) | (apply ds_setC; exact rfl; exact rfl; exact rfl; exact rfl) | (apply ds_bsC; exact rfl; exact rfl; exact rfl; exact rfl) | (apply ds_tradeC; exact rfl; (first | omega | (unfold maxLen; simp <;> omega)); exact rfl; exact rfl; exact rfl; exact rfl) | (apply dw_condP; exact rfl; all_goals intro hg))
      all_goals try (exfalso; omega)
      exact ⟨i + 1, hi, ent_ren (fun _ => 2) ⟨rfl, rfl, rfl, rfl, rfl, rfl, trivial⟩ ⟨by rw [ht, List.map_append, List.map_append, List.map_singleton, hva]; rfl, trivial⟩ rfl rfl rfl rfl rfl rfl, by omega⟩
  · rw [List.take_of_length_le (by omega)]
    repeat' (first | (apply ds_evC; exact rfl; (first | (with_reducible exact trivial) | omega); (first | ((with_reducible apply hv_row); (first | exact rfl | exact (Int.toNat_of_nonneg (by omega)).symm); (omega)) | (with_reducible exact rfl)); exact rfl; exact rfl; exact rfl) | apply ds_nil | apply dw_seq2 | (apply ds_region; exact rfl) | apply dw_block | apply dw_skip | apply dw_exit | apply thenD_n | apply thenD_e | apply inB_n | (apply inB_e; exact rfl) | (apply ds_newC; exact rfl; (with_reducible exact trivial); exact rfl; exact rfl; exact rfl) | (apply ds_setC; exact rfl; exact rfl; exact rfl; exact rfl) | (apply ds_bsC; exact rfl; exact rfl; exact rfl; exact rfl) | (apply ds_tradeC; exact rfl; (omega); exact rfl; exact rfl; exact rfl; exact rfl) | (apply dw_condP; exact rfl; all_goals intro hg))
    all_goals try (exfalso; omega)
    refine dw_ent (ent_seal 4 rfl rfl rfl) ?_
    repeat' (apply dw_ret)
    exact ⟨.inl rfl, _, rfl, rfl, rfl⟩
set_option maxHeartbeats 8000000 in
theorem ways_fn (p : Prg) (n : Int) (l : List Fct) : Fn 36 [elPrg p, .d (.int .i64 n), .d (.slice 2 (l.map encFct))] (fun r => r = .tup [.d (.slice 1 ((wayL p n l).map encW)), .d (.int .i64 (wayE p n l))]) := by
  refine fnp_enter' _ Tryz.func36 rfl rfl (by kernel_rfl) ?_
  intro O w0 E0 β0
  have w1 := ready_fn p n l
  unfold wayL wayE
  by_cases h0 : waysE p n l ≠ 0
  · rw [if_pos h0, if_neg h0]
    repeat' (first | (apply ds_evC; exact rfl; (with_reducible exact trivial); (with_reducible exact rfl); exact rfl; exact rfl; exact rfl) | apply ds_nil | (apply dt_ev; exact rfl; exact rfl; (first | (with_reducible exact trivial) | omega); (first | ((with_reducible apply hv_row); (exact (Int.toNat_of_nonneg (by omega)).symm); (omega)) | (with_reducible exact rfl)); exact rfl; exact rfl; exact rfl; exact rfl) | apply dw_seq2 | (apply ds_region; exact rfl) | (apply dw_any; kernel_rfl; kernel_rfl; exact rfl; exact rfl) | apply dw_skip | apply thenD_n | (apply ds_call; exact rfl; exact rfl; apply w1; exact rfl; (exact rfl); exact rfl; rintro _ rfl) | (apply ds_newC; exact rfl; (with_reducible exact trivial); exact rfl; exact rfl; exact rfl) | (apply dw_condP; exact rfl; all_goals intro hg))
    all_goals try (exfalso; omega)
    refine dw_ent (ent_nild 6 1 rfl) ?_
    repeat' (first | apply dw_ret | apply thenD_r)
    exact ⟨.inl rfl, _, rfl, rfl, rfl⟩
  · rw [if_neg h0]
    have h0 : waysE p n l = 0 := by simpa using h0
    rw [if_pos h0]
    have hw := wayOk h0
    have hlo := hw.lo
    have hhi := hw.hi
    have lr : (p.rules.map encRul).length = p.rules.length := List.length_map _
    have w2 := set_fn l (by have := hw.len; omega) (fun x hx => by have := hw.alen x hx; omega)
    have hSl : (setF' l).length ≤ 60 := by have := setF_len l []; have := hw.len; show ((l.foldl insF []).length) ≤ 60; simp at *; omega
    have w3 := raw_fn (setF' l) (ruleAt p n) (setF_spec l).1 (by omega) hw.ruls
    unfold rawW at w3 ⊢
    rw [ruleAt_get hhi] at w3 ⊢
    clear hw
    cases hm : manyW (setF' l) p.rules[n.toNat] with
    | true =>
      rw [hm] at w3
      rw [if_pos rfl, if_pos rfl]
      rw [if_pos rfl] at w3
      repeat' (first | (apply ds_evC; exact rfl; (with_reducible exact trivial); (with_reducible exact rfl); exact rfl; exact rfl; exact rfl) | apply ds_nil | (apply dt_ev; exact rfl; exact rfl; (first | (with_reducible exact trivial) | omega); (first | ((with_reducible apply hv_row); (exact (Int.toNat_of_nonneg (by omega)).symm); (omega)) | (with_reducible exact rfl)); exact rfl; exact rfl; exact rfl; exact rfl) | (apply dt_nil0; exact rfl; exact rfl; exact rfl; exact rfl) | apply dw_seq2 | (apply ds_region; exact rfl) | (apply dw_any; kernel_rfl; kernel_rfl; exact rfl; exact rfl) | apply dw_skip | apply dw_ret | (apply dw_condF; exact rfl) | apply thenD_n | apply thenD_r | (apply ds_call; exact rfl; exact rfl; apply w1; exact rfl; (exact rfl); exact rfl; rintro _ rfl) | (apply dt_call; exact rfl; exact rfl; apply w2; exact rfl; (exact rfl); exact rfl; exact rfl; exact ⟨_, rfl⟩; rintro _ rfl) | (apply dt_call; exact rfl; exact rfl; apply w3; exact rfl; (exact rfl); exact rfl; exact rfl; exact ⟨_, rfl⟩; rintro _ rfl) | (apply ds_newC; exact rfl; (with_reducible exact trivial); exact rfl; exact rfl; exact rfl) | (apply dw_condP; exact rfl; all_goals intro hg))
      all_goals try (exfalso; omega)
      exact ⟨.inl rfl, _, rfl, rfl, rfl⟩
    | false =>
      rw [hm] at w3
      rw [if_neg (by simp), if_neg (by simp)]
      rw [if_neg (by simp)] at w3
      repeat' (first | (apply ds_evC; exact rfl; (with_reducible exact trivial); (with_reducible exact rfl); exact rfl; exact rfl; exact rfl) | apply ds_nil | (apply dt_ev; exact rfl; exact rfl; (first | (with_reducible exact trivial) | omega); (first | ((with_reducible apply hv_row); (exact (Int.toNat_of_nonneg (by omega)).symm); (omega)) | (with_reducible exact rfl)); exact rfl; exact rfl; exact rfl; exact rfl) | (apply dt_nil0; exact rfl; exact rfl; exact rfl; exact rfl) | apply dw_seq2 | (apply ds_region; exact rfl) | (apply dw_any; kernel_rfl; kernel_rfl; exact rfl; exact rfl) | apply dw_skip | (apply dw_condT; exact rfl) | apply thenD_n | (apply ds_call; exact rfl; exact rfl; apply w1; exact rfl; (exact rfl); exact rfl; rintro _ rfl) | (apply dt_call; exact rfl; exact rfl; apply w2; exact rfl; (exact rfl); exact rfl; exact rfl; exact ⟨_, rfl⟩; rintro _ rfl) | (apply dt_call; exact rfl; exact rfl; apply w3; exact rfl; (exact rfl); exact rfl; exact rfl; exact ⟨_, rfl⟩; rintro _ rfl) | (apply ds_newC; exact rfl; (with_reducible exact trivial); exact rfl; exact rfl; exact rfl) | (apply dw_condP; exact rfl; all_goals intro hg))
      all_goals try (exfalso; omega)
      refine dw_ent (ent_nild 6 1 rfl) ?_
      repeat' (first | apply dw_ret | apply thenD_r)
      exact ⟨.inl rfl, _, rfl, rfl, rfl⟩
end Go.Proofs.YtapciiffpnociabGreat

/- The program's slices.Min, Max and rule.folded. Condition: none. -/
namespace Go.Proofs.YtapciiffpnociabGreat
open Go Go.RowKit
section
variable {Γ : Ctx} {k : Nat} {L : Sl} {H : Hp} {K : Next'} {ops : List Oper} {rest : List Oper} {q : Bool} {x y : Operand}
theorem ds_min {d t t2 ty : Nat} {pos : String} {af : Array Edge} {g : Option (Nat × Bool)} {m n : Int} (hx : opSV L x = .d (.int .i64 m)) (hy : opSV L y = .d (.int .i64 n)) (hxo : opOkB x = true) (hyo : opOkB y = true) (hw : wantedSV ops L g = some true) (hd : Nat.blt d Γ.n = true)
    (hk : DS q Γ ops rest K k ((d, .d (.int .i64 (minI m n))) :: L) H) : DS q Γ ops (⟨some d, .call { callee := .builtin .min, args := #[x, y], argTypes := #[t, t2] }, ty, pos, af, g⟩ :: rest) K k L H := by
  refine ds_ev (s := .d (.int .i64 (minI m n))) (fun e a w m' => ⟨.int .i64 (minI m n), fun _ _ _ _ w' _ => ?_, RepC.int ?_⟩) hw hd hk
  · simp [execOp, resolve, invoke, builtin, evI m' hx, evI m' hy, Builtin.min_, Builtin.min2, minI]
  · have h1 := evIw m' hxo hx
    have h2 := evIw m' hyo hy
    unfold minI; split <;> assumption
theorem ds_max {d t t2 ty : Nat} {pos : String} {af : Array Edge} {g : Option (Nat × Bool)} {m n : Int} (hx : opSV L x = .d (.int .i64 m)) (hy : opSV L y = .d (.int .i64 n)) (hxo : opOkB x = true) (hyo : opOkB y = true) (hw : wantedSV ops L g = some true) (hd : Nat.blt d Γ.n = true)
    (hk : DS q Γ ops rest K k ((d, .d (.int .i64 (maxI m n))) :: L) H) : DS q Γ ops (⟨some d, .call { callee := .builtin .max, args := #[x, y], argTypes := #[t, t2] }, ty, pos, af, g⟩ :: rest) K k L H := by
  refine ds_ev (s := .d (.int .i64 (maxI m n))) (fun e a w m' => ⟨.int .i64 (maxI m n), fun _ _ _ _ w' _ => ?_, RepC.int ?_⟩) hw hd hk
  · simp [execOp, resolve, invoke, builtin, evI m' hx, evI m' hy, Builtin.max_, Builtin.max2, maxI]
  · have h1 := evIw m' hxo hx
    have h2 := evIw m' hyo hy
    unfold maxI; split <;> assumption
end
theorem fold_take {f : Int → Int → Int} {x : Int} {l : List Int} {i : Nat} (hi : i < l.length) : (l.take (i + 1)).foldl f x = f ((l.take i).foldl f x) l[i] := by
  rw [List.take_succ_eq_append_getElem hi, List.foldl_append]; rfl
theorem sumI_take {l : List Int} {i : Nat} (hi : i < l.length) : (l.take (i + 1)).sum = (l.take i).sum + l[i] := by
  rw [List.take_succ_eq_append_getElem hi, List.sum_append]; simp
theorem sum_bd : ∀ (l : List Int), (∀ x ∈ l, -1000000 ≤ x ∧ x ≤ 1000000) → -1000000 * (l.length : Int) ≤ l.sum ∧ l.sum ≤ 1000000 * (l.length : Int)
  | [], _ => by simp
  | x :: l, h => by
    have h1 := sum_bd l fun y hy => h y (List.mem_cons_of_mem _ hy)
    have h2 := h x (List.mem_cons_self ..)
    rw [List.sum_cons, List.length_cons]; omega
attribute [local irreducible] DW DS DL DQ Ev FnOk FnP thenD inBlockD DT
set_option maxHeartbeats 8000000 in
theorem min_fn (x : Int) (l : List Int) : Fn 196 [.d (.slice 1 ((x :: l).map encI))] (fun r => r = .d (.int .i64 (minL (x :: l)))) := by
  refine fnp_enter' _ Tryz.func196 rfl rfl (by kernel_rfl) ?_
  intro O w0 E0 β0
  have la : ((x :: l).map encI).length = l.length + 1 := List.length_map _
  refine dw_len (t := 0) rfl (fun hk => ?_)
  repeat' (first | (apply ds_evC; exact rfl; (first | (with_reducible exact trivial) | omega); (first | ((with_reducible apply hv_row); (exact nat_lit_0); (omega)) | (with_reducible exact rfl)); exact rfl; exact rfl; exact rfl) | apply ds_nil | apply dw_seq2 | (apply ds_region; exact rfl) | apply dw_block | apply dw_skip | (apply dw_condF; exact rfl) | apply thenD_n)
  all_goals try (exfalso; omega)
  refine ds_loop (ι := Nat) (fun i => ⟨0, [(0, .d (.slice 1 ((x :: l).map encI))), (3, .d (.int .i64 ((l.take i).foldl minI x))), (4, .d (.int .i64 ((i + 1 : Nat) : Int)))], []⟩)
    (fun i => i ≤ l.length) (fun i => l.length - i) 0 (Nat.zero_le _) (ent_ren id ⟨rfl, rfl, rfl, trivial⟩ trivial rfl rfl rfl rfl rfl rfl) ?_
  intro i g1
  dsimp only at g1 ⊢
  by_cases hi : i < l.length
  · have hst := fold_take (f := minI) (x := x) hi
    repeat' (first | (refine ds_min rfl rfl rfl rfl rfl rfl ?_) | (first | (apply ds_evC; exact rfl; (first | (with_reducible exact trivial) | omega); (first | ((with_reducible apply hv_row); (exact nat_add_1 _); (omega)) | (with_reducible exact rfl)); exact rfl; exact rfl; exact rfl) | apply ds_nil | apply dw_seq2 | (apply ds_region; exact rfl) | apply dw_block | apply dw_skip | apply dw_exit | apply dw_ret | apply thenD_n | apply thenD_e | apply inB_n | (apply inB_e; exact rfl) | (apply dw_condP; exact rfl; all_goals intro hg)))
    all_goals try (exfalso; omega)
    exact ⟨i + 1, hi, ent_ren id ⟨rfl, by rw [hst]; rfl, rfl, trivial⟩ trivial rfl rfl rfl rfl rfl rfl, by omega⟩
  · rw [List.take_of_length_le (by omega)]
    repeat' (first | (apply ds_evC; exact rfl; (first | (with_reducible exact trivial) | omega); (first | ((with_reducible apply hv_row); (exact nat_add_1 _); (omega)) | (with_reducible exact rfl)); exact rfl; exact rfl; exact rfl) | apply ds_nil | apply dw_seq2 | (apply ds_region; exact rfl) | apply dw_block | apply dw_skip | apply dw_exit | apply dw_ret | apply thenD_n | apply thenD_e | (apply inB_e; exact rfl) | (apply dw_condP; exact rfl; all_goals intro hg))
    all_goals try (exfalso; omega)
    exact ⟨.inl rfl, _, rfl, rfl, rfl⟩
set_option maxHeartbeats 8000000 in
theorem max_fn (x : Int) (l : List Int) : Fn 197 [.d (.slice 1 ((x :: l).map encI))] (fun r => r = .d (.int .i64 (maxL (x :: l)))) := by
  refine fnp_enter' _ Tryz.func197 rfl rfl (by kernel_rfl) ?_
  intro O w0 E0 β0
  have la : ((x :: l).map encI).length = l.length + 1 := List.length_map _
  refine dw_len (t := 0) rfl (fun hk => ?_)
  repeat' (first | (apply ds_evC; exact rfl; (first | (with_reducible exact trivial) | omega); (first | ((with_reducible apply hv_row); (exact nat_lit_0); (omega)) | (with_reducible exact rfl)); exact rfl; exact rfl; exact rfl) | apply ds_nil | apply dw_seq2 | (apply ds_region; exact rfl) | apply dw_block | apply dw_skip | (apply dw_condF; exact rfl) | apply thenD_n)
  all_goals try (exfalso; omega)
  refine ds_loop (ι := Nat) (fun i => ⟨0, [(0, .d (.slice 1 ((x :: l).map encI))), (3, .d (.int .i64 ((l.take i).foldl maxI x))), (4, .d (.int .i64 ((i + 1 : Nat) : Int)))], []⟩)
    (fun i => i ≤ l.length) (fun i => l.length - i) 0 (Nat.zero_le _) (ent_ren id ⟨rfl, rfl, rfl, trivial⟩ trivial rfl rfl rfl rfl rfl rfl) ?_
  intro i g1
  dsimp only at g1 ⊢
  by_cases hi : i < l.length
  · have hst := fold_take (f := maxI) (x := x) hi
    repeat' (first | (refine ds_max rfl rfl rfl rfl rfl rfl ?_) | (first | (apply ds_evC; exact rfl; (first | (with_reducible exact trivial) | omega); (first | ((with_reducible apply hv_row); (exact nat_add_1 _); (omega)) | (with_reducible exact rfl)); exact rfl; exact rfl; exact rfl) | apply ds_nil | apply dw_seq2 | (apply ds_region; exact rfl) | apply dw_block | apply dw_skip | apply dw_exit | apply dw_ret | apply thenD_n | apply thenD_e | apply inB_n | (apply inB_e; exact rfl) | (apply dw_condP; exact rfl; all_goals intro hg)))
    all_goals try (exfalso; omega)
    exact ⟨i + 1, hi, ent_ren id ⟨rfl, by rw [hst]; rfl, rfl, trivial⟩ trivial rfl rfl rfl rfl rfl rfl, by omega⟩
  · rw [List.take_of_length_le (by omega)]
    repeat' (first | (apply ds_evC; exact rfl; (first | (with_reducible exact trivial) | omega); (first | ((with_reducible apply hv_row); (exact nat_add_1 _); (omega)) | (with_reducible exact rfl)); exact rfl; exact rfl; exact rfl) | apply ds_nil | apply dw_seq2 | (apply ds_region; exact rfl) | apply dw_block | apply dw_skip | apply dw_exit | apply dw_ret | apply thenD_n | apply thenD_e | (apply inB_e; exact rfl) | (apply dw_condP; exact rfl; all_goals intro hg))
    all_goals try (exfalso; omega)
    exact ⟨.inl rfl, _, rfl, rfl, rfl⟩
set_option maxHeartbeats 8000000 in
theorem folded_fn (fold : Int) (l : List Int) (hl : l ≠ []) (hn : ∀ x ∈ l, -1000000 ≤ x ∧ x ≤ 1000000) (hlen : l.length ≤ 1000000) : Fn 150 [.d (.int .i64 fold), .d (.slice 1 (l.map encI))] (fun r => r = .tup [.d (.int .i64 (valP fold l)), .d (.bool (okP fold l))]) := by
  refine fnp_enter' _ Tryz.func150 rfl rfl (by kernel_rfl) ?_
  intro O w0 E0 β0
  have la : (l.map encI).length = l.length := List.length_map _
  have w3 := min_fn (l.headD 0) l.tail
  have w4 := max_fn (l.headD 0) l.tail
  rw [show l.headD 0 :: l.tail = l by cases l with | nil => exact absurd rfl hl | cons x l => rfl] at w3 w4
  have w5 := snumber_fn l.sum
  repeat' ((fail_if_success (apply dw_stopR 8)); (first | (apply ds_evC; exact rfl; (with_reducible exact trivial); (with_reducible exact rfl); exact rfl; exact rfl; exact rfl) | apply ds_nil | apply dw_seq2 | (apply ds_region; exact rfl) | apply dw_block | apply dw_skip | apply dw_ret | apply thenD_n | apply thenD_r | apply inB_n | apply inB_r | (apply ds_call; exact rfl; exact rfl; apply w3; exact rfl; (exact rfl); exact rfl; rintro _ rfl) | (apply ds_call; exact rfl; exact rfl; apply w4; exact rfl; (exact rfl); exact rfl; rintro _ rfl) | (apply dw_condP; exact rfl; all_goals intro hg)))
  · exact ⟨.inl rfl, .tup [.d (.int .i64 (l.map encI).length), .d (.bool true)], rfl, rfl, by unfold valP okP; simp_all⟩
  · exact ⟨.inl rfl, .tup [.d (.int .i64 (minL l)), .d (.bool true)], rfl, rfl, by unfold valP okP; simp_all⟩
  · exact ⟨.inl rfl, .tup [.d (.int .i64 (maxL l)), .d (.bool true)], rfl, rfl, by unfold valP okP; simp_all⟩
  refine dw_len (t := 1) rfl (fun hk => ?_)
  repeat' fail
  refine ds_loop (ι := Nat) (fun i => ⟨0, [(1, .d (.slice 1 (l.map encI))), (6, .d (.int .i64 (l.take i).sum)), (22, .d (.slice 1 (l.map encI))), (23, .d (.int .i64 l.length)), (24, .d (.int .i64 i))], []⟩)
    (fun i => i ≤ l.length) (fun i => l.length - i) 0 (Nat.zero_le _) (ent_ren id ⟨rfl, rfl, rfl, by rw [← la]; rfl, rfl, trivial⟩ trivial rfl rfl rfl rfl rfl rfl) ?_
  intro i g1
  dsimp only at g1 ⊢
  by_cases hi : i < l.length
  · have hst := sumI_take hi
    have hb := sum_bd (l.take (i + 1)) fun x hx => hn x (List.mem_of_mem_take hx)
    have hx := hn l[i] (List.getElem_mem hi)
    rw [List.length_take] at hb
    repeat' (first | (apply ds_evC; exact rfl; (first | (with_reducible exact trivial) | omega); (first | ((with_reducible apply hv_row); (exact rfl); (omega)) | (with_reducible exact rfl)); exact rfl; exact rfl; exact rfl) | apply ds_nil | apply dw_seq2 | (apply ds_region; exact rfl) | apply dw_block | apply dw_skip | apply dw_exit | apply thenD_n | apply thenD_e | apply inB_n | (apply inB_e; exact rfl) | (apply dw_condP; exact rfl; all_goals intro hg))
    all_goals try (exfalso; omega)
    exact ⟨i + 1, hi, ent_ren id ⟨rfl, by rw [hst]; rfl, rfl, rfl, rfl, trivial⟩ trivial rfl rfl rfl rfl rfl rfl, by omega⟩
  · rw [List.take_of_length_le (by omega)]
    repeat' (first | (apply ds_evC; exact rfl; (first | (with_reducible exact trivial) | omega); (first | ((with_reducible apply hv_row); (exact rfl); (omega)) | (with_reducible exact rfl)); exact rfl; exact rfl; exact rfl) | apply ds_nil | apply dw_seq2 | (apply ds_region; exact rfl) | apply dw_block | apply dw_skip | apply dw_exit | apply dw_ret | apply thenD_n | apply thenD_e | apply inB_n | (apply inB_e; exact rfl) | (apply ds_call; exact rfl; exact rfl; apply w5; exact rfl; (exact rfl); exact rfl; rintro _ rfl) | (apply dw_condP; exact rfl; all_goals intro hg))
    all_goals try (exfalso; omega)
    exact ⟨.inl rfl, .tup [.d (.int .i64 l.sum), .d (.bool (numB l.sum))], rfl, rfl, by unfold valP okP; simp_all⟩
end Go.Proofs.YtapciiffpnociabGreat

/- The document's SameInts, sameOwnTerms. Condition: none. -/
namespace Go.Proofs.YtapciiffpnociabGreat
open Go Go.RowKit
attribute [local irreducible] DW DS DL DQ Ev FnOk FnP thenD inBlockD DT
def sameI (a b : Int) : Bool := decide (a = b)
theorem ne_not {a b : Int} {c : Bool} (h : decide (a ≠ b) = !c) : sameI a b = c := by
  unfold sameI
  cases c <;> simp_all
set_option maxHeartbeats 8000000 in
theorem sameInts_fn (l m : List (Int)) : Fn 103 [.d (.slice 1 (l.map encI)), .d (.slice 1 (m.map encI))] (fun r => r = .d (.bool (sameL sameI l m))) := by
  refine fnp_enter' _ Tryz.func103 rfl rfl (by kernel_rfl) ?_
  intro O w0 E0 β0
  refine dw_len_map (t := 0) rfl fun hb => ?_
  repeat' (first | (apply ds_evC; exact rfl; (with_reducible exact trivial); (with_reducible exact rfl); exact rfl; exact rfl; exact rfl) | apply ds_nil | apply dw_seq2 | (apply ds_region; exact rfl) | apply thenD_n)
  refine dw_condP rfl (fun h => ?_) (fun h => ?_)
  · have hne : l.length ≠ m.length := by rw [List.length_map, List.length_map] at h; omega
    repeat' (first | (apply ds_evC; exact rfl; (with_reducible exact trivial); (with_reducible exact rfl); exact rfl; exact rfl; exact rfl) | apply ds_nil | apply dw_seq2 | (apply ds_region; exact rfl) | apply dw_ret | apply thenD_n | apply thenD_r)
    exact ret_b rfl (sameL_len _ _ _ hne).symm
  · have hlen : l.length = m.length := by rw [List.length_map, List.length_map] at h; omega
    repeat' (first | (apply ds_evC; exact rfl; (with_reducible exact trivial); (with_reducible exact rfl); exact rfl; exact rfl; exact rfl) | apply ds_nil | apply dw_seq2 | (apply ds_region; exact rfl) | apply dw_block | apply dw_skip | apply thenD_n)
    refine ds_loop (ι := Nat) (fun i => ⟨0, [(0, .d (.slice 1 (l.map encI))), (1, .d (.slice 1 (m.map encI))), (5, .d (.int .i64 i))], []⟩)
      (fun i => i ≤ l.length ∧ sameL sameI l m = sameL sameI (l.drop i) (m.drop i)) (fun i => l.length - i) 0 ⟨Nat.zero_le _, rfl⟩
      (ent_ren id ⟨rfl, rfl, rfl, trivial⟩ trivial rfl rfl rfl rfl rfl rfl) ?_
    rintro i ⟨h1, h2⟩
    repeat' (first | (apply ds_evC; exact rfl; (with_reducible exact trivial); (with_reducible exact rfl); exact rfl; exact rfl; exact rfl) | apply ds_nil | apply dw_seq2 | (apply ds_region; exact rfl) | apply thenD_n)
    refine dw_condP rfl (fun h => ?_) (fun h => ?_)
    · have hi : i < l.length := by rw [List.length_map] at h; omega
      have hm : i < m.length := by omega
      have hd := sameL_drop sameI l m i hi hm
      repeat' (first | (apply dt_ev; exact rfl; exact rfl; (first | (with_reducible exact trivial) | omega); (first | ((with_reducible apply hv_row); (exact rfl); (omega)) | (with_reducible exact rfl)); exact rfl; exact rfl; exact rfl; exact rfl) | (apply dt_nil0; exact rfl; exact rfl; exact rfl; exact rfl) | apply dw_seq2 | (apply dw_any; kernel_rfl; kernel_rfl; exact rfl; exact rfl) | apply dw_block | apply dw_skip | apply thenD_n)
      refine dw_cond rfl (fun hb => ?_) (fun hb => ?_)
      · have hp : sameI l[i] m[i] = false := by exact ne_not hb
        repeat' (first | (apply ds_evC; exact rfl; (with_reducible exact trivial); (with_reducible exact rfl); exact rfl; exact rfl; exact rfl) | apply ds_nil | apply dw_seq2 | (apply ds_region; exact rfl) | apply dw_ret | apply thenD_n | apply thenD_r | apply inB_r)
        exact ret_b rfl (by rw [h2, hd, hp]; rfl)
      · have hp : sameI l[i] m[i] = true := by exact ne_not hb
        repeat' (first | (apply ds_evC; exact rfl; (first | (with_reducible exact trivial) | omega); (with_reducible exact rfl); exact rfl; exact rfl; exact rfl) | apply ds_nil | (apply ds_region; exact rfl) | apply dw_skip | apply thenD_n | apply inB_n)
        exact ⟨i + 1, ⟨hi, by rw [h2, hd, hp]; rfl⟩, ent_ren id ⟨rfl, rfl, rfl, trivial⟩ trivial rfl rfl rfl rfl rfl rfl, by omega⟩
    · repeat' (first | (apply ds_evC; exact rfl; (with_reducible exact trivial); (with_reducible exact rfl); exact rfl; exact rfl; exact rfl) | apply ds_nil | apply dw_seq2 | (apply ds_region; exact rfl) | apply dw_exit | apply dw_ret | apply thenD_n | apply thenD_e | (apply inB_e; exact rfl))
      exact ret_b rfl (by rw [h2, sameL_end _ _ _ _ (by rw [List.length_map] at h; omega) (by rw [List.length_map] at h; omega)])
end Go.Proofs.YtapciiffpnociabGreat
