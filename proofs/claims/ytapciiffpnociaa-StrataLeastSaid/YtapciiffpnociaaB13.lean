/- Several texts in one: StrE StrL StrM GxNil StrA. Condition: none. -/
import Derived.Test.YtapciiffpnociaaB12
import Derived.Test.YtapciiffpnociaaB09
import Derived.Test.YtapciiffpnociaaB07
import Derived.Lib.SliceRun

/- The program's needs. Condition: none. -/
namespace Go.Proofs.Ytapciiffpnociaa
open Go Go.RowKit
attribute [local irreducible] DW DS DL DQ Ev FnOk FnP thenD inBlockD DWr

abbrev svI (v : Int) : SV := .d (.int .i64 v)
/-- Where what is left lies. -/
def qOk (left : List Int) (off cap : Nat) (cs : List SV) : Prop := off + cap ≤ cs.length ∧ (cs.drop off).take left.length = left.map svI ∧ left.length ≤ cap
theorem qOk.head {n : Int} {left : List Int} {off cap : Nat} {cs : List SV} (h : qOk (n :: left) off cap cs) : cs[off]? = some (svI n) := by
  obtain ⟨h1, h2, h3⟩ := h
  have : ((cs.drop off).take (n :: left).length)[0]? = some (svI n) := by rw [h2]; rfl
  rw [List.getElem?_take, List.getElem?_drop] at this
  simpa using this
theorem qOk.tail {n : Int} {left : List Int} {off cap : Nat} {cs : List SV} (h : qOk (n :: left) off cap cs) : qOk left (off + 1) (cap - 1) cs := by
  obtain ⟨h1, h2, h3⟩ := h
  simp only [List.length_cons] at h2 h3
  refine ⟨by omega, ?_, by omega⟩
  have h4 : ((cs.drop off).take (left.length + 1)).drop 1 = left.map svI := by rw [h2]; rfl
  rw [List.drop_take, List.drop_drop] at h4
  simpa using h4
theorem qOk.push {x : Int} {left : List Int} {off cap : Nat} {cs : List SV} (h : qOk left off cap cs) (hr : left.length + 1 ≤ cap) : qOk (left ++ [x]) off cap (splice cs (off + left.length * 1) [svI x]) := by
  obtain ⟨h1, h2, h3⟩ := h
  have hl : left.length ≤ (cs.drop off).length := by rw [List.length_drop]; omega
  refine ⟨by unfold splice; simp; omega, ?_, by simpa using hr⟩
  unfold splice
  rw [Nat.mul_one, List.length_append, List.length_singleton, List.map_append, ← h2, List.append_assoc, List.drop_append_of_le_length (by simp; omega), List.drop_take]
  rw [show off + left.length - off = left.length by omega]
  rw [← List.append_assoc, List.take_append_of_le_length (by simp; omega), List.take_of_length_le (by simp; omega)]
  rfl
theorem qOk.grow {x : Int} {left : List Int} {off cap c' : Nat} {cs : List SV} (h : qOk left off cap cs) (hr : left.length + 1 ≤ c') :
    qOk (left ++ [x]) 0 c' ((cs.drop off).take (left.length * 1) ++ [svI x] ++ List.replicate ((c' - (left.length + 1)) * 1) .junk) := by
  obtain ⟨h1, h2, h3⟩ := h
  rw [Nat.mul_one, Nat.mul_one, h2]
  refine ⟨by simp; omega, ?_, by simpa using hr⟩
  rw [List.drop_zero, List.length_append, List.length_singleton, List.take_append_of_le_length (by simp), List.take_of_length_le (by simp), List.map_append]
  rfl

abbrev ndH (q : Nat) (p : Prg) (out : List Bool) (n off cap : Nat) (cs : List SV) : Hp := [(0, prgBk p), (1, .row 4 1 (out.map encBl)), (2, .blk 55 [.row 1]), (q, .blk 3 cs), (4, .blk 48 [.sl q off n cap])]

structure Qst where
  out : List Bool
  left : List Int
  n : Nat
  off : Nat
  cap : Nat
  cs : List SV
abbrev Qst.ok (x : Qst) : Prop := x.n = x.left.length ∧ qOk x.left x.off x.cap x.cs ∧ x.cap ≤ maxLen ∧ SV.lowL 0 x.cs = true
abbrev Qst.H (p : Prg) (q : Nat) (x : Qst) : Hp := ndH q p x.out x.n x.off x.cap x.cs

theorem nd_low {p : Prg} {out : List Bool} {n off cap : Nat} {cs : List SV} (h : SV.lowL 0 cs = true) : Hp.low 5 (ndH 3 p out n off cap cs) = true := by
  have := SV.lowL_mono 5 cs h
  simp [Hp.low, HB.low, SV.lowL, SV.low, this, Nat.blt]
theorem nd_low6 {p : Prg} {r : Rul} {out : List Bool} {n off cap : Nat} {cs : List SV} (h : SV.lowL 0 cs = true) : Hp.low 6 ((5, ruleB r) :: ndH 3 p out n off cap cs) = true := by
  have := SV.lowL_mono 6 cs h
  simp [Hp.low, HB.low, SV.lowL, SV.low, this, Nat.blt]
theorem nd_low7 {p : Prg} {r : Rul} {out : List Bool} {n off cap : Nat} {cs : List SV} (h : SV.lowL 0 cs = true) : Hp.low 7 ((5, ruleB r) :: ndH 6 p out n off cap cs) = true := by
  have := SV.lowL_mono 7 cs h
  simp [Hp.low, HB.low, SV.lowL, SV.low, this, Nat.blt]

set_option maxHeartbeats 8000000 in
theorem needs_fn (p : Prg) (pred : Int) (h10 : p.arity.length ≤ 10) (h12 : p.rules.length ≤ 12) (hp : predsOk p.arity.length p.rules) (hpr : 0 ≤ pred ∧ pred < p.arity.length) :
    Fn 106 [elPrg p, .d (.int .i64 pred)] (fun res => res = .d (.slice 1 ((needsL p pred).map encBl))) := by
  refine fnp_enter' _ Try.func106 rfl rfl (by kernel_rfl) ?_
  intro O w0 E0 β0
  have la : (p.arity.map encI).length = p.arity.length := List.length_map _
  have lr : (p.rules.map encRul).length = p.rules.length := List.length_map _
  repeat' (first | (apply ds_evC; exact rfl; (with_reducible exact trivial); (with_reducible exact rfl); exact rfl; exact rfl; exact rfl) | apply ds_nil | apply dw_seq2 | (apply ds_region; exact rfl) | apply thenD_n | (apply ds_newC; exact rfl; (with_reducible exact trivial); exact rfl; exact rfl; exact rfl))
  refine ds_mk ((List.replicate p.arity.length false).map encBl) rfl rfl (by rw [la]) rfl rfl rfl rfl rfl rfl (by show 1 * _ ≤ _; omega) (by unfold maxLen; omega) (by rw [List.map_replicate]; rfl) rfl rfl ?_
  have lf : ((List.replicate p.arity.length false).map encBl).length = p.arity.length := by simp
  have lf2 : (List.replicate p.arity.length false).length = p.arity.length := by simp
  repeat' (first | (refine ds_bs_sl (te := 3) (es := 1) rfl rfl rfl rfl rfl rfl rfl rfl rfl rfl rfl ?_) | (first | (apply ds_evC; exact rfl; (first | (with_reducible exact trivial) | omega); (first | ((with_reducible apply hv_prow); (exact (Int.toNat_of_nonneg (by omega)).symm)) | (with_reducible exact rfl)); exact rfl; exact rfl; exact rfl) | apply ds_nil | (apply ds_stP; exact rfl; exact rfl; (apply hv_get; (omega)); exact rfl; exact rfl; (exact hv_set rfl); exact rfl; exact rfl; exact rfl; exact rfl; exact rfl; exact rfl) | apply dw_seq2 | (apply ds_region; exact rfl) | apply dw_block | apply thenD_n | (apply ds_newC; exact rfl; (with_reducible exact trivial); exact rfl; exact rfl; exact rfl) | (apply ds_setC; exact rfl; exact rfl; exact rfl; exact rfl)))
  refine ds_loop (ι := Qst × Nat) (fun x => ⟨5, [(2, .loc 0 0), (5, .loc 2 0), (6, .loc 4 0)], x.1.H p 3⟩)
    (fun x => x.1.ok ∧ Ns p.arity.length x.2 (x.1.out, x.1.left) ∧ needsL p pred = nIter p.rules x.2 (x.1.out, x.1.left) ∧ x.2 ≤ 2 * p.arity.length + 1) (fun x => x.2)
    (⟨(List.replicate p.arity.length false).set pred.toNat true, [pred], 1, 0, 1, [svI pred]⟩, 2 * p.arity.length + 1) ⟨⟨rfl, ⟨by simp, rfl, by simp⟩, by simp [maxLen], rfl⟩, ⟨by simp, ?_, ?_⟩, rfl, Nat.le_refl _⟩
    (ent_ren id ⟨rfl, rfl, rfl, trivial⟩ ⟨rfl, rfl, rfl, rfl, rfl, trivial⟩ rfl rfl rfl rfl rfl rfl) ?_
  · have h1 : ((List.replicate p.arity.length false).set pred.toNat true).count false + 1 = (List.replicate p.arity.length false).count false := count_set' (by simp; omega) (by rw [List.getElem?_replicate, if_pos (by omega)])
    rw [List.count_replicate_self] at h1
    simp only [List.length_singleton]
    omega
  · intro v hv
    simp at hv
    subst hv
    exact hpr
  rintro ⟨⟨out, left, nn, off, cap, cs⟩, m⟩ ⟨⟨gn, g1, gc, gl⟩, g2, g3, gm⟩
  dsimp only [Qst.H] at gn g1 gc gl g2 g3 gm ⊢
  have lo : (out.map encBl).length = out.length := List.length_map _
  have hm : left.length ≤ m := by have := g2.2.1; dsimp only at this; omega
  subst gn
  cases left with
  | nil =>
    repeat' (first | (apply ds_evC; exact rfl; (with_reducible exact trivial); (with_reducible exact rfl); exact rfl; exact rfl; exact rfl) | apply ds_nil | apply dw_seq2 | (apply ds_region; exact rfl) | apply dw_exit | (apply dw_condF; exact rfl) | apply thenD_n | apply thenD_e | (apply inB_e; exact rfl))
    refine dw_ent (ent_seal 4 rfl rfl rfl) ?_
    repeat' (apply dw_ret)
    have hr : needsL p pred = out := by rw [g3]; cases m <;> rfl
    exact ⟨.inl rfl, _, rfl, rfl, by rw [hr]; rfl⟩
  | cons n left =>
    obtain ⟨m, rfl⟩ : ∃ m', m = m' + 1 := ⟨m - 1, by simp at hm; omega⟩
    have hh := g1.head
    have ht := g1.tail
    have hnn := g2.2.2 n (List.mem_cons_self ..)
    rw [nIter] at g3
    have h0 : Ns p.arity.length m (out, left) := ⟨g2.1, by have := g2.2.1; simp only [List.length_cons] at this ⊢; omega, fun v hv => g2.2.2 v (List.mem_cons_of_mem _ hv)⟩
    have hcap := g1.2.2
    have hlc : ((n :: left).length : Int) = (left.length : Int) + 1 := by simp
    repeat' (first | (refine ds_ev (ev_load_loc (i := 3) rfl rfl rfl rfl hh) rfl rfl ?_) | (first | (apply ds_evC; exact rfl; (first | (with_reducible exact trivial) | omega); (with_reducible exact rfl); exact rfl; exact rfl; exact rfl) | apply ds_nil | apply dw_seq2 | (apply ds_region; exact rfl) | apply dw_block | apply dw_skip | apply dw_exit | apply dw_ret | apply thenD_n | apply thenD_e | (apply inB_e; exact rfl) | (apply ds_setC; exact rfl; exact rfl; exact rfl; exact rfl) | (apply dw_condP; exact rfl; all_goals intro hg)))
    all_goals try (exfalso; omega)
    refine ds_loop (ι := Nat × Qst) (fun x => ⟨5, [(2, .loc 0 0), (5, .loc 2 0), (6, .loc 4 0), (7, svI n), (29, .d (.slice 5 (p.rules.map encRul))), (30, .d (.int .i64 (p.rules.map encRul).length)), (31, .d (.int .i64 x.1))], x.2.H p 3⟩)
      (fun x => x.1 ≤ p.rules.length ∧ x.2.ok ∧ Ns p.arity.length m (x.2.out, x.2.left) ∧ p.rules.foldl (nRule n) (out, left) = (p.rules.drop x.1).foldl (nRule n) (x.2.out, x.2.left)) (fun x => p.rules.length - x.1)
      (0, ⟨out, left, left.length, off + 1, cap - 1, cs⟩) ⟨Nat.zero_le _, ⟨rfl, ht, by dsimp only; omega, gl⟩, h0, rfl⟩ (ent_ren id ⟨rfl, rfl, rfl, rfl, rfl, rfl, rfl, trivial⟩ ⟨rfl, rfl, rfl, blk_ren gl, rfl, trivial⟩ rfl (nd_low gl) rfl rfl rfl rfl) ?_
    clear h0 ht hh hcap gc lo gl
    rintro ⟨i, ⟨out1, left1, n1, off1, cap1, cs1⟩⟩ ⟨f0, ⟨fn, f1, fc, fl⟩, f2, f3⟩
    dsimp only [Qst.H] at f0 fn f1 fc fl f2 f3 ⊢
    have lo : (out1.map encBl).length = out1.length := List.length_map _
    by_cases hi : i < p.rules.length
    · repeat' (first | (apply ds_evC; exact rfl; (first | (with_reducible exact trivial) | omega); (first | ((with_reducible apply hv_row); (exact rfl); (omega)) | (with_reducible exact rfl)); exact rfl; exact rfl; exact rfl) | apply ds_nil | apply dw_seq2 | (apply ds_region; exact rfl) | apply dw_block | apply dw_skip | apply dw_exit | apply thenD_n | apply thenD_e | apply inB_n | (apply inB_e; exact rfl) | (apply ds_call; exact rfl; exact rfl; apply hangs_fn; exact rfl; (exact rfl); exact rfl; rintro _ rfl) | (apply ds_newC; exact rfl; (with_reducible exact trivial); exact rfl; exact rfl; exact rfl) | (apply ds_setC; exact rfl; exact rfl; exact rfl; exact rfl) | (apply dw_condP; exact rfl; all_goals intro hg))
      all_goals try (exfalso; omega)
      all_goals (obtain ⟨hp1, hp2⟩ := hp p.rules[i] (List.getElem_mem hi); rw [List.drop_eq_getElem_cons hi, List.foldl_cons] at f3; generalize p.rules[i] = r at hp1 hp2 f3 hg ⊢)
      · rw [show nRule n (out1, left1) r = (out1, left1) from if_neg (by assumption)] at f3
        exact ⟨(i + 1, ⟨out1, left1, n1, off1, cap1, cs1⟩), ⟨by dsimp only; omega, ⟨fn, f1, fc, fl⟩, f2, f3⟩, ent_ren id ⟨rfl, rfl, rfl, rfl, rfl, rfl, rfl, trivial⟩ ⟨rfl, rfl, rfl, blk_ren fl, rfl, trivial⟩ rfl (nd_low fl) rfl rfl rfl rfl, by show p.rules.length - (i + 1) < p.rules.length - i; omega⟩
      rw [show nRule n (out1, left1) r = ((r.body.filter hangsB).drop 0).foldl nLit (out1, left1) from if_pos (by omega)] at f3
      refine dw_range (hangsX r) rfl rfl (hangs1_seq r) (hangsX_each r) (by simp) [(2, .loc 0 0), (5, .loc 2 0), (6, .loc 4 0), (7, svI n), (9, .loc 5 0), (29, .d (.slice 5 (p.rules.map encRul))), (30, .d (.int .i64 (p.rules.map encRul).length)), (31, .d (.int .i64 i))] ⟨rfl, rfl, rfl, rfl, rfl, rfl, rfl, rfl, trivial⟩ rfl
        (ι := Bool × Qst) (fun _ x => match x.1 with | false => (6, (5, ruleB r) :: x.2.H p 3) | true => (7, (5, ruleB r) :: x.2.H p 6))
        (fun j x => x.2.ok ∧ Ns p.arity.length m (x.2.out, x.2.left) ∧ p.rules.foldl (nRule n) (out, left) = (p.rules.drop (i + 1)).foldl (nRule n) (((r.body.filter hangsB).drop j).foldl nLit (x.2.out, x.2.left)))
        (false, ⟨out1, left1, n1, off1, cap1, cs1⟩) ⟨⟨fn, f1, fc, fl⟩, f2, f3⟩ rfl ?_ ?_
      · rintro j hj ⟨b, ⟨out2, left2, n2, off2, cap2, cs2⟩⟩ ⟨⟨en, e1, ec, el⟩, e2, e3⟩ O1 w1 E1 β1 l
        obtain ⟨hj', hx⟩ := hangsX_get hj
        rw [hx]
        dsimp only at en e1 ec el e2 e3 ⊢
        have hxm := List.getElem_mem hj'
        obtain ⟨hxb, hxh⟩ := List.mem_filter.1 hxm
        have hq := hp2 _ hxb hxh
        obtain ⟨q1, q2⟩ := hq
        rw [List.drop_eq_getElem_cons hj', List.foldl_cons] at e3
        generalize (r.body.filter hangsB)[j] = x at hxb hxh q1 q2 e3 ⊢
        have ll1 : (out2.map encBl).length = out2.length := List.length_map _
        have hl1 : out2.length = p.arity.length := e2.1
        have hlen2 : left2.length ≤ 21 := by have := e2.2.1; dsimp only at this; omega
        subst en
        have hnx := e2.step (x := x) ⟨q1, q2⟩
        have hgd : out2.getD x.pred.toNat false = out2[x.pred.toNat]'(by omega) := by rw [List.getD, List.getElem?_eq_getElem (by omega)]; rfl
        have hfit := e1.1
        cases b with
        | false =>
          dsimp only [Qst.H]
          change DW _ _ _ _ ((42, .d (.bool (strictB r.fold x))) :: (41, .d (.int .i64 x.pred)) :: _) _
          repeat' (first | (apply ds_evC; exact rfl; (with_reducible exact trivial); (with_reducible exact rfl); exact rfl; exact rfl; exact rfl) | apply ds_nil | (apply ds_region; exact rfl))
          refine ⟨rfl, fun O2 w2 E2 β2 => ?_⟩
          repeat' (first | (apply ds_evC; exact rfl; (first | (with_reducible exact trivial) | omega); (first | ((with_reducible apply hv_prow); (exact (Int.toNat_of_nonneg (by omega)).symm)) | ((with_reducible apply hv_ldrow); (apply hv_get; (omega)); exact rfl) | (with_reducible exact rfl)); exact rfl; exact rfl; exact rfl) | apply ds_nil | (apply ds_stP; exact rfl; exact rfl; (apply hv_get; (omega)); exact rfl; exact rfl; (exact hv_set rfl); exact rfl; exact rfl; exact rfl; exact rfl; exact rfl; exact rfl) | apply dw_seq2 | (apply ds_region; exact rfl) | apply dw_block | apply dw_skip | apply thenD_n | apply inB_n | (apply ds_bsC; exact rfl; exact rfl; exact rfl; exact rfl) | (apply dw_cond; exact rfl; all_goals intro hg))
          · have hL : nLit (out2, left2) x = (out2.set x.pred.toNat true, left2 ++ [x.pred]) := by
              unfold nLit
              dsimp only
              rw [hgd, if_neg (by intro h; rw [h] at hg; cases hg)]
            rw [hL] at e3 hnx
            refine ds_append_sl (te := 3) (es := 1) (i := 3) (cs := cs2) (ys := [[D.int .i64 x.pred]]) rfl rfl rfl rfl rfl rfl rfl rfl (by omega) rfl (by simp) rfl rfl (by show (left2.length + 1) * 8 ≤ _; omega) (by show left2.length + 1 ≤ _; unfold maxLen; omega) (fun hr => ?_) (fun c' h1 h2 h3 => ?_)
            · have hr : left2.length + 1 ≤ cap2 := hr
              repeat' (first | apply ds_nil | apply inB_n | (apply ds_setC; exact rfl; exact rfl; exact rfl; exact rfl))
              exact ⟨(false, ⟨out2.set x.pred.toNat true, left2 ++ [x.pred], left2.length + 1, off2, cap2, splice cs2 (off2 + left2.length * 1) [svI x.pred]⟩), ⟨⟨by simp, e1.push hr, ec, lowL_splice el rfl⟩, hnx, e3⟩, ent_ren id trivial ⟨rfl, rfl, rfl, rfl, blk_ren (lowL_splice el rfl), rfl, trivial⟩ rfl (nd_low6 (lowL_splice el rfl)) rfl rfl rfl rfl⟩
            · have h2 : left2.length + 1 ≤ c' := h2
              repeat' (first | apply ds_nil | apply inB_n | (apply ds_setC; exact rfl; exact rfl; exact rfl; exact rfl))
              exact ⟨(true, ⟨out2.set x.pred.toNat true, left2 ++ [x.pred], left2.length + 1, 0, c', _⟩), ⟨⟨by simp, e1.grow h2, h3, lowL_app (lowL_app (lowL_take _ (lowL_drop _ el)) rfl) (lowL_junk _)⟩, hnx, e3⟩, ent_ren id trivial ⟨rfl, rfl, rfl, rfl, blk_ren (lowL_app (lowL_app (lowL_take _ (lowL_drop _ el)) rfl) (lowL_junk _)), rfl, trivial⟩ rfl (nd_low7 (lowL_app (lowL_app (lowL_take _ (lowL_drop _ el)) rfl) (lowL_junk _))) rfl rfl rfl rfl⟩
          · have hL : nLit (out2, left2) x = (out2, left2) := by
              unfold nLit
              dsimp only
              rw [hgd, if_pos (by simpa using hg)]
            rw [hL] at e3
            exact ⟨(false, ⟨out2, left2, left2.length, off2, cap2, cs2⟩), ⟨⟨rfl, e1, ec, el⟩, e2, e3⟩, ent_ren id trivial ⟨rfl, rfl, rfl, rfl, blk_ren el, rfl, trivial⟩ rfl (nd_low6 el) rfl rfl rfl rfl⟩
        | true =>
          dsimp only [Qst.H]
          change DW _ _ _ _ ((42, .d (.bool (strictB r.fold x))) :: (41, .d (.int .i64 x.pred)) :: _) _
          repeat' (first | (apply ds_evC; exact rfl; (with_reducible exact trivial); (with_reducible exact rfl); exact rfl; exact rfl; exact rfl) | apply ds_nil | (apply ds_region; exact rfl))
          refine ⟨rfl, fun O2 w2 E2 β2 => ?_⟩
          repeat' (first | (apply ds_evC; exact rfl; (first | (with_reducible exact trivial) | omega); (first | ((with_reducible apply hv_prow); (exact (Int.toNat_of_nonneg (by omega)).symm)) | ((with_reducible apply hv_ldrow); (apply hv_get; (omega)); exact rfl) | (with_reducible exact rfl)); exact rfl; exact rfl; exact rfl) | apply ds_nil | (apply ds_stP; exact rfl; exact rfl; (apply hv_get; (omega)); exact rfl; exact rfl; (exact hv_set rfl); exact rfl; exact rfl; exact rfl; exact rfl; exact rfl; exact rfl) | apply dw_seq2 | (apply ds_region; exact rfl) | apply dw_block | apply dw_skip | apply thenD_n | apply inB_n | (apply ds_bsC; exact rfl; exact rfl; exact rfl; exact rfl) | (apply dw_cond; exact rfl; all_goals intro hg))
          · have hL : nLit (out2, left2) x = (out2.set x.pred.toNat true, left2 ++ [x.pred]) := by
              unfold nLit
              dsimp only
              rw [hgd, if_neg (by intro h; rw [h] at hg; cases hg)]
            rw [hL] at e3 hnx
            refine ds_append_sl (te := 3) (es := 1) (i := 6) (cs := cs2) (ys := [[D.int .i64 x.pred]]) rfl rfl rfl rfl rfl rfl rfl rfl (by omega) rfl (by simp) rfl rfl (by show (left2.length + 1) * 8 ≤ _; omega) (by show left2.length + 1 ≤ _; unfold maxLen; omega) (fun hr => ?_) (fun c' h1 h2 h3 => ?_)
            · have hr : left2.length + 1 ≤ cap2 := hr
              repeat' (first | apply ds_nil | apply inB_n | (apply ds_setC; exact rfl; exact rfl; exact rfl; exact rfl))
              exact ⟨(true, ⟨out2.set x.pred.toNat true, left2 ++ [x.pred], left2.length + 1, off2, cap2, splice cs2 (off2 + left2.length * 1) [svI x.pred]⟩), ⟨⟨by simp, e1.push hr, ec, lowL_splice el rfl⟩, hnx, e3⟩, ent_ren id trivial ⟨rfl, rfl, rfl, rfl, blk_ren (lowL_splice el rfl), rfl, trivial⟩ rfl (nd_low7 (lowL_splice el rfl)) rfl rfl rfl rfl⟩
            · have h2 : left2.length + 1 ≤ c' := h2
              repeat' (first | apply ds_nil | apply inB_n | (apply ds_setC; exact rfl; exact rfl; exact rfl; exact rfl))
              exact ⟨(true, ⟨out2.set x.pred.toNat true, left2 ++ [x.pred], left2.length + 1, 0, c', _⟩), ⟨⟨by simp, e1.grow h2, h3, lowL_app (lowL_app (lowL_take _ (lowL_drop _ el)) rfl) (lowL_junk _)⟩, hnx, e3⟩, ent_ren (fun j => match j with | 6 => 7 | j => j) trivial ⟨rfl, rfl, rfl, rfl, blk_ren (lowL_app (lowL_app (lowL_take _ (lowL_drop _ el)) rfl) (lowL_junk _)), rfl, trivial⟩ rfl (nd_low7 (lowL_app (lowL_app (lowL_take _ (lowL_drop _ el)) rfl) (lowL_junk _))) rfl rfl rfl rfl⟩
          · have hL : nLit (out2, left2) x = (out2, left2) := by
              unfold nLit
              dsimp only
              rw [hgd, if_pos (by simpa using hg)]
            rw [hL] at e3
            exact ⟨(true, ⟨out2, left2, left2.length, off2, cap2, cs2⟩), ⟨⟨rfl, e1, ec, el⟩, e2, e3⟩, ent_ren id trivial ⟨rfl, rfl, rfl, rfl, blk_ren el, rfl, trivial⟩ rfl (nd_low7 el) rfl rfl rfl rfl⟩
      · rintro ⟨b, ⟨out2, left2, n2, off2, cap2, cs2⟩⟩ ⟨⟨en, e1, ec, el⟩, e2, e3⟩
        rw [hangsX_len, List.drop_of_length_le (Nat.le_refl _)] at e3
        dsimp only at en e1 ec el e2 e3 ⊢
        cases b with
        | false =>
          repeat' (first | (apply ds_evC; exact rfl; (first | (with_reducible exact trivial) | omega); (with_reducible exact rfl); exact rfl; exact rfl; exact rfl) | apply ds_nil | (apply ds_region; exact rfl) | apply thenD_n | apply inB_n)
          exact ⟨(i + 1, ⟨out2, left2, n2, off2, cap2, cs2⟩), ⟨by dsimp only; omega, ⟨en, e1, ec, el⟩, e2, e3⟩, ent_ren id ⟨rfl, rfl, rfl, rfl, rfl, rfl, rfl, trivial⟩ ⟨rfl, rfl, rfl, blk_ren el, rfl, trivial⟩ rfl (nd_low el) rfl rfl rfl rfl, by show p.rules.length - (i + 1) < p.rules.length - i; omega⟩
        | true =>
          repeat' (first | (apply ds_evC; exact rfl; (first | (with_reducible exact trivial) | omega); (with_reducible exact rfl); exact rfl; exact rfl; exact rfl) | apply ds_nil | (apply ds_region; exact rfl) | apply thenD_n | apply inB_n)
          exact ⟨(i + 1, ⟨out2, left2, n2, off2, cap2, cs2⟩), ⟨by dsimp only; omega, ⟨en, e1, ec, el⟩, e2, e3⟩, ent_ren (fun j => match j with | 3 => 6 | j => j) ⟨rfl, rfl, rfl, rfl, rfl, rfl, rfl, trivial⟩ ⟨rfl, rfl, rfl, blk_ren el, rfl, trivial⟩ rfl (nd_low el) rfl rfl rfl rfl, by show p.rules.length - (i + 1) < p.rules.length - i; omega⟩
    · rw [List.drop_of_length_le (by omega)] at f3
      repeat' (first | (apply ds_evC; exact rfl; (first | (with_reducible exact trivial) | omega); (first | ((with_reducible apply hv_row); (exact rfl); (omega)) | (with_reducible exact rfl)); exact rfl; exact rfl; exact rfl) | apply ds_nil | apply dw_seq2 | (apply ds_region; exact rfl) | apply dw_block | apply dw_skip | apply dw_exit | apply thenD_n | apply thenD_e | apply inB_n | (apply inB_e; exact rfl) | (apply ds_newC; exact rfl; (with_reducible exact trivial); exact rfl; exact rfl; exact rfl) | (apply ds_setC; exact rfl; exact rfl; exact rfl; exact rfl) | (apply dw_condP; exact rfl; all_goals intro hg))
      all_goals try (exfalso; omega)
      rw [f3] at g3
      exact ⟨(⟨out1, left1, n1, off1, cap1, cs1⟩, m), ⟨⟨fn, f1, fc, fl⟩, f2, g3, by dsimp only; omega⟩, ent_ren id ⟨rfl, rfl, rfl, trivial⟩ ⟨rfl, rfl, rfl, blk_ren fl, rfl, trivial⟩ rfl (nd_low fl) rfl rfl rfl rfl, by show m < m + 1; omega⟩
end Go.Proofs.Ytapciiffpnociaa

/- Plain words on levels: rounds come to rest just when there are levels that fit; then at the least ones. Condition: none. -/
namespace Go.Proofs.Ytapciiffpnociaa
/-- That a predicate is no less than another, and something more. -/
structure Edg where
  p : Nat
  q : Nat
  s : Int
def liftE (lv : List Int) (e : Edg) : List Int := if lv.getD e.p 0 < lv.getD e.q 0 + e.s then lv.set e.p (lv.getD e.q 0 + e.s) else lv
def roundE (E : List Edg) (lv : List Int) : List Int := E.foldl liftE lv
def itE (E : List Edg) (lv : List Int) : Nat → List Int
  | 0 => lv
  | k + 1 => roundE E (itE E lv k)
def edgOk (n : Nat) (E : List Edg) : Prop := ∀ e ∈ E, e.p < n ∧ e.q < n ∧ 0 ≤ e.s ∧ e.s ≤ 1
def FitE (n : Nat) (E : List Edg) (F : List Int) : Prop := F.length = n ∧ (∀ i, 0 ≤ F.getD i 0) ∧ ∀ e ∈ E, F.getD e.q 0 + e.s ≤ F.getD e.p 0

theorem liftE_len (lv : List Int) (e : Edg) : (liftE lv e).length = lv.length := by unfold liftE; split <;> simp
theorem roundE_len : ∀ (E : List Edg) (lv : List Int), (roundE E lv).length = lv.length
  | [], _ => rfl
  | e :: E, lv => (roundE_len E (liftE lv e)).trans (liftE_len lv e)
theorem itE_len (E : List Edg) (lv : List Int) : ∀ k, (itE E lv k).length = lv.length
  | 0 => rfl
  | k + 1 => (roundE_len E _).trans (itE_len E lv k)
theorem set_getD (lv : List Int) (i : Nat) (v : Int) (hi : i < lv.length) (j : Nat) : (lv.set i v).getD j 0 = if i = j then v else lv.getD j 0 := by
  simp only [List.getD, List.getElem?_set]
  split
  · rename_i h; subst h; first | rfl | (rw [if_pos hi]; rfl)
  · rfl
theorem liftE_le {n : Nat} {lv : List Int} {e : Edg} (hl : lv.length = n) (he : e.p < n) (i : Nat) : lv.getD i 0 ≤ (liftE lv e).getD i 0 := by
  unfold liftE
  split
  · rw [set_getD _ _ _ (by omega)]
    split
    · rename_i h; subst h; omega
    · exact Int.le_refl _
  · exact Int.le_refl _
theorem liftE_edge {n : Nat} {lv : List Int} {e : Edg} (hl : lv.length = n) (he : e.p < n) : lv.getD e.q 0 + e.s ≤ (liftE lv e).getD e.p 0 := by
  unfold liftE
  split
  · rw [set_getD _ _ _ (by omega), if_pos rfl]; omega
  · omega
theorem roundE_le {n : Nat} : ∀ {E : List Edg} {lv : List Int}, lv.length = n → edgOk n E → ∀ i, lv.getD i 0 ≤ (roundE E lv).getD i 0
  | [], _, _, _, _ => Int.le_refl _
  | e :: E, lv, hl, hE, i => Int.le_trans (liftE_le hl (hE e (List.mem_cons_self ..)).1 i) (roundE_le ((liftE_len lv e).trans hl) (fun x hx => hE x (List.mem_cons_of_mem _ hx)) i)
theorem roundE_edge {n : Nat} : ∀ {E : List Edg} {lv : List Int}, lv.length = n → edgOk n E → ∀ e ∈ E, lv.getD e.q 0 + e.s ≤ (roundE E lv).getD e.p 0
  | [], _, _, _, _, h => nomatch h
  | x :: E, lv, hl, hE, e, he => by
    have hx := hE x (List.mem_cons_self ..)
    have hE' : edgOk n E := fun y hy => hE y (List.mem_cons_of_mem _ hy)
    have hl' := (liftE_len lv x).trans hl
    rcases List.mem_cons.1 he with rfl | he
    · exact Int.le_trans (liftE_edge hl hx.1) (roundE_le hl' hE' _)
    · have h1 := roundE_edge hl' hE' e he
      have h2 := liftE_le (e := x) hl hx.1 e.q
      show _ ≤ (roundE E (liftE lv x)).getD e.p 0
      omega
theorem liftE_below {n : Nat} {E : List Edg} {F lv : List Int} {e : Edg} (hl : lv.length = n) (hF : FitE n E F) (he : e ∈ E) (hp : e.p < n) (h : ∀ i, lv.getD i 0 ≤ F.getD i 0) (i : Nat) : (liftE lv e).getD i 0 ≤ F.getD i 0 := by
  unfold liftE
  split
  · rw [set_getD _ _ _ (by omega)]
    split
    · rename_i h1; subst h1
      have := hF.2.2 e he
      have := h e.q
      omega
    · exact h i
  · exact h i
theorem roundE_below' {n : Nat} {E : List Edg} {F : List Int} (hF : FitE n E F) (hE : edgOk n E) : ∀ (E2 : List Edg) (lv : List Int), (∀ e ∈ E2, e ∈ E) → lv.length = n → (∀ i, lv.getD i 0 ≤ F.getD i 0) → ∀ i, (roundE E2 lv).getD i 0 ≤ F.getD i 0
  | [], _, _, _, h, i => h i
  | e :: E2, lv, hs, hl, h, i => roundE_below' hF hE E2 (liftE lv e) (fun x hx => hs x (List.mem_cons_of_mem _ hx)) ((liftE_len lv e).trans hl)
      (fun i => liftE_below hl hF (hs e (List.mem_cons_self ..)) (hE e (hs e (List.mem_cons_self ..))).1 h i) i
theorem roundE_below {n : Nat} {E : List Edg} {F lv : List Int} (hF : FitE n E F) (hE : edgOk n E) (hl : lv.length = n) (h : ∀ i, lv.getD i 0 ≤ F.getD i 0) (i : Nat) : (roundE E lv).getD i 0 ≤ F.getD i 0 := roundE_below' hF hE E lv (fun _ h => h) hl h i
theorem ext_getD {a b : List Int} (hl : a.length = b.length) (h : ∀ i, a.getD i 0 = b.getD i 0) : a = b := by
  apply List.ext_getElem hl
  intro i h1 h2
  have := h i
  rwa [List.getD, List.getD, List.getElem?_eq_getElem h1, List.getElem?_eq_getElem h2] at this
/-- At rest: each edge is kept. -/
theorem rest_edge {n : Nat} {E : List Edg} {lv : List Int} (hl : lv.length = n) (hE : edgOk n E) (hr : roundE E lv = lv) : ∀ e ∈ E, lv.getD e.q 0 + e.s ≤ lv.getD e.p 0 := by
  intro e he
  have := roundE_edge hl hE e he
  rwa [hr] at this
theorem edge_rest : ∀ {E : List Edg} {lv : List Int}, (∀ e ∈ E, lv.getD e.q 0 + e.s ≤ lv.getD e.p 0) → roundE E lv = lv
  | [], _, _ => rfl
  | e :: E, lv, h => by
    have h1 : liftE lv e = lv := by
      unfold liftE
      rw [if_neg]
      have := h e (List.mem_cons_self ..)
      omega
    show roundE E (liftE lv e) = lv
    rw [h1]
    exact edge_rest fun x hx => h x (List.mem_cons_of_mem _ hx)

section
variable {n : Nat} {E : List Edg} (hE : edgOk n E)
abbrev L0 (E : List Edg) (n k : Nat) : List Int := itE E (zeros n) k
theorem L0_len (k : Nat) : (L0 E n k).length = n := by rw [itE_len]; simp [zeros]
include hE
theorem L0_up (k i : Nat) : (L0 E n k).getD i 0 ≤ (L0 E n (k + 1)).getD i 0 := roundE_le (L0_len k) hE i
omit hE in
theorem zeros_getD (n i : Nat) : (zeros n).getD i 0 = 0 := by
  unfold zeros
  rw [List.getD, List.getElem?_replicate]
  split <;> rfl
theorem L0_pos : ∀ (k i : Nat), 0 ≤ (L0 E n k).getD i 0
  | 0, i => by show 0 ≤ (zeros n).getD i 0; rw [zeros_getD n]; exact Int.le_refl _
  | k + 1, i => Int.le_trans (L0_pos k i) (L0_up hE k i)
theorem L0_below {F : List Int} (hF : FitE n E F) : ∀ (k i : Nat), (L0 E n k).getD i 0 ≤ F.getD i 0
  | 0, i => by show (zeros n).getD i 0 ≤ _; rw [zeros_getD n]; exact hF.2.1 i
  | k + 1, i => roundE_below hF hE (L0_len k) (L0_below hF k) i
theorem fit_of_rest {k : Nat} (h : L0 E n (k + 1) = L0 E n k) : FitE n E (L0 E n k) := ⟨L0_len k, L0_pos hE k, rest_edge (L0_len k) hE h⟩
omit hE in
theorem rest_of_fit {k : Nat} (h : FitE n E (L0 E n k)) : L0 E n (k + 1) = L0 E n k := edge_rest h.2.2
omit hE in
theorem L0_stay {k : Nat} (h : L0 E n (k + 1) = L0 E n k) : ∀ j, L0 E n (k + j) = L0 E n k
  | 0 => rfl
  | j + 1 => by
    show roundE E (itE E (zeros n) (k + j)) = _
    have := L0_stay h j
    rw [show itE E (zeros n) (k + j) = L0 E n k from this]
    exact h

/-- How many are settled. -/
def sett (n : Nat) (a b : List Int) : Nat := ((List.range n).filter fun i => decide (a.getD i 0 = b.getD i 0)).length
omit hE in
theorem filter_len_lt {α : Type} (f g : α → Bool) : ∀ (l : List α), (∀ x ∈ l, f x = true → g x = true) → (∃ x ∈ l, f x = false ∧ g x = true) → (l.filter f).length < (l.filter g).length
  | [], _, ⟨_, h, _⟩ => nomatch h
  | y :: l, hs, ⟨x, hx, h1, h2⟩ => by
    have hle : (l.filter f).length ≤ (l.filter g).length := by
      clear hx
      have hs' : ∀ x ∈ l, f x = true → g x = true := fun x hx => hs x (List.mem_cons_of_mem _ hx)
      clear hs
      induction l with
      | nil => simp
      | cons z l ih =>
        have ih := ih fun x hx => hs' x (List.mem_cons_of_mem _ hx)
        have hz := hs' z (List.mem_cons_self ..)
        simp only [List.filter_cons]
        cases hf : f z <;> cases hg : g z <;> simp_all <;> omega
    rcases List.mem_cons.1 hx with rfl | hx
    · simp only [List.filter_cons, h1, h2, if_true, List.length_cons, Bool.false_eq_true, if_false]; omega
    · have ih := filter_len_lt f g l (fun x hx => hs x (List.mem_cons_of_mem _ hx)) ⟨x, hx, h1, h2⟩
      have hy := hs y (List.mem_cons_self ..)
      simp only [List.filter_cons]
      cases hf : f y <;> cases hg : g y <;> simp_all <;> omega
omit hE in
theorem range_map_getD (n : Nat) (f : Nat → Int) (i : Nat) : ((List.range n).map f).getD i 0 = if i < n then f i else 0 := by
  rw [List.getD, List.getElem?_map]
  split
  · rename_i h; rw [List.getElem?_range h]; rfl
  · rename_i h; rw [List.getElem?_eq_none (by simp; omega)]; rfl

/-- As long as not all is settled, a round settles one more. -/
theorem settle {S : List Int} (hS : FitE n E S) (hleast : ∀ F, FitE n E F → ∀ i, S.getD i 0 ≤ F.getD i 0) {k : Nat} (hne : L0 E n k ≠ S) : sett n (L0 E n k) S < sett n (L0 E n (k + 1)) S := by
  have hb := L0_below hE hS
  refine filter_len_lt _ _ _ (fun i hi h => ?_) ?_
  · have h1 := of_decide_eq_true h
    have h2 := L0_up hE k i
    have h3 := hb (k + 1) i
    exact decide_eq_true (by omega)
  · apply Classical.byContradiction
    intro hno
    have hno : ∀ i, i < n → (L0 E n (k + 1)).getD i 0 = S.getD i 0 → (L0 E n k).getD i 0 = S.getD i 0 := by
      intro i hi h1
      apply Classical.byContradiction
      intro h2
      exact hno ⟨i, List.mem_range.2 hi, decide_eq_false h2, decide_eq_true h1⟩
    let M : List Int := (List.range n).map fun i => if (L0 E n k).getD i 0 = S.getD i 0 then S.getD i 0 else S.getD i 0 - 1
    have hM : ∀ i, i < n → M.getD i 0 = if (L0 E n k).getD i 0 = S.getD i 0 then S.getD i 0 else S.getD i 0 - 1 := fun i hi => by rw [range_map_getD, if_pos hi]
    have hfit : FitE n E M := by
      refine ⟨by simp [M], fun i => ?_, fun e he => ?_⟩
      · rw [range_map_getD]
        split
        · have h1 := hb k i
          have h2 := L0_pos hE k i
          split <;> omega
        · exact Int.le_refl _
      · obtain ⟨hp, hq, hs0, hs1⟩ := hE e he
        have h1 := hS.2.2 e he
        rw [hM _ hp, hM _ hq]
        by_cases hps : (L0 E n k).getD e.p 0 = S.getD e.p 0
        · rw [if_pos hps]
          split <;> omega
        · rw [if_neg hps]
          split
          · rename_i hqs
            have h2 := roundE_edge (L0_len (E := E) k) hE e he
            have h3 := hb (k + 1) e.p
            have h4 : ¬ (L0 E n (k + 1)).getD e.p 0 = S.getD e.p 0 := fun h => hps (hno e.p hp h)
            have h5 : (L0 E n k).getD e.q 0 + e.s ≤ (L0 E n (k + 1)).getD e.p 0 := h2
            omega
          · omega
    apply hne
    refine ext_getD (by rw [L0_len, hS.1]) fun i => ?_
    rcases Nat.lt_or_ge i n with hi | hi
    · have h1 := hleast M hfit i
      rw [hM i hi] at h1
      split at h1
      · assumption
      · omega
    · rw [List.getD, List.getD, List.getElem?_eq_none (by rw [L0_len]; exact hi), List.getElem?_eq_none (by rw [hS.1]; exact hi)]

omit hE in
theorem sett_le (a b : List Int) : sett n a b ≤ n := by
  have := List.length_filter_le (fun i => decide (a.getD i 0 = b.getD i 0)) (List.range n)
  rw [List.length_range] at this
  exact this
/-- All are settled behind so many rounds as there are predicates. -/
theorem settled {S : List Int} (hS : FitE n E S) (hleast : ∀ F, FitE n E F → ∀ i, S.getD i 0 ≤ F.getD i 0) : L0 E n n = S := by
  have key : ∀ k, L0 E n k = S ∨ k ≤ sett n (L0 E n k) S := by
    intro k
    induction k with
    | zero => exact .inr (Nat.zero_le _)
    | succ k ih =>
      by_cases h : L0 E n k = S
      · left
        show roundE E (itE E (zeros n) k) = S
        rw [show itE E (zeros n) k = S from h]
        exact edge_rest hS.2.2
      · right
        have h1 := settle hE hS hleast h
        rcases ih with h2 | h2
        · exact absurd h2 h
        · omega
  rcases key n with h | h
  · exact h
  · apply Classical.byContradiction
    intro hne
    have h1 := settle hE hS hleast hne
    have h2 := sett_le (n := n) (L0 E n (n + 1)) S
    omega

/-- Where there are levels that fit, the rounds come to the least ones. -/
theorem least_fit {F : List Int} (hF : FitE n E F) : FitE n E (L0 E n n) := by
  -- the rounds rest somewhere
  have hrest : ∃ k, L0 E n (k + 1) = L0 E n k := by
    apply Classical.byContradiction
    intro hno
    have hno : ∀ k, L0 E n (k + 1) ≠ L0 E n k := fun k h => hno ⟨k, h⟩
    have hsum : ∀ k : Nat, (k : Int) ≤ ((List.range n).map fun i => (L0 E n k).getD i 0).sum := by
      intro k
      induction k with
      | zero =>
        have h0 : ∀ l : List Nat, (0 : Int) ≤ (l.map fun i => (L0 E n 0).getD i 0).sum := by
          intro l
          induction l with
          | nil => simp
          | cons x l ih => rw [List.map_cons, List.sum_cons]; have := L0_pos hE 0 x; omega
        exact h0 _
      | succ k ih =>
        have hlt : ((List.range n).map fun i => (L0 E n k).getD i 0).sum < ((List.range n).map fun i => (L0 E n (k + 1)).getD i 0).sum := by
          have hex : ∃ i, i < n ∧ (L0 E n k).getD i 0 < (L0 E n (k + 1)).getD i 0 := by
            apply Classical.byContradiction
            intro hn
            apply hno k
            refine ext_getD (by rw [L0_len, L0_len]) fun i => ?_
            rcases Nat.lt_or_ge i n with hi | hi
            · have h1 := L0_up hE k i
              have h2 : ¬ (L0 E n k).getD i 0 < (L0 E n (k + 1)).getD i 0 := fun h => hn ⟨i, hi, h⟩
              omega
            · rw [List.getD, List.getD, List.getElem?_eq_none (by rw [L0_len]; exact hi), List.getElem?_eq_none (by rw [L0_len]; exact hi)]
          obtain ⟨i, hi, hlt⟩ := hex
          have hs : ∀ l : List Nat, ((l.map fun i => (L0 E n k).getD i 0).sum ≤ (l.map fun i => (L0 E n (k + 1)).getD i 0).sum) ∧ (i ∈ l → (l.map fun i => (L0 E n k).getD i 0).sum < (l.map fun i => (L0 E n (k + 1)).getD i 0).sum) := by
            intro l
            induction l with
            | nil => exact ⟨by simp, fun h => nomatch h⟩
            | cons x l ih =>
              have hx := L0_up hE k x
              simp only [List.map_cons, List.sum_cons]
              refine ⟨by omega, fun h => ?_⟩
              rcases List.mem_cons.1 h with rfl | h
              · omega
              · have := ih.2 h; omega
          exact (hs _).2 (List.mem_range.2 hi)
        omega
    have hub : ∀ k : Nat, ((List.range n).map fun i => (L0 E n k).getD i 0).sum ≤ ((List.range n).map fun i => F.getD i 0).sum := by
      intro k
      have : ∀ l : List Nat, (l.map fun i => (L0 E n k).getD i 0).sum ≤ (l.map fun i => F.getD i 0).sum := by
        intro l
        induction l with
        | nil => simp
        | cons x l ih => simp only [List.map_cons, List.sum_cons]; have := L0_below hE hF k x; omega
      exact this _
    have h1 := hsum (((List.range n).map fun i => F.getD i 0).sum.toNat + 1)
    have h2 := hub (((List.range n).map fun i => F.getD i 0).sum.toNat + 1)
    omega
  obtain ⟨k, hk⟩ := hrest
  have hfit := fit_of_rest hE hk
  have := settled hE hfit fun F hF i => L0_below hE hF k i
  rw [this]
  exact hfit

omit hE in
theorem pigeon : ∀ (m : Nat) (l : List Int), (∀ v : Nat, 1 ≤ v → v ≤ m → (v : Int) ∈ l) → m ≤ l.length
  | 0, _, _ => Nat.zero_le _
  | m + 1, l, h => by
    have h1 := h (m + 1) (by omega) (Nat.le_refl _)
    have h2 := pigeon m (l.erase ((m + 1 : Nat) : Int)) fun v hv1 hv2 => (List.mem_erase_of_ne (by omega)).2 (h v hv1 (by omega))
    rw [List.length_erase_of_mem h1] at h2
    have := List.length_pos_of_mem h1
    omega
/-- Least levels are no more than there are predicates. -/
theorem least_bound (hF : FitE n E (L0 E n n)) (i : Nat) : (L0 E n n).getD i 0 ≤ n := by
  apply Classical.byContradiction
  intro hgt
  have hgt : (n : Int) < (L0 E n n).getD i 0 := by omega
  have hin : ∀ v : Nat, 1 ≤ v → v ≤ n + 1 → (v : Int) ∈ L0 E n n := by
    intro v hv1 hv2
    apply Classical.byContradiction
    intro hnot
    have hnv : ∀ j, j < n → (L0 E n n).getD j 0 ≠ v := by
      intro j hj h
      apply hnot
      rw [List.getD, List.getElem?_eq_getElem (by rw [L0_len]; exact hj), Option.getD_some] at h
      rw [← h]
      exact List.getElem_mem _
    let M : List Int := (List.range n).map fun j => if (v : Int) < (L0 E n n).getD j 0 then (L0 E n n).getD j 0 - 1 else (L0 E n n).getD j 0
    have hM : ∀ j, j < n → M.getD j 0 = if (v : Int) < (L0 E n n).getD j 0 then (L0 E n n).getD j 0 - 1 else (L0 E n n).getD j 0 := fun j hj => by rw [range_map_getD, if_pos hj]
    have hfit : FitE n E M := by
      refine ⟨by simp [M], fun j => ?_, fun e he => ?_⟩
      · rw [range_map_getD]
        split
        · have := hF.2.1 j
          split <;> omega
        · exact Int.le_refl _
      · obtain ⟨hp, hq, hs0, hs1⟩ := hE e he
        have h1 := hF.2.2 e he
        have h2 := hnv e.q hq
        rw [hM _ hp, hM _ hq]
        split <;> split <;> omega
    have hi : i < n := by
      apply Classical.byContradiction
      intro h
      rw [List.getD, List.getElem?_eq_none (by rw [L0_len]; omega)] at hgt
      simp at hgt
      omega
    have h3 := L0_below hE hfit n i
    have h5 := hnv i hi
    rw [hM i hi, if_pos (by omega)] at h3
    omega
  have := pigeon (n + 1) _ hin
  rw [L0_len] at this
  omega
end
end Go.Proofs.Ytapciiffpnociaa

/- Plain words on programs that are right, and their levels. Condition: none. -/
namespace Go.Proofs.Ytapciiffpnociaa
theorem firstL_z0 {α : Type} {f : α → Int} : ∀ {l : List α}, firstL f l = 0 → ∀ x ∈ l, f x = 0
  | [], _, _, h => nomatch h
  | y :: l, h, x, hx => by
    unfold firstL at h
    split at h
    · rename_i h1; exact absurd h h1
    · rename_i h1
      rcases List.mem_cons.1 hx with rfl | hx
      · exact Classical.byContradiction fun h2 => h1 h2
      · exact firstL_z0 h x hx
theorem z0_firstL {α : Type} {f : α → Int} : ∀ {l : List α}, (∀ x ∈ l, f x = 0) → firstL f l = 0
  | [], _ => rfl
  | y :: l, h => by
    unfold firstL
    rw [if_neg (by rw [h y (List.mem_cons_self ..)]; simp)]
    exact z0_firstL fun x hx => h x (List.mem_cons_of_mem _ hx)
theorem inR_tru {n a b : Int} (h : ¬ inR n a b = false) : a ≤ n ∧ n ≤ b := by
  unfold inR at h
  simp at h
  exact h
structure LtlOk (n vars : Int) (l : Ltl) : Prop where
  kind : 1 ≤ l.kind ∧ l.kind ≤ 4
  pred : hangsB l = true → 0 ≤ l.pred ∧ l.pred < n
structure RulOk (n : Nat) (r : Rul) : Prop where
  pred : 0 ≤ r.pred ∧ r.pred < n
  vars : 0 ≤ r.vars ∧ r.vars ≤ 8
  fold : 0 ≤ r.fold ∧ r.fold ≤ 4
  body : r.body.length ≤ 4
  lits : ∀ l ∈ r.body, LtlOk n r.vars l
structure PrgOk (p : Prg) : Prop where
  preds : p.arity.length ≤ 10
  rules : p.rules.length ≤ 12
  names : p.names.length = p.arity.length
  each : ∀ r ∈ p.rules, RulOk p.arity.length r
theorem litE_okM {arity : List Int} {vars : Int} {l : Ltl} (h : litE arity vars l = 0) : LtlOk arity.length vars l := by
  unfold litE at h
  split at h; · cases h
  rename_i h1
  split at h; · cases h
  refine ⟨inR_tru h1, fun hh => ?_⟩
  have hk : l.kind = 1 ∨ l.kind = 2 := by
    unfold hangsB at hh
    simpa using hh
  rw [if_pos hk] at h
  split at h; · cases h
  rename_i h3
  have := inR_tru h3
  omega
theorem ruleE_ok {arity : List Int} {r : Rul} (h : ruleE arity r = 0) : RulOk arity.length r := by
  unfold ruleE at h
  split at h; · cases h
  rename_i h1
  split at h; · cases h
  split at h; · cases h
  rename_i h3
  split at h; · rename_i h4; exact absurd h h4
  split at h; · cases h
  rename_i h5
  split at h; · cases h
  split at h; · cases h
  rename_i h7
  split at h; · rename_i h8; exact absurd h h8
  rename_i h8
  have := inR_tru h1
  exact ⟨by omega, inR_tru h3, inR_tru h5, by omega, fun l hl => litE_okM (firstL_z0 (Classical.byContradiction fun hn => h8 hn) l hl)⟩
theorem progE_ok {nameB : ByteArray → Bool} {p : Prg} (h : progE nameB p = 0) : PrgOk p := by
  unfold progE at h
  split at h; · cases h
  rename_i h1
  split at h; · cases h
  rename_i h2
  split at h; · rename_i h3; exact absurd h h3
  exact ⟨by omega, by omega, by omega, fun r hr => ruleE_ok (firstL_z0 h r hr)⟩

/-! Edges of a program. -/
def edgR (r : Rul) : List Edg := (r.body.filter hangsB).map fun x => ⟨r.pred.toNat, x.pred.toNat, liftS r.fold x⟩
def edgP (p : Prg) : List Edg := p.rules.flatMap edgR
theorem liftS_le (f : Int) (x : Ltl) : 0 ≤ liftS f x ∧ liftS f x ≤ 1 := by unfold liftS; split <;> omega
theorem edgP_ok {p : Prg} (h : PrgOk p) : edgOk p.arity.length (edgP p) := by
  intro e he
  unfold edgP at he
  obtain ⟨r, hr, he⟩ := List.mem_flatMap.1 he
  unfold edgR at he
  obtain ⟨x, hx, rfl⟩ := List.mem_map.1 he
  obtain ⟨hx1, hx2⟩ := List.mem_filter.1 hx
  have h1 := (h.each r hr).pred
  have h2 := ((h.each r hr).lits x hx1).pred hx2
  have h3 := liftS_le r.fold x
  dsimp only
  omega
theorem liftN_S (f : Int) (x : Ltl) : liftN f x = liftS f x := by
  unfold liftN liftS strictB
  by_cases h1 : x.kind = 2 <;> by_cases h2 : f = 0 <;> simp [h1, h2]
theorem hangs_kind {x : Ltl} (h : 1 ≤ x.kind) : (2 < x.kind) ↔ hangsB x = false := by
  unfold hangsB
  simp only [Bool.or_eq_false_iff, decide_eq_false_iff_not]
  omega
theorem lvLits_edg (f pr : Int) : ∀ (b : List Ltl) (lv : List Int), (∀ x ∈ b, 1 ≤ x.kind) → b.foldl (lvLit f pr) lv = roundE ((b.filter hangsB).map fun x => ⟨pr.toNat, x.pred.toNat, liftS f x⟩) lv
  | [], _, _ => rfl
  | x :: b, lv, h => by
    have hk := h x (List.mem_cons_self ..)
    have hb := fun y hy => h y (List.mem_cons_of_mem _ hy)
    rw [List.foldl_cons, lvLits_edg f pr b _ hb]
    cases hx : hangsB x with
    | false =>
      rw [List.filter_cons_of_neg (by rw [hx]; simp)]
      congr 1
      unfold lvLit
      rw [if_pos ((hangs_kind hk).2 hx)]
    | true =>
      rw [List.filter_cons_of_pos hx, List.map_cons]
      show _ = roundE _ (liftE lv _)
      congr 1
      unfold lvLit liftE
      rw [if_neg (by rw [hangs_kind hk, hx]; simp), liftN_S]
theorem roundE_app (A B : List Edg) (lv : List Int) : roundE (A ++ B) lv = roundE B (roundE A lv) := by unfold roundE; rw [List.foldl_append]
theorem lvRound_edg : ∀ (l : List Rul) (lv : List Int), (∀ r ∈ l, ∀ x ∈ r.body, 1 ≤ x.kind) → lvRound l lv = roundE (l.flatMap edgR) lv
  | [], _, _ => rfl
  | r :: l, lv, h => by
    rw [List.flatMap_cons, roundE_app, ← lvRound_edg l _ fun y hy => h y (List.mem_cons_of_mem _ hy)]
    show lvRound l (lvRule lv r) = _
    congr 1
    exact lvLits_edg _ _ _ _ (h r (List.mem_cons_self ..))
theorem lvIter_edg (p : Prg) (h : PrgOk p) : ∀ (k j : Nat), lvIter p.rules k (L0 (edgP p) p.arity.length j) = L0 (edgP p) p.arity.length (j + k)
  | 0, _ => rfl
  | k + 1, j => by
    rw [lvIter, lvRound_edg _ _ fun r hr x hx => ((h.each r hr).lits x hx).kind.1]
    show lvIter p.rules k (L0 (edgP p) p.arity.length (j + 1)) = _
    rw [lvIter_edg p h k (j + 1)]
    congr 1
    omega

/-! What the program's rounds are. -/
theorem rawLit_edg (f pr : Int) (x : Ltl) (lv : List Int) (ch : Bool) : (rawLit f pr x lv ch).1 = liftE lv ⟨pr.toNat, x.pred.toNat, liftS f x⟩ := by
  unfold rawLit liftE
  dsimp only
  split <;> rfl
theorem rawSteps (n f pr : Int) : ∀ (b : List Ltl) (lv : List Int) (ch : Bool) (r : List Int × Bool), b.foldl (rawStep n f pr) (some (lv, ch)) = some r → r.1 = roundE (b.map fun x => ⟨pr.toNat, x.pred.toNat, liftS f x⟩) lv
  | [], lv, ch, r, h => by cases h; rfl
  | x :: b, lv, ch, r, h => by
    rw [List.foldl_cons] at h
    by_cases hx : n < lv.getD x.pred.toNat 0 + liftS f x
    · rw [show rawStep n f pr (some (lv, ch)) x = none from if_pos hx, rawStep_none] at h
      cases h
    · rw [show rawStep n f pr (some (lv, ch)) x = some (rawLit f pr x lv ch) from if_neg hx] at h
      have := rawSteps n f pr b (rawLit f pr x lv ch).1 (rawLit f pr x lv ch).2 r h
      rw [this, rawLit_edg]
      rfl
theorem rawRules (n : Int) : ∀ (l : List Rul) (lv : List Int) (ch : Bool) (r : List Int × Bool), l.foldl (rawRule n) (some (lv, ch)) = some r → r.1 = roundE (l.flatMap edgR) lv
  | [], lv, ch, r, h => by cases h; rfl
  | y :: l, lv, ch, r, h => by
    rw [List.foldl_cons] at h
    cases hs : rawRule n (some (lv, ch)) y with
    | none => rw [hs, rawRule_none] at h; cases h
    | some q =>
      rw [hs] at h
      have h1 := rawSteps n y.fold y.pred _ lv ch q hs
      have h2 := rawRules n l q.1 q.2 r h
      rw [h2, h1, List.flatMap_cons, roundE_app]
      rfl
/-- The flag tells whether one rose. -/
theorem rawLit_flag {f pr : Int} {x : Ltl} {lv : List Int} {ch : Bool} (h : (rawLit f pr x lv ch).2 = false) : ch = false ∧ (rawLit f pr x lv ch).1 = lv := by
  unfold rawLit at h ⊢
  split at h
  · cases h
  · rename_i hn
    rw [if_neg hn]
    exact ⟨h, rfl⟩
theorem rawSteps_flag {n f pr : Int} : ∀ (b : List Ltl) (lv lv' : List Int) (ch : Bool), pr.toNat < lv.length → b.foldl (rawStep n f pr) (some (lv, ch)) = some (lv', false) → ch = false ∧ lv' = lv
  | [], lv, lv', ch, _, h => by cases h; exact ⟨rfl, rfl⟩
  | x :: b, lv, lv', ch, hp, h => by
    rw [List.foldl_cons] at h
    by_cases hx : n < lv.getD x.pred.toNat 0 + liftS f x
    · rw [show rawStep n f pr (some (lv, ch)) x = none from if_pos hx, rawStep_none] at h
      cases h
    · rw [show rawStep n f pr (some (lv, ch)) x = some (rawLit f pr x lv ch) from if_neg hx] at h
      obtain ⟨h1, h2⟩ := rawSteps_flag b (rawLit f pr x lv ch).1 lv' (rawLit f pr x lv ch).2 (by rw [rawLit_edg, liftE_len]; exact hp) h
      obtain ⟨h3, h4⟩ := rawLit_flag h1
      exact ⟨h3, h2.trans h4⟩
theorem rawRules_flag {n : Int} : ∀ (l : List Rul) (lv lv' : List Int) (ch : Bool), (∀ r ∈ l, r.pred.toNat < lv.length) → l.foldl (rawRule n) (some (lv, ch)) = some (lv', false) → ch = false ∧ lv' = lv
  | [], lv, lv', ch, _, h => by cases h; exact ⟨rfl, rfl⟩
  | y :: l, lv, lv', ch, hp, h => by
    rw [List.foldl_cons] at h
    cases hs : rawRule n (some (lv, ch)) y with
    | none => rw [hs, rawRule_none] at h; cases h
    | some q =>
      obtain ⟨q1, q2⟩ := q
      rw [hs] at h
      have h0 : q1 = roundE (edgR y) lv := rawSteps n y.fold y.pred _ lv ch _ hs
      have hl : q1.length = lv.length := by rw [h0, roundE_len]
      obtain ⟨h1, h2⟩ := rawRules_flag l q1 lv' q2 (fun r hr => by rw [hl]; exact hp r (List.mem_cons_of_mem _ hr)) h
      subst h1
      obtain ⟨h3, h4⟩ := rawSteps_flag _ lv q1 ch (hp y (List.mem_cons_self ..)) hs
      exact ⟨h3, h2.trans h4⟩

/-- What comes of Raw is at rest. -/
theorem rawIter_rest (p : Prg) (h : PrgOk p) : ∀ (m j : Nat) (lv : List Int), rawIter p.arity.length p.rules m (L0 (edgP p) p.arity.length j) = some lv → ∃ k, lv = L0 (edgP p) p.arity.length k ∧ L0 (edgP p) p.arity.length (k + 1) = L0 (edgP p) p.arity.length k
  | 0, _, _, h => nomatch h
  | m + 1, j, lv, hr => by
    rw [rawIter] at hr
    cases hs : rawRound p.arity.length p.rules (L0 (edgP p) p.arity.length j) with
    | none => rw [hs] at hr; cases hr
    | some q =>
      obtain ⟨q1, q2⟩ := q
      rw [hs] at hr
      have h1 : q1 = L0 (edgP p) p.arity.length (j + 1) := rawRules _ _ _ _ _ hs
      cases q2 with
      | true =>
        rw [h1] at hr
        exact rawIter_rest p h m (j + 1) lv hr
      | false =>
        simp only [Option.some.injEq] at hr
        have h2 := (rawRules_flag p.rules _ q1 false (fun r hr => by rw [L0_len]; have := (h.each r hr).pred; omega) hs).2
        exact ⟨j, by rw [← hr, h2], by rw [← h1, h2]⟩
/-- Where levels fit, nothing asks too much. -/
theorem rawSteps_some {n f pr : Int} {N : Nat} {E : List Edg} {F : List Int} (hF : FitE N E F) (hE : edgOk N E) (hb : ∀ i, F.getD i 0 ≤ n) : ∀ (b : List Ltl) (lv : List Int) (ch : Bool), (∀ x ∈ b, (⟨pr.toNat, x.pred.toNat, liftS f x⟩ : Edg) ∈ E) → lv.length = N → (∀ i, lv.getD i 0 ≤ F.getD i 0) →
    ∃ r, b.foldl (rawStep n f pr) (some (lv, ch)) = some r ∧ r.1.length = N ∧ ∀ i, r.1.getD i 0 ≤ F.getD i 0
  | [], lv, ch, _, hl, hle => ⟨(lv, ch), rfl, hl, hle⟩
  | x :: b, lv, ch, hin, hl, hle => by
    have hx := hin x (List.mem_cons_self ..)
    have h1 := hF.2.2 _ hx
    have h2 := hle x.pred.toNat
    have h3 := hb pr.toNat
    dsimp only at h1
    rw [List.foldl_cons, show rawStep n f pr (some (lv, ch)) x = some (rawLit f pr x lv ch) from if_neg (by omega)]
    exact rawSteps_some hF hE hb b (rawLit f pr x lv ch).1 (rawLit f pr x lv ch).2 (fun y hy => hin y (List.mem_cons_of_mem _ hy)) (by rw [rawLit_edg, liftE_len]; exact hl) (fun i => by rw [rawLit_edg]; exact liftE_below hl hF hx (hE _ hx).1 hle i)
theorem rawRules_some {n : Int} {N : Nat} {E : List Edg} {F : List Int} (hF : FitE N E F) (hE : edgOk N E) (hb : ∀ i, F.getD i 0 ≤ n) : ∀ (l : List Rul) (lv : List Int) (ch : Bool), (∀ r ∈ l, ∀ e ∈ edgR r, e ∈ E) → lv.length = N → (∀ i, lv.getD i 0 ≤ F.getD i 0) →
    ∃ r, l.foldl (rawRule n) (some (lv, ch)) = some r ∧ r.1.length = N ∧ ∀ i, r.1.getD i 0 ≤ F.getD i 0
  | [], lv, ch, _, hl, hle => ⟨(lv, ch), rfl, hl, hle⟩
  | y :: l, lv, ch, hin, hl, hle => by
    obtain ⟨⟨q1, q2⟩, h1, h2, h3⟩ := rawSteps_some hF hE hb (f := y.fold) (pr := y.pred) (y.body.filter hangsB) lv ch (fun x hx => hin y (List.mem_cons_self ..) _ (List.mem_map.2 ⟨x, hx, rfl⟩)) hl hle
    rw [List.foldl_cons, show rawRule n (some (lv, ch)) y = some (q1, q2) from h1]
    exact rawRules_some hF hE hb l q1 q2 (fun r hr => hin r (List.mem_cons_of_mem _ hr)) h2 h3
/-- The program's rounds never go on for ever. -/
theorem rawRound_gap {n : Int} {l : List Rul} {N : Nat} {lv lv' : List Int} {ch : Bool} (hl : lv.length = N) (hp : ∀ r ∈ l, r.pred.toNat < N) (hv : ∀ v ∈ lv, 0 ≤ v ∧ v ≤ n) (h : rawRound n l lv = some (lv', ch)) : Rs n lv lv' ch := by
  have steps : ∀ (f pr : Int) (b : List Ltl) (lv1 lv2 : List Int) (c1 c2 : Bool), pr.toNat < lv.length → Rs n lv lv1 c1 → b.foldl (rawStep n f pr) (some (lv1, c1)) = some (lv2, c2) → Rs n lv lv2 c2 := by
    intro f pr b
    induction b with
    | nil => intro lv1 lv2 c1 c2 _ h1 h2; cases h2; exact h1
    | cons x b ih =>
      intro lv1 lv2 c1 c2 hp h1 h2
      rw [List.foldl_cons] at h2
      by_cases hx : n < lv1.getD x.pred.toNat 0 + liftS f x
      · rw [show rawStep n f pr (some (lv1, c1)) x = none from if_pos hx, rawStep_none] at h2
        cases h2
      · rw [show rawStep n f pr (some (lv1, c1)) x = some (rawLit f pr x lv1 c1) from if_neg hx] at h2
        exact ih _ _ _ _ hp (h1.step hp hx) h2
  have rules : ∀ (l : List Rul) (lv1 lv2 : List Int) (c1 c2 : Bool), (∀ r ∈ l, r.pred.toNat < N) → Rs n lv lv1 c1 → l.foldl (rawRule n) (some (lv1, c1)) = some (lv2, c2) → Rs n lv lv2 c2 := by
    intro l
    induction l with
    | nil => intro lv1 lv2 c1 c2 _ h1 h2; cases h2; exact h1
    | cons y l ih =>
      intro lv1 lv2 c1 c2 hp h1 h2
      rw [List.foldl_cons] at h2
      cases hs : rawRule n (some (lv1, c1)) y with
      | none => rw [hs, rawRule_none] at h2; cases h2
      | some q =>
        obtain ⟨q1, q2⟩ := q
        rw [hs] at h2
        exact ih q1 lv2 q2 c2 (fun r hr => hp r (List.mem_cons_of_mem _ hr)) (steps _ _ _ _ _ _ _ (by rw [hl]; exact hp y (List.mem_cons_self ..)) h1 hs) h2
  exact rules l lv lv' false ch hp (Rs.refl hv) h
theorem rawIter_some (p : Prg) (h : PrgOk p) {F : List Int} (hF : FitE p.arity.length (edgP p) F) (hb : ∀ i, F.getD i 0 ≤ (p.arity.length : Int)) : ∀ (m j : Nat), (∀ v ∈ L0 (edgP p) p.arity.length j, 0 ≤ v ∧ v ≤ (p.arity.length : Int)) → gap p.arity.length (L0 (edgP p) p.arity.length j) < m → rawIter p.arity.length p.rules m (L0 (edgP p) p.arity.length j) ≠ none
  | 0, _, _, hg => by omega
  | m + 1, j, hv, hg => by
    rw [rawIter]
    obtain ⟨⟨q1, q2⟩, h1, _, _⟩ := rawRules_some hF (edgP_ok h) hb p.rules (L0 (edgP p) p.arity.length j) false (fun r hr e he => List.mem_flatMap.2 ⟨r, hr, he⟩) (L0_len j) (L0_below (edgP_ok h) hF j)
    have h1 : rawRound p.arity.length p.rules (L0 (edgP p) p.arity.length j) = some (q1, q2) := h1
    rw [h1]
    have hgap := rawRound_gap (L0_len j) (fun r hr => by have := (h.each r hr).pred; omega) hv h1
    have h2 : q1 = L0 (edgP p) p.arity.length (j + 1) := rawRules _ _ _ _ _ h1
    cases q2 with
    | false => simp
    | true =>
      rw [h2] at hgap ⊢
      exact rawIter_some p h hF hb m (j + 1) hgap.2.1 (by have := hgap.2.2.2 rfl; omega)

/-- The document's levels. -/
def docLv (p : Prg) : List Int := lvIter p.rules (p.arity.length + 1) (zeros p.arity.length)
def docOk (p : Prg) : Bool := decide (lvRound p.rules (lvIter p.rules p.arity.length (zeros p.arity.length)) = lvIter p.rules p.arity.length (zeros p.arity.length))
theorem docLv_eq (p : Prg) (h : PrgOk p) : docLv p = L0 (edgP p) p.arity.length (p.arity.length + 1) := by
  have := lvIter_edg p h (p.arity.length + 1) 0
  rw [Nat.zero_add] at this
  exact this
theorem docOk_eq (p : Prg) (h : PrgOk p) : docOk p = decide (L0 (edgP p) p.arity.length (p.arity.length + 1) = L0 (edgP p) p.arity.length p.arity.length) := by
  have := lvIter_edg p h p.arity.length 0
  rw [Nat.zero_add] at this
  unfold docOk
  rw [show lvIter p.rules p.arity.length (zeros p.arity.length) = L0 (edgP p) p.arity.length p.arity.length from this, lvRound_edg _ _ fun r hr x hx => ((h.each r hr).lits x hx).kind.1]
  rfl
/-- Both come to the same levels, or to none. -/
theorem levels_same (p : Prg) (h : PrgOk p) : rawL p = if docOk p then some (docLv p) else none := by
  have hE := edgP_ok h
  rw [docOk_eq p h, docLv_eq p h]
  by_cases hr : L0 (edgP p) p.arity.length (p.arity.length + 1) = L0 (edgP p) p.arity.length p.arity.length
  · rw [if_pos (decide_eq_true hr), hr]
    have hfit := fit_of_rest hE hr
    have hb := least_bound hE hfit
    cases hs : rawL p with
    | none =>
      refine absurd hs (rawIter_some p h hfit hb _ 0 (fun v hv => ?_) ?_)
      · rw [List.eq_of_mem_replicate hv]; omega
      · show gap p.arity.length (zeros p.arity.length) < _
        rw [gap_zeros]; exact Nat.lt_succ_self _
    | some lv =>
      obtain ⟨k, h1, h2⟩ := rawIter_rest p h _ 0 lv hs
      have hfk := fit_of_rest hE h2
      rw [h1, settled hE hfk fun F hF i => L0_below hE hF k i]
  · rw [if_neg (by rw [decide_eq_false hr]; simp)]
    cases hs : rawL p with
    | none => rfl
    | some lv =>
      obtain ⟨k, h1, h2⟩ := rawIter_rest p h _ 0 lv hs
      have hfk := fit_of_rest hE h2
      have hset := settled hE hfk fun F hF i => L0_below hE hF k i
      exfalso
      apply hr
      show roundE (edgP p) (L0 (edgP p) p.arity.length p.arity.length) = _
      rw [hset]
      exact h2
/-! Terms are few. -/
theorem firstI_z0 {f : Nat → Int} : ∀ {k i : Nat}, firstI f i k = 0 → ∀ j, i ≤ j → j < i + k → f j = 0
  | 0, _, _, _, _, _ => by omega
  | k + 1, i, h, j, h1, h2 => by
    unfold firstI at h
    split at h
    · rename_i h3; exact absurd h h3
    · rename_i h3
      by_cases hj : j = i
      · subst hj; exact Classical.byContradiction fun hn => h3 hn
      · exact firstI_z0 h j (by omega) (by omega)
theorem arity_le {nameB : ByteArray → Bool} {p : Prg} (h : progE nameB p = 0) {i : Int} (h0 : 0 ≤ i) (hi : i < p.arity.length) : p.arity.getD i.toNat 0 ≤ 3 := by
  have hok := progE_ok h
  unfold progE at h
  split at h; · cases h
  split at h; · cases h
  split at h; · rename_i h3; exact absurd h h3
  rename_i h3
  have h4 : firstI (nameE nameB p) 0 p.names.length = 0 := Classical.byContradiction fun hn => h3 hn
  have h5 := firstI_z0 h4 i.toNat (Nat.zero_le _) (by have := hok.names; omega)
  unfold nameE at h5
  split at h5; · cases h5
  rename_i h6
  exact (inR_tru h6).2
theorem lit_terms {nameB : ByteArray → Bool} {p : Prg} (h : progE nameB p = 0) {vars : Int} {l : Ltl} (hl : litE p.arity vars l = 0) : l.terms.length ≤ 3 := by
  have hk := (litE_okM hl).kind
  unfold litE at hl
  split at hl; · cases hl
  split at hl; · cases hl
  split at hl
  · split at hl; · cases hl
    rename_i h3
    have := inR_tru h3
    split at hl; · cases hl
    have := arity_le h (i := l.pred) (by omega) (by omega)
    omega
  · split at hl; · cases hl
    omega
theorem rule_terms {nameB : ByteArray → Bool} {p : Prg} (h : progE nameB p = 0) : ∀ r ∈ p.rules, r.terms.length ≤ 3 ∧ ∀ x ∈ r.body, x.terms.length ≤ 3 := by
  intro r hr
  have hrk := (progE_ok h).each r hr
  have h1 : ruleE p.arity r = 0 := by
    have h0 := h
    unfold progE at h0
    split at h0; · cases h0
    split at h0; · cases h0
    split at h0; · rename_i h3; exact absurd h0 h3
    exact firstL_z0 h0 r hr
  unfold ruleE at h1
  split at h1; · cases h1
  split at h1; · cases h1
  split at h1; · cases h1
  split at h1; · rename_i h4; exact absurd h1 h4
  split at h1; · cases h1
  split at h1; · cases h1
  split at h1; · cases h1
  split at h1; · rename_i h8; exact absurd h1 h8
  rename_i h8
  have := arity_le h hrk.pred.1 hrk.pred.2
  exact ⟨by omega, fun x hx => lit_terms h (firstL_z0 (Classical.byContradiction fun hn => h8 hn) x hx)⟩
end Go.Proofs.Ytapciiffpnociaa

/- A plain logic over the walk: slices held against nil; the empty literal as an own row. No program is named here. Condition: none. -/
namespace Go.Proofs.Ytapciiffpnociaa
open Go Go.RowKit

section
variable {Γ : Ctx} {k : Nat → Prop} {L : Sl} {H : Hp} {a : Act} {w : World} {e : Env} {t t' ty : TypeId} {x y : Operand}
theorem op_bs0 {d z te : TypeId} {pos : String} {af : Array Edge} {g : Option (Nat × Bool)} {es : Nat} (hz' : ¬ k z) (ht : Γ.sh t = .slice te) (hkn : (Γ.sh te).known = true) (hes : Γ.cells te = es) (hpos : Nat.blt 0 es = true) (hz : zeroOk (tiGet Γ.τ te).zero = true) (hzl : Nat.beq (tiGet Γ.τ te).zero.length (Γ.cells te) = true) (hd : Nat.blt d Γ.n = true) :
    OpOk Γ ⟨some d, .buildSlice t 0 #[], ty, pos, af, g⟩ k L H (with1 k z) ((d, .row z) :: L) ((z, .row te es []) :: H) := by
  intro e a w Q m
  have hze : ¬ e.dom z := fun h => hz' ((m.top z).1 h)
  obtain ⟨vs', f2, f3, hrun⟩ := run_buildSlice (ty := ty) (len := 0) (ps := []) (cs' := []) ht hkn hes hpos hz hzl rfl (by simp) (by simp [initSV, fillSV, partsSV]) m
  unfold Oper.wp
  rw [hrun]
  have hv0 : vs' = #[] := by
    have := RelL.length _ _ f2
    apply Array.toList_inj.1
    exact List.eq_nil_of_length_eq_zero (by simpa using this.symm)
  subst hv0
  have hη : (e.bindRow z (.slice (some ⟨w.heap.size, 0, none⟩) 0 0)).η z = .slice (some ⟨w.heap.size, 0, none⟩) 0 0 := if_pos rfl
  have m2 := m.new hz' (hb := .row te es []) (e' := e.bindRow z (.slice (some ⟨w.heap.size, 0, none⟩) 0 0)) (w' := w.alloc (.cells #[] te)) (fun i => or_congr (m.top i) Iff.rfl) (e.bindRow_ext _ _ hze) (below_alloc _ _)
    (fun b hb => by simp only [HB.owned, hη, Value.ownBlock, Option.some.injEq] at hb; omega) (fun hX => by
      refine ⟨[], ⟨by simp, .inr ⟨w.heap.size, 0, #[], by rw [hη]; rfl, Nat.zero_le _, heap_alloc_new w _, Nat.le_refl _, Nat.zero_le _, by simp, by simp⟩⟩, by simp, by simp, by simp⟩)
  exact ⟨_, m2.put (s := .row z) (v := .slice (some ⟨w.heap.size, 0, none⟩) 0 0) (Nat.le_of_ble_eq_true hd) ⟨.inr rfl, hη.symm, rfl⟩⟩
end
section
variable {Γ : Ctx} {k : Nat} {L : Sl} {H : Hp} {K : Next'} {ops : List Oper} {rest : List Oper} {t t' ty : TypeId} {x y : Operand}
theorem ds_bs0 {d te : TypeId} {pos : String} {af : Array Edge} {g : Option (Nat × Bool)} {es : Nat} (ht : (tiGet Γ.τ t).sh = .slice te) (hkn : (tiGet Γ.τ te).sh.known = true) (hes : (tiGet Γ.τ te).cells = es) (hpos : Nat.blt 0 es = true) (hz : zeroOk (tiGet Γ.τ te).zero = true) (hzl : Nat.beq (tiGet Γ.τ te).zero.length (tiGet Γ.τ te).cells = true) (hd : Nat.blt d Γ.n = true) (hw : wantedSV ops L g = some true)
    (hk : DS false Γ ops rest K (k + 1) ((d, .row k) :: L) ((k, .row te es []) :: H)) : DS false Γ ops (⟨some d, .buildSlice t 0 #[], ty, pos, af, g⟩ :: rest) K k L H :=
  dl_op hw ((op_bs0 (lo_not k) ht hkn hes hpos hz hzl hd).cast (with1_lo k)) hk

/-- Data held against nil: what is nil has no elements; more is not known. -/
theorem ds_eqnil {d te : TypeId} {pos : String} {af : Array Edge} {g : Option (Nat × Bool)} {es : Nat} {xs : List (List D)} (hx : opSV L x = .d (.slice es xs)) (hy : opSV L y = .nils) (ht : (tiGet Γ.τ t).sh = .slice te) (hd : Nat.blt d Γ.n = true) (hw : wantedSV ops L g = some true)
    (h1 : xs = [] → DS false Γ ops rest K k ((d, .d (.bool true)) :: L) H) (h2 : DS false Γ ops rest K k ((d, .d (.bool false)) :: L) H) : DS false Γ ops (⟨some d, .binOp .eql t x y t', ty, pos, af, g⟩ :: rest) K k L H := by
  refine dl_run hw fun e a w m => ?_
  obtain ⟨ao, cap, hv, _, _, hnone⟩ := (evT m hx (cSV_slice · _ _)).slice_inv
  have hvy : a.eval y = .slice none 0 0 := by
    have hok : opOk y := by
      cases y with
      | const v => simp only [opSV] at hy; unfold cSV at hy; split at hy <;> simp_all [opOk, cOk]
      | _ => trivial
    have := m.op y hok
    rw [hy] at this; exact this
  have hrun : (execOp a.eval ⟨some d, .binOp .eql t x y t', ty, pos, af, g⟩).run Γ.P w = .ok (.value (.bool ao.isNone)) w := by
    simp [execOp, hv, hvy, eqGuard, Lib.run_eql_slice_nil w t te ao xs.length cap 0 0 (Ctx.slice ht)]
  unfold Oper.wp
  rw [hrun]
  cases ao with
  | none => exact ⟨k, _, H, e, m.put (s := .d (.bool true)) (v := .bool true) (Nat.le_of_ble_eq_true hd) .bool, h1 (hnone rfl)⟩
  | some ad => exact ⟨k, _, H, e, m.put (s := .d (.bool false)) (v := .bool false) (Nat.le_of_ble_eq_true hd) .bool, h2⟩
end
end Go.Proofs.Ytapciiffpnociaa

/- Copies of lists. Condition: none. -/
namespace Go.Proofs.Ytapciiffpnociaa
open Go Go.RowKit
attribute [local irreducible] DW DS DL DQ Ev FnOk FnP thenD inBlockD DT
set_option maxHeartbeats 8000000 in
theorem cloneI_fn (l : List (Int)) (hl : l.length ≤ 17592186044416) : Fn 107 [.d (.slice 1 (l.map encI))] (fun r => r = .d (.slice 1 (l.map encI))) := by
  refine fnp_enter' _ Try.func107 rfl rfl (by kernel_rfl) ?_
  intro O w0 E0 β0
  have la : (l.map encI).length = l.length := List.length_map _
  repeat' (first | (apply ds_evC; exact rfl; (with_reducible exact trivial); (with_reducible exact rfl); exact rfl; exact rfl; exact rfl) | apply ds_nil | apply dw_seq2 | (apply ds_region; exact rfl) | apply thenD_n)
  refine ds_eqnil rfl rfl rfl rfl rfl (fun h => ?_) ?_
  · have h0 : l = [] := List.map_eq_nil_iff.1 h
    subst h0
    repeat' (first | (apply ds_evC; exact rfl; (with_reducible exact trivial); (with_reducible exact rfl); exact rfl; exact rfl; exact rfl) | apply ds_nil | apply dw_seq2 | (apply ds_region; exact rfl) | (apply dw_condT; exact rfl) | apply thenD_n)
    refine dw_ent (ent_nild 2 1 rfl) ?_
    repeat' (first | apply dw_ret | apply thenD_r)
    exact ⟨.inl rfl, _, rfl, rfl, rfl⟩
  · repeat' (first | (apply ds_bs0; exact rfl; exact rfl; exact rfl; exact rfl; exact rfl; exact rfl; exact rfl; exact rfl) | (first | (apply ds_evC; exact rfl; (with_reducible exact trivial); (with_reducible exact rfl); exact rfl; exact rfl; exact rfl) | apply ds_nil | apply dw_seq2 | (apply ds_region; exact rfl) | apply dw_skip | (apply dw_condF; exact rfl) | apply thenD_n | (apply ds_tradeC; exact rfl; (unfold maxLen; simp <;> omega); exact rfl; exact rfl; exact rfl; exact rfl)))
    refine dw_ent (ent_seal 2 rfl rfl rfl) ?_
    repeat' (apply dw_ret)
    exact ⟨.inl rfl, _, rfl, rfl, rfl⟩

set_option maxHeartbeats 8000000 in
theorem cloneS_fn (l : List (ByteArray)) (hl : l.length ≤ 8796093022208) : Fn 108 [.d (.slice 1 (l.map encT))] (fun r => r = .d (.slice 1 (l.map encT))) := by
  refine fnp_enter' _ Try.func108 rfl rfl (by kernel_rfl) ?_
  intro O w0 E0 β0
  have la : (l.map encT).length = l.length := List.length_map _
  repeat' (first | (apply ds_evC; exact rfl; (with_reducible exact trivial); (with_reducible exact rfl); exact rfl; exact rfl; exact rfl) | apply ds_nil | apply dw_seq2 | (apply ds_region; exact rfl) | apply thenD_n)
  refine ds_eqnil rfl rfl rfl rfl rfl (fun h => ?_) ?_
  · have h0 : l = [] := List.map_eq_nil_iff.1 h
    subst h0
    repeat' (first | (apply ds_evC; exact rfl; (with_reducible exact trivial); (with_reducible exact rfl); exact rfl; exact rfl; exact rfl) | apply ds_nil | apply dw_seq2 | (apply ds_region; exact rfl) | (apply dw_condT; exact rfl) | apply thenD_n)
    refine dw_ent (ent_nild 2 1 rfl) ?_
    repeat' (first | apply dw_ret | apply thenD_r)
    exact ⟨.inl rfl, _, rfl, rfl, rfl⟩
  · repeat' (first | (apply ds_bs0; exact rfl; exact rfl; exact rfl; exact rfl; exact rfl; exact rfl; exact rfl; exact rfl) | (first | (apply ds_evC; exact rfl; (with_reducible exact trivial); (with_reducible exact rfl); exact rfl; exact rfl; exact rfl) | apply ds_nil | apply dw_seq2 | (apply ds_region; exact rfl) | apply dw_skip | (apply dw_condF; exact rfl) | apply thenD_n | (apply ds_tradeC; exact rfl; (unfold maxLen; simp <;> omega); exact rfl; exact rfl; exact rfl; exact rfl)))
    refine dw_ent (ent_seal 2 rfl rfl rfl) ?_
    repeat' (apply dw_ret)
    exact ⟨.inl rfl, _, rfl, rfl, rfl⟩

set_option maxHeartbeats 8000000 in
theorem cloneT_fn (l : List (Trm)) (hl : l.length ≤ 8796093022208) : Fn 164 [.d (.slice 2 (l.map encTrm))] (fun r => r = .d (.slice 2 (l.map encTrm))) := by
  refine fnp_enter' _ Try.func164 rfl rfl (by kernel_rfl) ?_
  intro O w0 E0 β0
  have la : (l.map encTrm).length = l.length := List.length_map _
  repeat' (first | (apply ds_evC; exact rfl; (with_reducible exact trivial); (with_reducible exact rfl); exact rfl; exact rfl; exact rfl) | apply ds_nil | apply dw_seq2 | (apply ds_region; exact rfl) | apply thenD_n)
  refine ds_eqnil rfl rfl rfl rfl rfl (fun h => ?_) ?_
  · have h0 : l = [] := List.map_eq_nil_iff.1 h
    subst h0
    repeat' (first | (apply ds_evC; exact rfl; (with_reducible exact trivial); (with_reducible exact rfl); exact rfl; exact rfl; exact rfl) | apply ds_nil | apply dw_seq2 | (apply ds_region; exact rfl) | (apply dw_condT; exact rfl) | apply thenD_n)
    refine dw_ent (ent_nild 2 2 rfl) ?_
    repeat' (first | apply dw_ret | apply thenD_r)
    exact ⟨.inl rfl, _, rfl, rfl, rfl⟩
  · repeat' (first | (apply ds_bs0; exact rfl; exact rfl; exact rfl; exact rfl; exact rfl; exact rfl; exact rfl; exact rfl) | (first | (apply ds_evC; exact rfl; (with_reducible exact trivial); (with_reducible exact rfl); exact rfl; exact rfl; exact rfl) | apply ds_nil | apply dw_seq2 | (apply ds_region; exact rfl) | apply dw_skip | (apply dw_condF; exact rfl) | apply thenD_n | (apply ds_tradeC; exact rfl; (unfold maxLen; simp <;> omega); exact rfl; exact rfl; exact rfl; exact rfl)))
    refine dw_ent (ent_seal 2 rfl rfl rfl) ?_
    repeat' (apply dw_ret)
    exact ⟨.inl rfl, _, rfl, rfl, rfl⟩

end Go.Proofs.Ytapciiffpnociaa
