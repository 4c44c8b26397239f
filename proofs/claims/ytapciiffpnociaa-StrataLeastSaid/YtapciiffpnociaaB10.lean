/- Several texts in one: StrC ScoA TokR TokT TokU TokV TokW. Condition: none. -/
import Derived.Test.YtapciiffpnociaaB08
import Derived.Test.YtapciiffpnociaaB09

/- The program's Hangs: what it hands over, one by one. Condition: none. -/
namespace Go.Proofs.Ytapciiffpnociaa
open Go Go.RowKit
attribute [local irreducible] DW DS DL DQ Ev FnOk FnP thenD inBlockD DWr

def hangsX (r : Rul) : List (List SV) := (r.body.filter hangsB).map fun x => [.d (.int .i64 x.pred), .d (.bool (strictB r.fold x))]
def cntH (r : Rul) (i : Nat) : Nat := ((r.body.take i).filter hangsB).length

set_option maxHeartbeats 8000000 in
theorem hangs_fn (r : Rul) : Fn 163 [elRul r] (fun res => res = .fn 203 [.pd (encRul r)]) := by
  refine fnp_enter' _ Try.func163 rfl rfl (by kernel_rfl) ?_
  intro O w0 E0 β0
  repeat' (first | (apply ds_evC; exact rfl; (with_reducible exact trivial); (with_reducible exact rfl); exact rfl; exact rfl; exact rfl) | apply ds_nil | apply dw_seq2 | (apply ds_region; exact rfl) | apply thenD_n | (apply ds_newC; exact rfl; (with_reducible exact trivial); exact rfl; exact rfl; exact rfl))
  refine dw_ent (ent_freeze (ds := encRul r) 2 0 rfl rfl) ?_
  repeat' (apply dw_ret)
  exact ⟨.inl rfl, _, rfl, rfl, rfl⟩

theorem hangsX_get {r : Rul} {j : Nat} (h : j < (hangsX r).length) : ∃ hj : j < (r.body.filter hangsB).length, (hangsX r)[j] = [.d (.int .i64 ((r.body.filter hangsB)[j]).pred), .d (.bool (strictB r.fold (r.body.filter hangsB)[j]))] := by
  have h' : j < (r.body.filter hangsB).length := by unfold hangsX at h; rwa [List.length_map] at h
  exact ⟨h', by simp [hangsX]⟩
theorem hangsX_len (r : Rul) : (hangsX r).length = (r.body.filter hangsB).length := by unfold hangsX; rw [List.length_map]
theorem hangsX_each (r : Rul) : ∀ x ∈ hangsX r, 2 = x.length ∧ SV.lowL 0 x = true := by
  intro x hx
  unfold hangsX at hx
  obtain ⟨y, _, rfl⟩ := List.mem_map.1 hx
  exact ⟨rfl, rfl⟩
theorem cntH_skip {r : Rul} {i : Nat} (hi : i < r.body.length) (h : hangsB r.body[i] = false) : cntH r (i + 1) = cntH r i := by
  unfold cntH
  rw [List.take_succ_eq_append_getElem hi, List.filter_append, List.length_append]
  simp [h]
theorem cntH_step {r : Rul} {i : Nat} (hi : i < r.body.length) (h : hangsB r.body[i] = true) : cntH r (i + 1) = cntH r i + 1 := by
  unfold cntH
  rw [List.take_succ_eq_append_getElem hi, List.filter_append, List.length_append]
  simp [h]
theorem cntH_all {r : Rul} {i : Nat} (hi : r.body.length ≤ i) : cntH r i = (hangsX r).length := by
  unfold cntH hangsX
  rw [List.take_of_length_le hi, List.length_map]
theorem hangsX_at {r : Rul} {i : Nat} (hi : i < r.body.length) (h : hangsB r.body[i] = true) : ∃ hc : cntH r i < (hangsX r).length, (hangsX r)[cntH r i] = [.d (.int .i64 r.body[i].pred), .d (.bool (strictB r.fold r.body[i]))] := by
  have hsplit : r.body.filter hangsB = (r.body.take i).filter hangsB ++ r.body[i] :: (r.body.drop (i + 1)).filter hangsB := by
    conv => lhs; rw [← List.take_append_drop i r.body, List.filter_append, List.drop_eq_getElem_cons hi]
    rw [List.filter_cons_of_pos h]
  have h1 : (hangsX r)[cntH r i]? = some [.d (.int .i64 r.body[i].pred), .d (.bool (strictB r.fold r.body[i]))] := by
    unfold hangsX cntH
    rw [hsplit, List.getElem?_map, List.getElem?_append_right (Nat.le_refl _), Nat.sub_self]
    rfl
  obtain ⟨h2, h3⟩ := List.getElem?_eq_some_iff.1 h1
  exact ⟨h2, h3⟩

abbrev hgL (yv pv bv : Value) (n i : Nat) : Sl := [(0, .val yv), (1, .val pv), (6, .val bv), (7, .d (.int .i64 n)), (8, .d (.int .i64 i))]

set_option maxHeartbeats 4000000 in
set_option maxHeartbeats 8000000 in
theorem hangs1_seq (r : Rul) : SeqD Try.prog 203 [.pd (encRul r)] (hangsX r) := by
  refine ⟨by kernel_rfl, ?_⟩
  intro X e0 W0 lb l J Jx hX hlb hJ0 hfr hJb hJxb hy
  match lb, hlb with
  | [pv], ⟨hpd, _⟩ =>
    have hpd' := hpd
    obtain ⟨b, off, hpv, hb, hnX, hcells⟩ := hpd'
    obtain ⟨u3, hc3, hr3⟩ := hcells 3 (by show 3 < 5; omega)
    have hr3 : RepC X W0 u3 (.slice 4 (r.body.map encLtl)) := hr3
    obtain ⟨ao, cap, hu3, hcap, hmax, _⟩ := hr3.slice_inv
    have hlen : (r.body.map encLtl).length = r.body.length := List.length_map _
    rw [hlen] at hu3 hcap
    have hbl : r.body.length ≤ maxLen := by omega
    have hbm : r.body.length ≤ 9223372036854775807 := by unfold maxLen at hbl; omega
    refine callsIn_wide.1 (callsIn_of_wp_marks (F := Fence.wide) (n := 0) Try.func203 rfl trivial ?_)
    have hF0 : Flat 34 [(0, .val (.func (.yield l) #[] #[])), (1, .val pv)] { tmps := (#[.func (.yield l) #[] #[]] ++ [pv].toArray) ++ Array.replicate 32 undef, defers := [] } := by
      refine ⟨by simp, rfl, fun t X e w => ?_⟩
      rw [Sl.get_cons]
      split
      · rename_i h; subst h; simp [Rel]
      · rw [Sl.get_cons]
        split
        · rename_i h; subst h; simp [Rel]
        · trivial
    -- what the end is
    have hret : ∀ (ex : Exit) (a : Act) (W : World), (ex = .normal ∨ ex = .ret) → a.defers = [] → (J (hangsX r).length W ∨ Jx W) →
        bodyPostM Fence.wide 0 Try.prog Try.f203 (fun en W' => (∃ v, en = .returned v) ∧ (J (hangsX r).length W' ∨ Jx W')) ex a W := by
      rintro ex a W hx hd hj
      have : LeavesInM Fence.wide 0 Try.prog Try.f203 a.tmps (fun en W' => (∃ v, en = .returned v) ∧ (J (hangsX r).length W' ∨ Jx W')) a.defers .returning W := by
        rw [hd]
        exact ⟨.tuple #[], by simp [results, Try.f203], ⟨_, rfl⟩, hj⟩
      rcases hx with rfl | rfl <;> exact this
    obtain ⟨QQ, hQQ⟩ : ∃ QQ, QQ = bodyPostM Fence.wide 0 Try.prog Try.f203 (fun en W' => (∃ v, en = .returned v) ∧ (J (hangsX r).length W' ∨ Jx W')) := ⟨_, rfl⟩
    rw [← hQQ] at hret ⊢
    clear hQQ
    refine wpIn_seq (wpIn_mono (Q := fun ex a' w' => ex = .normal ∧ Flat 34 (hgL (.func (.yield l) #[] #[]) pv u3 r.body.length 0) a' ∧ Below W0.heap.size W0 w') ?_ ?_)
    · have m0 := hF0.models (P := Try.prog) (τ := tab) (τok := tab_ok) (O := X) W0 hX
      refine dwr_run m0 (dwr_of rfl ?_)
      subst hpv hu3
      apply ds_region; exact rfl
      refine ds_ev (ev_fa_val (l := [(0, 3, 1), (1, 140, 1), (2, 3, 1), (3, 141, 1), (4, 3, 1)]) rfl rfl rfl 1 rfl) rfl rfl ?_
      refine ds_ev (ev_ld_val (u := .slice ao r.body.length cap) 5 rfl rfl rfl hc3 (fun _ => id)) rfl rfl ?_
      refine ds_ev (ev_len_val 6 (t' := 147) rfl rfl hbl) rfl rfl ?_
      repeat' (first | (apply ds_evC; exact rfl; (with_reducible exact trivial); (with_reducible exact rfl); exact rfl; exact rfl; exact rfl) | apply ds_nil)
      intro e a w m
      exact ⟨rfl, m.flatten ⟨rfl, rfl, rfl, rfl, rfl, trivial⟩ rfl, m.toHeap.it_below⟩
    rintro ex a0 w0 ⟨rfl, hf0, hbl0⟩
    refine wpIn_block (wpIn_loop_ghost (fun n a W => ∃ i, i ≤ r.body.length ∧ n = r.body.length - i ∧ Flat 34 (hgL (.func (.yield l) #[] #[]) pv u3 r.body.length i) a ∧ J (cntH r i) W) r.body.length ⟨0, Nat.zero_le _, rfl, hf0, hJb _ _ _ hJ0 hbl0⟩ ?_)
    rintro n a W ⟨i, hi, rfl, hf, hj⟩
    obtain ⟨hsz, hfrW⟩ := hfr _ _ hj
    have hOW : ∀ b, Oit X W0 W b → b < W.heap.size := fun b h => h.1
    have m0 := hf.models (P := Try.prog) (τ := tab) (τok := tab_ok) (O := Oit X W0 W) W hOW
    have hv1 : ∀ {k : Nat} {L : Sl} {H : Hp} {e : Env} {a : Act} {w : World}, Models (Γit Try.prog tab tab_ok (Oit X W0 W) W 34) (lo k) L H e a w → L.get 1 = .val pv → Models (Γit Try.prog tab tab_ok (Oit X W0 W) W 34) (lo k) ((1, .pd (encRul r)) :: L) H e a w :=
      fun m h => m.val_as 1 h (it_rel hsz hfrW rfl hpd m.toHeap)
    have hv6 : ∀ {k : Nat} {L : Sl} {H : Hp} {e : Env} {a : Act} {w : World}, Models (Γit Try.prog tab tab_ok (Oit X W0 W) W 34) (lo k) L H e a w → L.get 6 = .val u3 → Models (Γit Try.prog tab tab_ok (Oit X W0 W) W 34) (lo k) ((6, .d (.slice 4 (r.body.map encLtl))) :: L) H e a w :=
      fun m h => m.val_as 6 h (it_rel (e0 := e0) (s := .d (.slice 4 (r.body.map encLtl))) hsz hfrW rfl hr3 m.toHeap)
    refine dwr_run m0 ?_
    have hr5 : ∀ (c5 : Code) (a : Act) (W' : World), i < r.body.length → Flat 34 (hgL (.func (.yield l) #[] #[]) pv u3 r.body.length i) a → J (cntH r (i + 1)) W' →
        DW (Γit Try.prog tab tab_ok X W' 34) c5 (fun ex _ L _ => ex = .normal ∧ Kepts L (hgL (.func (.yield l) #[] #[]) pv u3 r.body.length (i + 1))) 0 (hgL (.func (.yield l) #[] #[]) pv u3 r.body.length i) [] →
        Code.wpIn Fence.wide 0 Try.prog c5 (Exit.then (fun a' w' => ∃ n', n' < r.body.length - i ∧ ∃ i, i ≤ r.body.length ∧ n' = r.body.length - i ∧ Flat 34 (hgL (.func (.yield l) #[] #[]) pv u3 r.body.length i) a' ∧ J (cntH r i) w') (Exit.inBlock 0 (fun ex a w => QQ ex a w))) a W' := by
      intro c5 a W' hlt hf' hj' h5
      have hO' : ∀ b, X b → b < W'.heap.size := fun b h => Nat.lt_of_lt_of_le (hX b h) (hfr _ _ hj').1
      have m1 := hf'.models (P := Try.prog) (τ := tab) (τok := tab_ok) (O := X) W' hO'
      refine wpIn_mono (dw_run m1 h5) ?_
      rintro ex a2 w2 (⟨k2, L2, H2, e2, m2, rfl, hk2⟩ | ⟨_, _, _, _, hv, _⟩)
      · exact ⟨r.body.length - (i + 1), by omega, i + 1, by omega, rfl, m2.flatten hk2 rfl, hJb _ _ _ hj' m2.toHeap.it_below⟩
      · exact hv.elim
    -- the head of a round
    refine dwr_seq rfl ?_
    repeat' (first | (apply ds_evC; exact rfl; (with_reducible exact trivial); (with_reducible exact rfl); exact rfl; exact rfl; exact rfl) | apply ds_nil | (apply ds_region; exact rfl) | apply thenD_n)
    refine dwr_seq rfl ?_
    by_cases hlt : i < r.body.length
    rotate_left
    · repeat' (first | apply dw_skip | apply dw_exit | apply thenD_n | apply thenD_e | (apply dw_condP; exact rfl; all_goals intro hg))
      all_goals try (exfalso; omega)
      intro e a w m
      refine hret .normal a w (.inl rfl) (m.flatten (Ls := []) trivial rfl).defers (.inl ?_)
      rw [← cntH_all (r := r) (i := i) (by omega)]
      exact hJb _ _ _ hj m.toHeap.it_below
    repeat' (first | apply dw_skip | apply dw_exit | apply thenD_n | apply thenD_e | (apply dw_condP; exact rfl; all_goals intro hg))
    all_goals try (exfalso; omega)
    refine dwr_seqR (dwr_block ?_)
    -- the element
    refine dwr_seq rfl ?_
    apply ds_region; exact rfl
    refine ds_ev (ev_val ((6, .d (.slice 4 (r.body.map encLtl))) :: _) (fun e a w m => hv6 m rfl) (ev_index_map (f := encLtl) (l := r.body) (t' := 147) rfl rfl rfl rfl rfl rfl hlt)) rfl rfl ?_
    repeat' (first | (apply ds_evC; exact rfl; (with_reducible exact trivial); (with_reducible exact rfl); exact rfl; exact rfl; exact rfl) | apply ds_nil | apply thenD_n | (apply ds_newC; exact rfl; (with_reducible exact trivial); exact rfl; exact rfl; exact rfl) | (apply ds_setC; exact rfl; exact rfl; exact rfl; exact rfl))
    refine dwr_seq rfl ?_
    repeat' (first | (apply ds_evC; exact rfl; (with_reducible exact trivial); (with_reducible exact rfl); exact rfl; exact rfl; exact rfl) | (apply ds_skip; exact rfl; exact rfl) | apply ds_nil | apply dw_seq2 | (apply ds_region; exact rfl) | apply dw_skip | apply dw_exit | (apply dw_condF; exact rfl) | apply thenD_n | apply thenD_e | (apply dw_condP; exact rfl; all_goals intro hg) | ((fail_if_success (apply ds_known; exact rfl)); apply ds_guardP; exact rfl; exact rfl; exact rfl; all_goals intro hg))
    · intro e a w m
      simp only [Exit.inBlock, if_true, Exit.then]
      refine hr5 _ a w hlt (m.flatten ⟨rfl, rfl, rfl, rfl, rfl, trivial⟩ rfl) (by rw [cntH_skip hlt (by unfold hangsB; simp_all)]; exact hJb _ _ _ hj m.toHeap.it_below) ?_
      repeat' (first | (apply ds_evC; exact rfl; (first | (with_reducible exact trivial) | omega); (with_reducible exact rfl); exact rfl; exact rfl; exact rfl) | apply ds_nil | (apply ds_region; exact rfl))
      exact ⟨rfl, rfl, rfl, rfl, rfl, rfl, trivial⟩
    all_goals
      have hyl : hangsB r.body[i] = true := by
        have h12 : r.body[i].kind = 1 ∨ r.body[i].kind = 2 := by omega
        unfold hangsB
        rcases h12 with h | h <;> simp [h]
      obtain ⟨hc, hx⟩ := hangsX_at hlt hyl
      refine dwr_seqR (dwr_yieldL (l := l) (d := 31) (N := 34) (pre := [_, _, _, _, _, _, _, _, _, _, _]) (post := [_]) (by rfl) (by rfl) (by rfl) (by rfl) (hgL (.func (.yield l) #[] #[]) pv u3 r.body.length i) rfl (fun b => (32, .d (.bool (!b))) :: hgL (.func (.yield l) #[] #[]) pv u3 r.body.length i) (J (cntH r (i + 1))) Jx ?_ ?_ ?_)
      · repeat' (first | (first | (apply ds_evC; exact rfl; (with_reducible exact trivial); (with_reducible exact rfl); exact rfl; exact rfl; exact rfl) | (apply ds_skip; exact rfl; exact rfl) | apply ds_nil | ((fail_if_success (apply ds_known; exact rfl)); apply ds_guardP; exact rfl; exact rfl; exact rfl; all_goals intro hg)) | (refine ds_ev (ev_val ((1, .pd (encRul r)) :: _) (fun e a w m => hv1 m rfl) (ev_field_pd (l := [(0, 3, 1), (1, 140, 1), (2, 3, 1), (3, 141, 1), (4, 3, 1)]) rfl rfl rfl rfl)) rfl rfl ?_))
        all_goals
          refine ⟨rfl, rfl, ⟨rfl, rfl, rfl, rfl, rfl, trivial⟩, fun e W' vs hb1 hvs => ?_⟩
          have := hy (cntH r i) hc W W' vs hj hb1 ⟨e, by rw [hx]; unfold strictB; first | (rw [decide_eq_true (by assumption), Bool.true_or]; exact hvs) | (rw [decide_eq_false (by assumption), Bool.false_or]; exact hvs)⟩
          rw [← cntH_step hlt hyl] at this
          exact this
      · intro b W'
        repeat' (first | (apply ds_evC; exact rfl; (with_reducible exact trivial); (with_reducible exact rfl); exact rfl; exact rfl; exact rfl) | apply ds_nil)
        exact ⟨rfl, ⟨rfl, rfl, rfl, rfl, rfl, rfl, trivial⟩, rfl⟩
      · rintro b a' W' hfl ⟨W1, hb1, hj1⟩
        have hfl' : Flat 34 (hgL (.func (.yield l) #[] #[]) pv u3 r.body.length i) a' := ⟨hfl.len, hfl.defers, fun t X e w => by
          have := hfl.slot t X e w
          rw [Sl.get_cons] at this
          split at this
          · rename_i h; subst h; trivial
          · exact this⟩
        have hv : a'.eval (.tmp 32) = .bool (!b) := by
          have h1 := hfl.slot 32 (fun _ => False) ⟨fun _ => 0, fun _ => undef, lo 0⟩ W'
          have h1 : RepC _ W' (a'.tmps.getD 32 undef) (.bool (!b)) := h1
          show a'.tmps.getD 32 undef = _
          generalize a'.tmps.getD 32 undef = v at h1 ⊢
          cases h1
          rfl
        rcases hj1 with ⟨rfl, hj1⟩ | ⟨rfl, hj1⟩
        · refine wpIn_cond_false hv (wpIn_skip ?_)
          refine hr5 _ a' W' hlt hfl' (hJb _ _ _ hj1 hb1) ?_
          repeat' (first | (apply ds_evC; exact rfl; (first | (with_reducible exact trivial) | omega); (with_reducible exact rfl); exact rfl; exact rfl; exact rfl) | apply ds_nil | (apply ds_region; exact rfl))
          exact ⟨rfl, rfl, rfl, rfl, rfl, rfl, trivial⟩
        · refine wpIn_cond_true hv (wpIn_ret ?_)
          exact hret .ret a' W' (.inr rfl) hfl.defers (.inr (hJxb _ _ hj1 hb1))
end Go.Proofs.Ytapciiffpnociaa

/- scope's lit. Condition: none. -/
namespace Go.Proofs.Ytapciiffpnociaa
open Go Go.RowKit
attribute [local irreducible] DW DS DL DQ Ev FnOk FnP thenD inBlockD DT

theorem arity_at {p : Prg} {n : Int} (h0 : 0 ≤ n) (h : n < (p.arity.length : Int)) : p.arity.getD n.toNat 0 = p.arity[n.toNat]'(by omega) := by
  rw [List.getD, List.getElem?_eq_getElem (by omega)]; rfl
theorem inR_spec {n a b : Int} (h : inR n a b = true) : a ≤ n ∧ n ≤ b := by
  unfold inR at h; simpa using h

set_option maxHeartbeats 8000000 in
theorem lit_fn (p : Prg) (l : Ltl) (vars : Int) (h0 : 0 ≤ vars) (h8 : vars ≤ 8) : Fn 200 [elPrg p, elLtl l, .d (.int .i64 vars)] (fun r => r = .d (.int .i64 (litE p.arity vars l))) := by
  refine fnp_enter' _ Try.func200 rfl rfl (by kernel_rfl) ?_
  intro O w0 E0 β0
  obtain ⟨kind, op, pred, terms⟩ := l
  have la : (p.arity.map encI).length = p.arity.length := List.length_map _
  have lb : (terms.map encTrm).length = terms.length := List.length_map _
  refine dw_lenA 0 0 rfl rfl (fun hk => ?_)
  refine dw_lenA 1 3 rfl rfl (fun hk2 => ?_)
  have ht := terms_fn terms vars h0 h8
  have w1 := swithin_fn kind 1 4
  have ho := op_fn kind op
  unfold litE
  dsimp only [elLtl]
  by_cases hk1 : inR kind 1 4 = true
  · have hk' := inR_spec hk1
    rw [hk1] at w1
    rw [hk1, if_neg (show ¬ (true = false) by decide)]
    generalize opB kind op = bo at ho ⊢
    by_cases hn : kind = 1 ∨ kind = 2
    · have w2 := swithin_fn pred 0 (((p.arity.map encI).length : Int) - 1)
      rw [if_pos hn, ← la]
      by_cases hp : inR pred 0 (((p.arity.map encI).length : Int) - 1) = true
      · have hp' := inR_spec hp
        have hA := arity_at (p := p) (n := pred) (by omega) (by omega)
        rw [hp] at w2 ⊢
        rw [if_neg (show ¬ (true = false) by decide), hA]
        clear hk1 hp hA
        rcases hn with rfl | rfl
        all_goals repeat' (first | (apply ds_evC; exact rfl; (first | (with_reducible exact trivial) | omega); (with_reducible exact rfl); exact rfl; exact rfl; exact rfl) | (apply ds_skip; exact rfl; exact rfl) | apply ds_nil | (apply dt_ev; exact rfl; exact rfl; (first | (with_reducible exact trivial) | omega); (first | ((with_reducible apply hv_row); (exact (Int.toNat_of_nonneg (by omega)).symm); (omega)) | (with_reducible exact rfl)); exact rfl; exact rfl; exact rfl; exact rfl) | (apply dt_nil0; exact rfl; exact rfl; exact rfl; exact rfl) | apply dw_seq2 | (apply ds_region; exact rfl) | (apply dw_any; kernel_rfl; kernel_rfl; exact rfl; exact rfl) | apply dw_block | apply dw_skip | apply dw_ret | (apply dw_condF; exact rfl) | apply thenD_n | apply thenD_r | apply inB_n | apply inB_r | (apply ds_call; exact rfl; exact rfl; apply w1; exact rfl; (exact rfl); exact rfl; rintro _ rfl) | (apply ds_call; exact rfl; exact rfl; apply w2; exact rfl; (exact rfl); exact rfl; rintro _ rfl) | (apply ds_call; exact rfl; exact rfl; apply ho; exact rfl; (exact rfl); exact rfl; rintro _ rfl) | (apply ds_call; exact rfl; exact rfl; apply ht; exact rfl; (exact rfl); exact rfl; rintro _ rfl) | (apply ds_newC; exact rfl; (with_reducible exact trivial); exact rfl; exact rfl; exact rfl) | (apply dw_condP; exact rfl; all_goals intro hg) | (apply dw_cond; exact rfl; all_goals intro hg))
        all_goals first
          | exact ret_i rfl (by simp_all <;> omega)
          | exact ret_i rfl rfl

      · rw [Bool.not_eq_true] at hp
        rw [hp] at w2 ⊢
        rw [if_pos rfl]
        clear hk1 hp
        rcases hn with rfl | rfl
        all_goals repeat' (first | (apply ds_evC; exact rfl; (first | (with_reducible exact trivial) | omega); (with_reducible exact rfl); exact rfl; exact rfl; exact rfl) | (apply ds_skip; exact rfl; exact rfl) | apply ds_nil | apply dw_seq2 | (apply ds_region; exact rfl) | apply dw_block | apply dw_ret | (apply dw_condT; exact rfl) | (apply dw_condF; exact rfl) | apply thenD_n | apply thenD_r | apply inB_r | (apply ds_call; exact rfl; exact rfl; apply w1; exact rfl; (exact rfl); exact rfl; rintro _ rfl) | (apply ds_call; exact rfl; exact rfl; apply w2; exact rfl; (exact rfl); exact rfl; rintro _ rfl) | (apply ds_call; exact rfl; exact rfl; apply ho; exact rfl; (exact rfl); exact rfl; rintro _ rfl) | (apply ds_newC; exact rfl; (with_reducible exact trivial); exact rfl; exact rfl; exact rfl) | (apply dw_cond; exact rfl; all_goals intro hg))
        all_goals first
          | exact ret_i rfl (by simp_all <;> omega)

    · rw [if_neg hn]
      clear hk1
      rcases (show kind = 3 ∨ kind = 4 by omega) with rfl | rfl
      all_goals repeat' (first | (apply ds_evC; exact rfl; (first | (with_reducible exact trivial) | omega); (with_reducible exact rfl); exact rfl; exact rfl; exact rfl) | (apply ds_skip; exact rfl; exact rfl) | apply ds_nil | (apply dt_ev; exact rfl; exact rfl; (with_reducible exact trivial); (with_reducible exact rfl); exact rfl; exact rfl; exact rfl; exact rfl) | (apply dt_skipD; exact rfl; exact rfl; exact rfl) | (apply dt_nil0; exact rfl; exact rfl; exact rfl; exact rfl) | apply dw_seq2 | (apply ds_region; exact rfl) | (apply dw_any; kernel_rfl; kernel_rfl; exact rfl; exact rfl) | apply dw_block | apply dw_skip | apply dw_ret | (apply dw_condT; exact rfl) | (apply dw_condF; exact rfl) | apply thenD_n | apply thenD_r | apply inB_n | apply inB_r | (apply ds_call; exact rfl; exact rfl; apply w1; exact rfl; (exact rfl); exact rfl; rintro _ rfl) | (apply ds_call; exact rfl; exact rfl; apply ho; exact rfl; (exact rfl); exact rfl; rintro _ rfl) | (apply ds_call; exact rfl; exact rfl; apply ht; exact rfl; (exact rfl); exact rfl; rintro _ rfl) | (apply ds_newC; exact rfl; (with_reducible exact trivial); exact rfl; exact rfl; exact rfl) | (apply dw_condP; exact rfl; all_goals intro hg) | (apply dw_cond; exact rfl; all_goals intro hg) | ((fail_if_success (apply ds_known; exact rfl)); apply ds_guardP; exact rfl; exact rfl; exact rfl; all_goals intro hg))
      all_goals first
        | exact ret_i rfl (by simp_all <;> omega)

  · rw [Bool.not_eq_true] at hk1
    rw [hk1] at w1 ⊢
    rw [if_pos rfl]
    repeat' (first | (apply ds_evC; exact rfl; (with_reducible exact trivial); (with_reducible exact rfl); exact rfl; exact rfl; exact rfl) | (apply ds_skip; exact rfl; exact rfl) | apply ds_nil | apply dw_seq2 | (apply ds_region; exact rfl) | apply dw_block | apply dw_ret | (apply dw_condT; exact rfl) | apply thenD_n | apply thenD_r | apply inB_r | (apply ds_call; exact rfl; exact rfl; apply w1; exact rfl; (exact rfl); exact rfl; rintro _ rfl) | (apply ds_newC; exact rfl; (with_reducible exact trivial); exact rfl; exact rfl; exact rfl) | ((fail_if_success (apply ds_known; exact rfl)); apply ds_guardP; exact rfl; exact rfl; exact rfl; all_goals intro hg))
    all_goals exact ret_i rfl rfl
end Go.Proofs.Ytapciiffpnociaa

/- The reference's small calls on bytes, and TokenAt, answer what the plain words say. Condition: none. -/
namespace Go.Proofs.Ytapciiffpnociaa
open Go Go.RowKit
attribute [local irreducible] DW DS DL DQ Ev FnOk FnP thenD inBlockD DT

set_option maxHeartbeats 8000000 in
theorem between_fn (n a b : Int) : Fn 84 [.d (.int .i64 n), .d (.int .i64 a), .d (.int .i64 b)] (fun r => r = .d (.bool (decide (a ≤ n) && decide (n ≤ b)))) := by
  refine fnp_enter' _ Try.func84 rfl rfl (by kernel_rfl) ?_
  intro O w0 E0 β0
  repeat' (first | (apply ds_evC; exact rfl; (with_reducible exact trivial); (with_reducible exact rfl); exact rfl; exact rfl; exact rfl) | (apply ds_skip; exact rfl; exact rfl) | apply ds_nil | apply dw_seq2 | (apply ds_region; exact rfl) | apply dw_ret | apply thenD_n | ((fail_if_success (apply ds_known; exact rfl)); apply ds_guardP; exact rfl; exact rfl; exact rfl; all_goals intro hg))
  all_goals exact ret_b rfl (by first | (simp_all; done) | (simp_all; omega))

set_option maxHeartbeats 8000000 in
theorem isSmall_fn (c : UInt8) : Fn 148 [.d (.int .u8 (c.toNat : Int))] (fun r => r = .d (.bool (smallB c))) := by
  refine fnp_enter' _ Try.func148 rfl rfl (by kernel_rfl) ?_
  intro O w0 E0 β0
  repeat' (first | (apply ds_evC; exact rfl; (first | (with_reducible exact trivial) | (with_reducible exact u8_range _)); (with_reducible exact rfl); exact rfl; exact rfl; exact rfl) | apply ds_nil | apply dw_seq2 | (apply ds_region; exact rfl) | apply dw_ret | apply thenD_n | (apply ds_call; exact rfl; exact rfl; apply between_fn; exact rfl; (exact rfl); exact rfl; rintro _ rfl))
  all_goals exact ret_b rfl (by unfold smallB; rfl)

set_option maxHeartbeats 8000000 in
theorem isLetter_fn (c : UInt8) : Fn 146 [.d (.int .u8 (c.toNat : Int))] (fun r => r = .d (.bool (letterB c))) := by
  refine fnp_enter' _ Try.func146 rfl rfl (by kernel_rfl) ?_
  intro O w0 E0 β0
  repeat' (first | (apply ds_evC; exact rfl; (first | (with_reducible exact trivial) | (with_reducible exact u8_range _)); (with_reducible exact rfl); exact rfl; exact rfl; exact rfl) | (apply ds_skip; exact rfl; exact rfl) | apply ds_nil | apply dw_seq2 | (apply ds_region; exact rfl) | apply dw_ret | apply thenD_n | (apply ds_call; exact rfl; exact rfl; apply between_fn; exact rfl; (exact rfl); exact rfl; rintro _ rfl) | (apply ds_call; exact rfl; exact rfl; apply isSmall_fn; exact rfl; (exact rfl); exact rfl; rintro _ rfl) | ((fail_if_success (apply ds_known; exact rfl)); apply ds_guardB; exact rfl; exact rfl; exact rfl; all_goals intro hg))
  all_goals exact ret_b rfl (by unfold letterB greatB; rw [hg]; rfl)

set_option maxHeartbeats 8000000 in
theorem isDigit_fn (c : UInt8) : Fn 147 [.d (.int .u8 (c.toNat : Int))] (fun r => r = .d (.bool (digitB c))) := by
  refine fnp_enter' _ Try.func147 rfl rfl (by kernel_rfl) ?_
  intro O w0 E0 β0
  repeat' (first | (apply ds_evC; exact rfl; (first | (with_reducible exact trivial) | (with_reducible exact u8_range _)); (with_reducible exact rfl); exact rfl; exact rfl; exact rfl) | apply ds_nil | apply dw_seq2 | (apply ds_region; exact rfl) | apply dw_ret | apply thenD_n | (apply ds_call; exact rfl; exact rfl; apply between_fn; exact rfl; (exact rfl); exact rfl; rintro _ rfl))
  all_goals exact ret_b rfl (by unfold digitB; rfl)

theorem ext2 (s : ByteArray) (i : Nat) (h : i + 1 < s.size) : s.extract i (i + 2) = ⟨#[s[i], s[i + 1]]⟩ := by
  apply ByteArray.ext
  simp only [ByteArray.data_extract]
  apply Array.toList_inj.1
  rw [Array.toList_extract]
  have hl : s.data.toList.length = s.size := by simp
  rw [List.extract_eq_take_drop, show i + 2 - i = 2 by omega, List.drop_eq_getElem_cons (by omega), List.drop_eq_getElem_cons (by omega), byteAt _ _ (by omega), byteAt _ _ (by omega)]
  rfl

theorem pair_ext (s : ByteArray) (i : Nat) (h : i + 1 < s.size) : pairB (s[i] :: s.data.toList.drop (i + 1)) = (decide (s.extract i (i + 2) = ⟨#[58, 45]⟩) || decide (s.extract i (i + 2) = ⟨#[60, 61]⟩) || decide (s.extract i (i + 2) = ⟨#[33, 61]⟩)) := by
  have hl : s.data.toList.length = s.size := by simp
  have key : ∀ a b c d : UInt8, decide ((⟨#[a, b]⟩ : ByteArray) = ⟨#[c, d]⟩) = (a == c && b == d) := fun a b c d => by
    rw [Bool.eq_iff_iff]; simp
  rw [ext2 s i h, key, key, key, List.drop_eq_getElem_cons (by omega), byteAt _ _ (by omega), pairB]

theorem signs_step (c : UInt8) (i : Nat) (h : i < (⟨#[40, 41, 44, 46, 60, 61, 43, 45, 42]⟩ : ByteArray).size) : (signs.drop i).contains c = (decide ((((⟨#[40, 41, 44, 46, 60, 61, 43, 45, 42]⟩ : ByteArray)[i]'h).toNat : Int) = (c.toNat : Int)) || (signs.drop (i + 1)).contains c) := by
  have h' : i < signs.length := h
  have e : signs[i] = (⟨#[40, 41, 44, 46, 60, 61, 43, 45, 42]⟩ : ByteArray)[i]'h := byteAt _ i h
  rw [List.drop_eq_getElem_cons h', List.contains_cons, e]
  congr 1
  rw [Bool.eq_iff_iff]
  simp only [beq_iff_eq, decide_eq_true_eq]
  exact ⟨fun h => by rw [h], fun h => (UInt8.toNat_inj.1 (by omega)).symm⟩

set_option maxHeartbeats 8000000 in
theorem tokenAt_fn (s : ByteArray) (at_ : Nat) (hat : at_ < s.size) (hs : s.size ≤ 5000) :
    Fn 67 [.d (.str s), .d (.int .i64 at_)] (fun r => r = .tup [.d (.int .i64 (tokAt (s.data.toList.drop at_)).1), .d (.int .i64 ((tokAt (s.data.toList.drop at_)).2 : Nat))]) := by
  refine fnp_enter' _ Try.func67 rfl rfl (by kernel_rfl) ?_
  intro O w0 E0 β0
  repeat' (first | (apply ds_evC; exact rfl; (first | (with_reducible exact trivial) | omega); (first | ((with_reducible apply hv_sat); (exact rfl); omega) | (with_reducible exact rfl)); exact rfl; exact rfl; exact rfl) | apply ds_nil | apply dw_seq2 | (apply ds_region; exact rfl) | apply dw_block | apply thenD_n | (apply ds_call; exact rfl; exact rfl; apply isLetter_fn; exact rfl; (exact rfl); exact rfl; rintro _ rfl))
  have hl0 : s.data.toList.length = s.size := by simp
  have htok : tokAt (s.data.toList.drop at_) = tokAt (s[at_] :: s.data.toList.drop (at_ + 1)) := by
    rw [List.drop_eq_getElem_cons (by omega), byteAt]
  refine dw_cond rfl (fun hl => ?_) (fun hl => ?_)
  · have hres : tokAt (s.data.toList.drop at_) = (if smallB s[at_] then 1 else 2, 1 + takeW alnumB (s.data.toList.drop (at_ + 1))) := by
      rw [htok, tokAt_cons, if_pos hl]
    repeat' (first | apply dw_seq2 | apply dw_block)
    refine ds_loop (ι := Nat) (fun n => ⟨0, [(0, .d (.str s)), (1, .d (.int .i64 at_)), (6, .d (.int .u8 s[at_].toNat)), (7, .d (.int .i64 n))], []⟩)
      (fun n => 1 ≤ n ∧ at_ + n ≤ s.size ∧ n + takeW alnumB (s.data.toList.drop (at_ + n)) = 1 + takeW alnumB (s.data.toList.drop (at_ + 1))) (fun n => s.size - n) 1 ⟨by omega, by omega, rfl⟩
      (ent_ren id ⟨rfl, rfl, rfl, rfl, trivial⟩ trivial rfl rfl rfl rfl rfl rfl) ?_
    rintro n ⟨h1, h2, h3⟩
    have hstep : (h : (at_ : Int) + n < s.size) → alnumB (s[at_ + n]'(by omega)) = true → n + 1 + takeW alnumB (s.data.toList.drop (at_ + (n + 1))) = 1 + takeW alnumB (s.data.toList.drop (at_ + 1)) := fun h hp => by
      have h4 := takeW_step alnumB s.data.toList (at_ + n) (by omega) (by rw [byteAt _ _ (by omega)]; exact hp)
      rw [← Nat.add_assoc at_ n 1]; omega
    have hstop : (h : (at_ : Int) + n < s.size) → alnumB (s[at_ + n]'(by omega)) = false → 1 + takeW alnumB (s.data.toList.drop (at_ + 1)) = n := fun h hp => by
      have h4 := takeW_stop alnumB s.data.toList (at_ + n) (by omega) (by rw [byteAt _ _ (by omega)]; exact hp)
      omega
    have hend : ¬ (at_ : Int) + n < s.size → 1 + takeW alnumB (s.data.toList.drop (at_ + 1)) = n := fun h => by
      have h4 := takeW_end alnumB s.data.toList (at_ + n) (by omega)
      omega
    clear htok
    repeat' (first | (apply ds_evC; exact rfl; (first | (with_reducible exact trivial) | omega); (first | ((with_reducible apply hv_sat); (exact rfl); omega) | (with_reducible exact rfl)); exact rfl; exact rfl; exact rfl) | (apply ds_skip; exact rfl; exact rfl) | apply ds_nil | apply dw_seq2 | (apply ds_region; exact rfl) | apply dw_block | apply dw_skip | apply dw_exit | apply dw_ret | (apply dw_condT; exact rfl) | (apply dw_condF; exact rfl) | apply thenD_n | apply thenD_e | apply thenD_r | apply inB_n | apply inB_r | (apply inB_e; exact rfl) | (apply ds_call; exact rfl; exact rfl; apply isLetter_fn; exact rfl; (exact rfl); exact rfl; rintro _ rfl) | (apply ds_call; exact rfl; exact rfl; apply isDigit_fn; exact rfl; (exact rfl); exact rfl; rintro _ rfl) | (apply ds_call; exact rfl; exact rfl; apply isSmall_fn; exact rfl; (exact rfl); exact rfl; rintro _ rfl) | (apply dw_cond; exact rfl; all_goals intro hg) | ((fail_if_success (apply ds_known; exact rfl)); apply ds_guardP; exact rfl; exact rfl; exact rfl; all_goals intro hg) | ((fail_if_success (apply ds_known; exact rfl)); apply ds_guardB; exact rfl; exact rfl; exact rfl; all_goals intro hg))
    all_goals first
      | (refine ⟨n + 1, ⟨?_, ?_, ?_⟩, ent_ren id ⟨rfl, rfl, rfl, rfl, trivial⟩ trivial rfl rfl rfl rfl rfl rfl, ?_⟩
         · omega
         · omega
         · apply hstep <;> first | assumption | (unfold alnumB; simp [*])
         · omega)
      | (refine ret_2 rfl ⟨?_, ?_⟩
         · rw [hres, hg]; rfl
         · rw [hres]
           refine congrArg (fun q : Nat => D.int .i64 (q : Int)) (Eq.symm ?_)
           first
             | (apply hend; assumption)
             | (apply hstop <;> first | assumption | (unfold alnumB; simp [*])))
  · repeat' (first | (apply ds_evC; exact rfl; (with_reducible exact trivial); (with_reducible exact rfl); exact rfl; exact rfl; exact rfl) | apply ds_nil | apply dw_seq2 | (apply ds_region; exact rfl) | apply thenD_n | (apply ds_call; exact rfl; exact rfl; apply isDigit_fn; exact rfl; (exact rfl); exact rfl; rintro _ rfl))
    refine dw_cond rfl (fun hd => ?_) (fun hd => ?_)
    · have hres : tokAt (s.data.toList.drop at_) = (3, 1 + takeW digitB (s.data.toList.drop (at_ + 1))) := by
        rw [htok, tokAt_cons, if_neg (by rw [hl]; exact Bool.false_ne_true), if_pos hd]
      repeat' (first | apply dw_seq2 | apply dw_block)
      refine ds_loop (ι := Nat) (fun n => ⟨0, [(0, .d (.str s)), (1, .d (.int .i64 at_)), (6, .d (.int .u8 s[at_].toNat)), (7, .d (.int .i64 n))], []⟩)
        (fun n => 1 ≤ n ∧ at_ + n ≤ s.size ∧ n + takeW digitB (s.data.toList.drop (at_ + n)) = 1 + takeW digitB (s.data.toList.drop (at_ + 1))) (fun n => s.size - n) 1 ⟨by omega, by omega, rfl⟩
        (ent_ren id ⟨rfl, rfl, rfl, rfl, trivial⟩ trivial rfl rfl rfl rfl rfl rfl) ?_
      rintro n ⟨h1, h2, h3⟩
      have hstep : (h : (at_ : Int) + n < s.size) → digitB (s[at_ + n]'(by omega)) = true → n + 1 + takeW digitB (s.data.toList.drop (at_ + (n + 1))) = 1 + takeW digitB (s.data.toList.drop (at_ + 1)) := fun h hp => by
        have h4 := takeW_step digitB s.data.toList (at_ + n) (by omega) (by rw [byteAt _ _ (by omega)]; exact hp)
        rw [← Nat.add_assoc at_ n 1]; omega
      have hstop : (h : (at_ : Int) + n < s.size) → digitB (s[at_ + n]'(by omega)) = false → 1 + takeW digitB (s.data.toList.drop (at_ + 1)) = n := fun h hp => by
        have h4 := takeW_stop digitB s.data.toList (at_ + n) (by omega) (by rw [byteAt _ _ (by omega)]; exact hp)
        omega
      have hend : ¬ (at_ : Int) + n < s.size → 1 + takeW digitB (s.data.toList.drop (at_ + 1)) = n := fun h => by
        have h4 := takeW_end digitB s.data.toList (at_ + n) (by omega)
        omega
      clear htok
      repeat' (first | (apply ds_evC; exact rfl; (first | (with_reducible exact trivial) | omega); (first | ((with_reducible apply hv_sat); (exact rfl); omega) | (with_reducible exact rfl)); exact rfl; exact rfl; exact rfl) | (apply ds_skip; exact rfl; exact rfl) | apply ds_nil | apply dw_seq2 | (apply ds_region; exact rfl) | apply dw_block | apply dw_skip | apply dw_exit | apply dw_ret | (apply dw_condF; exact rfl) | apply thenD_n | apply thenD_e | apply thenD_r | apply inB_n | apply inB_r | (apply inB_e; exact rfl) | (apply ds_call; exact rfl; exact rfl; apply isDigit_fn; exact rfl; (exact rfl); exact rfl; rintro _ rfl) | (apply dw_cond; exact rfl; all_goals intro hg) | ((fail_if_success (apply ds_known; exact rfl)); apply ds_guardP; exact rfl; exact rfl; exact rfl; all_goals intro hg))
      all_goals first
        | (refine ⟨n + 1, ⟨?_, ?_, ?_⟩, ent_ren id ⟨rfl, rfl, rfl, rfl, trivial⟩ trivial rfl rfl rfl rfl rfl rfl, ?_⟩
           · omega
           · omega
           · apply hstep <;> assumption
           · omega)
        | (refine ret_2 rfl ⟨?_, ?_⟩
           · rw [hres]
           · rw [hres]
             refine congrArg (fun q : Nat => D.int .i64 (q : Int)) (Eq.symm ?_)
             first
               | (apply hend; assumption)
               | (apply hstop <;> assumption))
    · have hres : tokAt (s.data.toList.drop at_) = if pairB (s[at_] :: s.data.toList.drop (at_ + 1)) then (4, 2) else if signs.contains s[at_] then (4, 1) else (0, 0) := by
        rw [htok, tokAt_cons, if_neg (by rw [hl]; exact Bool.false_ne_true), if_neg (by rw [hd]; exact Bool.false_ne_true)]
      repeat' (first | (apply ds_evC; exact rfl; (first | (with_reducible exact trivial) | omega); (with_reducible exact rfl); exact rfl; exact rfl; exact rfl) | apply ds_nil | apply dw_seq2 | (apply ds_region; exact rfl) | apply dw_skip | apply thenD_n | apply inB_n)
      refine dw_condP rfl (fun h2 => ?_) (fun h2 => ?_)
      · have hp := pair_ext s at_ (by omega)
        repeat' (first | (apply ds_evC; exact rfl; (first | (with_reducible exact trivial) | omega); (first | ((with_reducible apply hv_ext); (exact rfl); (exact nat_add_2 _)) | (with_reducible exact rfl)); exact rfl; exact rfl; exact rfl) | (apply ds_skip; exact rfl; exact rfl) | apply ds_nil | apply dw_seq2 | (apply ds_region; exact rfl) | apply dw_block | apply dw_skip | apply dw_ret | (apply dw_condT; exact rfl) | apply thenD_n | apply thenD_r | (apply dw_condP; exact rfl; all_goals intro hg) | ((fail_if_success (apply ds_known; exact rfl)); apply ds_guardP; exact rfl; exact rfl; exact rfl; all_goals intro hg))
        all_goals first
          | (refine ret_2 rfl ⟨?_, ?_⟩ <;> (rw [hres, hp]; simp [*]; done))
          | skip
        have hpf : pairB (s[at_] :: s.data.toList.drop (at_ + 1)) = false := by rw [hp]; simp [*]
        rw [hpf] at hres
        refine ds_loop (ι := Nat) (fun i => ⟨0, [(6, .d (.int .u8 s[at_].toNat)), (9, .d (.str ⟨#[40, 41, 44, 46, 60, 61, 43, 45, 42]⟩)), (10, .d (.int .i64 i))], []⟩)
          (fun i => i ≤ 9 ∧ signs.contains s[at_] = (signs.drop i).contains s[at_]) (fun i => 9 - i) 0 ⟨by omega, rfl⟩ (ent_ren id ⟨rfl, rfl, rfl, trivial⟩ trivial rfl rfl rfl rfl rfl rfl) ?_
        rintro i ⟨hi, hc⟩
        have hst := fun h => signs_step s[at_] i h
        have h9 : ((⟨#[40, 41, 44, 46, 60, 61, 43, 45, 42]⟩ : ByteArray).size : Int) = 9 := rfl
        repeat' (first | (apply ds_evC; exact rfl; (first | (with_reducible exact trivial) | omega); (first | ((with_reducible apply hv_sat); (exact rfl); omega) | (with_reducible exact rfl)); exact rfl; exact rfl; exact rfl) | apply ds_nil | apply dw_seq2 | (apply ds_region; exact rfl) | apply dw_block | apply dw_skip | apply dw_exit | apply dw_ret | apply thenD_n | apply thenD_e | apply thenD_r | apply inB_n | apply inB_r | (apply inB_e; exact rfl) | (apply dw_condP; exact rfl; all_goals intro hg))
        all_goals first
          | (refine ret_2 rfl ⟨?_, ?_⟩
             · rw [hres, hc, hst (by rw [← Int.ofNat_lt]; assumption), decide_eq_true ‹_›]; rfl
             · rw [hres, hc, hst (by rw [← Int.ofNat_lt]; assumption), decide_eq_true ‹_›]; rfl)
          | (refine ⟨i + 1, ⟨?_, ?_⟩, ent_ren id ⟨rfl, rfl, rfl, trivial⟩ trivial rfl rfl rfl rfl rfl rfl, ?_⟩
             · omega
             · rw [hc, hst (by rw [← Int.ofNat_lt]; assumption), decide_eq_false ‹_›]; rfl
             · omega)
          | (have hi9 : i = 9 := by omega
             subst hi9
             refine ret_2 rfl ⟨?_, ?_⟩
             · rw [hres, hc]; rfl
             · rw [hres, hc]; rfl)
      · repeat' (first | (apply ds_evC; exact rfl; (with_reducible exact trivial); (with_reducible exact rfl); exact rfl; exact rfl; exact rfl) | apply ds_nil | apply dw_seq2 | (apply ds_region; exact rfl) | apply dw_block | apply dw_skip | apply thenD_n)
        have hpf : pairB (s[at_] :: s.data.toList.drop (at_ + 1)) = false := by
          rw [List.drop_of_length_le (by omega)]; unfold pairB; rfl
        rw [hpf] at hres
        refine ds_loop (ι := Nat) (fun i => ⟨0, [(6, .d (.int .u8 s[at_].toNat)), (9, .d (.str ⟨#[40, 41, 44, 46, 60, 61, 43, 45, 42]⟩)), (10, .d (.int .i64 i))], []⟩)
          (fun i => i ≤ 9 ∧ signs.contains s[at_] = (signs.drop i).contains s[at_]) (fun i => 9 - i) 0 ⟨by omega, rfl⟩ (ent_ren id ⟨rfl, rfl, rfl, trivial⟩ trivial rfl rfl rfl rfl rfl rfl) ?_
        rintro i ⟨hi, hc⟩
        have hst := fun h => signs_step s[at_] i h
        have h9 : ((⟨#[40, 41, 44, 46, 60, 61, 43, 45, 42]⟩ : ByteArray).size : Int) = 9 := rfl
        repeat' (first | (apply ds_evC; exact rfl; (first | (with_reducible exact trivial) | omega); (first | ((with_reducible apply hv_sat); (exact rfl); omega) | (with_reducible exact rfl)); exact rfl; exact rfl; exact rfl) | apply ds_nil | apply dw_seq2 | (apply ds_region; exact rfl) | apply dw_block | apply dw_skip | apply dw_exit | apply dw_ret | apply thenD_n | apply thenD_e | apply thenD_r | apply inB_n | apply inB_r | (apply inB_e; exact rfl) | (apply dw_condP; exact rfl; all_goals intro hg))
        all_goals first
          | (refine ret_2 rfl ⟨?_, ?_⟩
             · rw [hres, hc, hst (by rw [← Int.ofNat_lt]; assumption), decide_eq_true ‹_›]; rfl
             · rw [hres, hc, hst (by rw [← Int.ofNat_lt]; assumption), decide_eq_true ‹_›]; rfl)
          | (refine ⟨i + 1, ⟨?_, ?_⟩, ent_ren id ⟨rfl, rfl, rfl, trivial⟩ trivial rfl rfl rfl rfl rfl rfl, ?_⟩
             · omega
             · rw [hc, hst (by rw [← Int.ofNat_lt]; assumption), decide_eq_false ‹_›]; rfl
             · omega)
          | (have hi9 : i = 9 := by omega
             subst hi9
             refine ret_2 rfl ⟨?_, ?_⟩
             · rw [hres, hc]; rfl
             · rw [hres, hc]; rfl)
end Go.Proofs.Ytapciiffpnociaa

/- IsToken and ScanOf answer what the plain words say. Condition: none. -/
namespace Go.Proofs.Ytapciiffpnociaa
open Go Go.RowKit
attribute [local irreducible] DW DS DL DQ Ev FnOk FnP thenD inBlockD DT

def isTok (kind : Int) (s : ByteArray) : Bool :=
  if h : 0 < s.size then
    decide (s.size ≤ 5000) && decide (kind ≠ 0) && decide ((tokAt s.data.toList).1 = kind) && decide ((tokAt s.data.toList).2 = s.size) && decide (tokErr kind s.size s[0] = 0)
  else false

theorem tokErr_eq (kind : Int) (n : Nat) (c : UInt8) : tokErr kind n c = if kind = 0 then 1 else if ((kind = 1 ∨ kind = 2) ∧ 12 < n) ∨ (kind = 3 ∧ 7 < n) then 2 else if kind = 3 ∧ 1 < n ∧ c = 48 then 1 else 0 := by
  unfold tokErr; rfl

theorem size_zero (s : ByteArray) (h : s = ⟨#[]⟩) : s.size = 0 := by rw [h]; rfl
theorem size_pos (s : ByteArray) (h : ¬ s = ⟨#[]⟩) : 0 < s.size := by
  rcases Nat.eq_zero_or_pos s.size with h0 | h0
  · exact absurd (ByteArray.ext (Array.eq_empty_of_size_eq_zero h0)) h
  · exact h0
theorem u8i (c d : UInt8) : ((c.toNat : Int) = (d.toNat : Int)) = (c = d) := by
  rw [eq_iff_iff]
  exact ⟨fun h => UInt8.toNat_inj.1 (by omega), fun h => by rw [h]⟩

theorem u48 (c : UInt8) : ((c.toNat : Int) = 48) = (c = 48) := u8i c 48
theorem natc_eq (a b : Nat) : ((a : Int) = (b : Int)) = (a = b) := by rw [eq_iff_iff]; omega
theorem natc_lt1 (b : Nat) : ((1 : Int) < (b : Int)) = (1 < b) := by rw [eq_iff_iff]; omega
theorem natc_lt7 (b : Nat) : ((7 : Int) < (b : Int)) = (7 < b) := by rw [eq_iff_iff]; omega
theorem natc_lt12 (b : Nat) : ((12 : Int) < (b : Int)) = (12 < b) := by rw [eq_iff_iff]; omega
theorem natc_le1 (b : Nat) : ((b : Int) ≤ 1) = (b ≤ 1) := by rw [eq_iff_iff]; omega
theorem natc_le7 (b : Nat) : ((b : Int) ≤ 7) = (b ≤ 7) := by rw [eq_iff_iff]; omega
theorem natc_le12 (b : Nat) : ((b : Int) ≤ 12) = (b ≤ 12) := by rw [eq_iff_iff]; omega

set_option maxHeartbeats 8000000 in
theorem isToken_fn (kind : Int) (s : ByteArray) : Fn 70 [.d (.int .i64 kind), .d (.str s)] (fun r => r = .d (.bool (isTok kind s))) := by
  refine fnp_enter' _ Try.func70 rfl rfl (by kernel_rfl) ?_
  intro O w0 E0 β0
  repeat' (first | (apply ds_evC; exact rfl; (with_reducible exact trivial); (with_reducible exact rfl); exact rfl; exact rfl; exact rfl) | (apply ds_skip; exact rfl; exact rfl) | apply ds_nil | apply dw_seq2 | (apply ds_region; exact rfl) | apply dw_skip | apply dw_ret | (apply dw_condT; exact rfl) | apply thenD_n | apply thenD_r | (apply dw_condP; exact rfl; all_goals intro hg) | ((fail_if_success (apply ds_known; exact rfl)); apply ds_guardP; exact rfl; exact rfl; exact rfl; all_goals intro hg))
  all_goals first
    | exact ret_b rfl (by
        unfold isTok
        split
        · first
            | (simp [*]; done)
            | (exfalso
               rw [size_zero s ‹_›] at *
               omega)
            | (have h5 : ¬ s.size ≤ 5000 := by omega
               simp [h5]; done)
        · rfl)
    | skip
  have h0 := size_pos s ‹_›
  have hT := tokenAt_fn s 0 h0 (by omega)
  rw [List.drop_zero] at hT
  refine ds_call rfl rfl hT rfl rfl rfl ?_
  rintro _ rfl
  have hsz : s.size ≤ 5000 := by omega
  have hd : isTok kind s = (decide ((tokAt s.data.toList).1 = kind) && decide ((tokAt s.data.toList).2 = s.size) && decide (tokErr kind s.size s[0] = 0)) := by
    unfold isTok; rw [dif_pos h0]; simp [*]
  repeat' (first | (apply ds_evC; exact rfl; (first | (with_reducible exact trivial) | omega); (first | ((with_reducible apply hv_sat); (exact nat_lit_0); omega) | (with_reducible exact rfl)); exact rfl; exact rfl; exact rfl) | (apply ds_skip; exact rfl; exact rfl) | apply ds_nil | apply dw_seq2 | (apply ds_region; exact rfl) | apply dw_ret | apply thenD_n | ((fail_if_success (apply ds_known; exact rfl)); apply ds_guardP; exact rfl; exact rfl; exact rfl; all_goals intro hg) | ((fail_if_success (apply ds_known; exact rfl)); apply ds_guardB; exact rfl; exact rfl; exact rfl; all_goals intro hg))
  all_goals first
    | exact ret_b rfl (by
        rw [hd, tokErr_eq]
        try simp only [natc_eq, natc_lt1, natc_lt7, natc_lt12, u48] at *
        first
          | (simp_all; done)
          | (simp_all; omega)
          | (have : ¬ 7 < s.size := by omega
             simp_all; done)
          | (have : ¬ 7 < s.size := by omega
             by_cases h48 : s[0] = 48 <;> simp_all; done)
          | (have : ¬ 7 < s.size := by omega
             have : ¬ 1 < s.size := by omega
             simp_all; done)
          | (have k3 : kind = 3 := by omega
             have n7 : ¬ 7 < s.size := by omega
             have n1 : 1 < s.size := by omega
             rw [decide_eq_true ‹(tokAt s.data.toList).fst = kind›, decide_eq_true ‹(tokAt s.data.toList).snd = s.size›, k3]
             by_cases h48 : s[0] = 48 <;> simp [h48, n7, n1]; done))
end Go.Proofs.Ytapciiffpnociaa

/- ScanOf answers what the plain words say. Condition: none. -/
namespace Go.Proofs.Ytapciiffpnociaa
open Go Go.RowKit
attribute [local irreducible] DW DS DL DQ Ev FnOk FnP thenD inBlockD DT

def encScan (r : List Tok × Int × Int) : SV := .tup [.d (encToks r.1), .d (.int .i64 r.2.1), .d (.int .i64 r.2.2)]

theorem scanS_big (s : ByteArray) (h : 5000 < s.size) : scanS s = ([], 0, 2) := by unfold scanS; rw [if_pos h]
theorem scanS_ok (s : ByteArray) (h : ¬ 5000 < s.size) (l : List Tok) (e : scanAt s false 0 = .ok l) : scanS s = (l, 0, 0) := by unfold scanS; rw [if_neg h, e]
theorem scanS_err (s : ByteArray) (h : ¬ 5000 < s.size) (p e : Int) (he : scanAt s false 0 = .error (p, e)) : scanS s = ([], p, e) := by unfold scanS; rw [if_neg h, he]

def scanPre (s : ByteArray) (x : List Tok × Bool × Nat) : Prop :=
  x.2.2 ≤ s.size ∧ x.1.length ≤ x.2.2 ∧ scanAt s false 0 = (scanAt s x.2.1 x.2.2).map (x.1 ++ ·)

theorem i37 (c : UInt8) : ((c.toNat : Int) = 37) = (c = 37) := u8i c 37
theorem i32 (c : UInt8) : ((c.toNat : Int) = 32) = (c = 32) := u8i c 32
theorem i9 (c : UInt8) : ((c.toNat : Int) = 9) = (c = 9) := u8i c 9
theorem i10 (c : UInt8) : ((c.toNat : Int) = 10) = (c = 10) := u8i c 10

theorem note_step (s : ByteArray) (note : Bool) (i : Nat) (h : i < s.size) (hn : note = true ∨ (s[i].toNat : Int) = 37) : scanAt s note i = scanAt s (decide ((s[i].toNat : Int) ≠ 10)) (i + 1) := by
  rw [scanAt_note s note i h (by rw [i37] at hn; rcases hn with hn | hn <;> simp [hn])]
  congr 1
  rw [Bool.eq_iff_iff]
  simp only [ne_eq, i10]
  simp
theorem blank_step (s : ByteArray) (note : Bool) (i : Nat) (h : i < s.size) (hn : note = false) (h1 : ¬ (s[i].toNat : Int) = 37) (h2 : (s[i].toNat : Int) = 32 ∨ (s[i].toNat : Int) = 9 ∨ (s[i].toNat : Int) = 10) : scanAt s note i = scanAt s note (i + 1) := by
  subst hn
  rw [i37] at h1
  rw [i32, i9, i10] at h2
  exact scanAt_blank s i h (by simpa using h1) (by simpa [or_assoc] using h2)
theorem tok_step (s : ByteArray) (note : Bool) (i : Nat) (h : i < s.size) (hn : note = false) (h1 : ¬ (s[i].toNat : Int) = 37) (h2 : ¬ (s[i].toNat : Int) = 32) (h3 : ¬ (s[i].toNat : Int) = 9) (h4 : ¬ (s[i].toNat : Int) = 10) (q : Int × Nat) (hq : tokAt (s.data.toList.drop i) = q) :
    scanAt s note i = if tokErr q.1 q.2 s[i] = 0 then (scanAt s note (i + q.2)).map (Tok.mk q.1 i (s.extract i (i + q.2)) :: ·) else .error (i, tokErr q.1 q.2 s[i]) := by
  subst hn
  subst hq
  rw [i37] at h1
  rw [i32] at h2
  rw [i9] at h3
  rw [i10] at h4
  have e1 : (s[i] == 37) = false := by simpa using h1
  have e2 : (s[i] == 32 || s[i] == 9 || s[i] == 10) = false := by simp [h2, h3, h4]
  split
  · rename_i he
    exact scanAt_tok s i h e1 e2 he
  · rename_i he
    exact scanAt_err s i h e1 e2 he

theorem map_error (x : Int × Int) (f : List Tok → List Tok) : (Except.error x : Except (Int × Int) (List Tok)).map f = .error x := rfl
theorem map_map (x : Except (Int × Int) (List Tok)) (f g : List Tok → List Tok) : (x.map f).map g = x.map fun l => g (f l) := by cases x <;> rfl
theorem ext0 (s : ByteArray) (i n : Nat) (h : i < s.size) (h0 : 0 < (s.extract i (i + n)).size) : (s.extract i (i + n))[0] = s[i] := by
  simp [ByteArray.getElem_eq_getElem_data, ByteArray.data_extract]

theorem ext0i (s : ByteArray) (i n : Nat) (h : i < s.size) (hn : 1 ≤ n) (hb : i + n ≤ s.size) : (((s.extract i (i + n))[0]'(by rw [ByteArray.size_extract]; omega)).toNat : Int) = (s[i].toNat : Int) := by rw [ext0 s i n h]
theorem tokErr_int (kind : Int) (n : Nat) (c : UInt8) : tokErr kind n c = if kind = 0 then 1 else if ((kind = 1 ∨ kind = 2) ∧ (12 : Int) < n) ∨ (kind = 3 ∧ (7 : Int) < n) then 2 else if kind = 3 ∧ (1 : Int) < n ∧ (c.toNat : Int) = 48 then 1 else 0 := by
  simp only [natc_lt12, natc_lt7, natc_lt1, u48]
  exact tokErr_eq kind n c

set_option maxHeartbeats 2000000 in
set_option maxHeartbeats 8000000 in
theorem scanOf_fn (s : ByteArray) : Fn 15 [.d (.str s)] (fun r => r = encScan (scanS s)) := by
  refine fnp_enter' _ Try.func15 rfl rfl (by kernel_rfl) ?_
  intro O w0 E0 β0
  repeat' (first | (apply ds_evC; exact rfl; (with_reducible exact trivial); (with_reducible exact rfl); exact rfl; exact rfl; exact rfl) | apply ds_nil | apply dw_seq2 | (apply ds_region; exact rfl) | apply thenD_n)
  refine dw_condP rfl (fun hbig => ?_) (fun hbig => ?_)
  · repeat' (first | (apply ds_evC; exact rfl; (with_reducible exact trivial); (with_reducible exact rfl); exact rfl; exact rfl; exact rfl) | apply ds_nil | apply dw_seq2 | (apply ds_region; exact rfl) | apply thenD_n)
    refine dw_nild 2 3 rfl ?_
    repeat' (first | apply dw_ret | apply thenD_r)
    exact ret_3 rfl (by rw [scanS_big s (by omega)]; exact ⟨rfl, rfl, rfl⟩)
  · repeat' (first | (apply ds_evC; exact rfl; (with_reducible exact trivial); (with_reducible exact rfl); exact rfl; exact rfl; exact rfl) | apply ds_nil | apply dw_seq2 | (apply ds_region; exact rfl) | apply dw_block | apply dw_skip | apply thenD_n)
    refine dw_nilrow (t := 5) 34 3 rfl ?_
    refine ds_loop (ι := List Tok × Bool × Nat) (fun x => ⟨1, [(0, .d (.str s)), (5, .row 0), (6, .d (.bool x.2.1)), (7, .d (.int .i64 x.2.2))], [(0, .row 34 3 (x.1.map encTok))]⟩)
      (scanPre s) (fun x => s.size - x.2.2) ([], false, 0) ⟨Nat.zero_le _, Nat.le_refl _, by cases scanAt s false 0 <;> rfl⟩
      (ent_ren id ⟨rfl, rfl, rfl, rfl, trivial⟩ ⟨rfl, trivial⟩ rfl rfl rfl rfl rfl rfl) ?_
    rintro ⟨toks, note, i⟩ ⟨h1, h2, h3⟩
    dsimp only at h1 h2 h3 ⊢
    repeat' (first | (apply ds_evC; exact rfl; (with_reducible exact trivial); (with_reducible exact rfl); exact rfl; exact rfl; exact rfl) | apply ds_nil | apply dw_seq2 | (apply ds_region; exact rfl) | apply thenD_n)
    refine dw_condP rfl (fun hlt => ?_) (fun hlt => ?_)
    · have hlt' : i < s.size := by omega
      repeat' (first | (apply ds_evC; exact rfl; (first | (with_reducible exact trivial) | omega); (first | ((with_reducible apply hv_sat); (exact rfl); omega) | (with_reducible exact rfl)); exact rfl; exact rfl; exact rfl) | (apply ds_skip; exact rfl; exact rfl) | apply ds_nil | apply dw_seq2 | (apply ds_region; exact rfl) | apply dw_block | apply dw_skip | apply dw_exit | (apply dw_condT; exact rfl) | apply thenD_n | apply thenD_e | (apply inB_e; exact rfl) | (apply dw_condP; exact rfl; all_goals intro hg) | ((fail_if_success (apply ds_known; exact rfl)); apply ds_guardP; exact rfl; exact rfl; exact rfl; all_goals intro hg) | ((fail_if_success (apply ds_known; exact rfl)); apply ds_guardB; exact rfl; exact rfl; exact rfl; all_goals intro hg))
      all_goals first
        | (refine ⟨(toks, decide ((s[i].toNat : Int) ≠ 10), i + 1), ⟨?_, ?_, ?_⟩, ent_ren id ⟨rfl, rfl, rfl, rfl, trivial⟩ ⟨rfl, trivial⟩ rfl rfl rfl rfl rfl rfl, ?_⟩
           · show i + 1 ≤ s.size; omega
           · show toks.length ≤ i + 1; omega
           · show scanAt s false 0 = _; rw [h3, note_step s note i hlt' (by simp_all)]
           · show s.size - (i + 1) < s.size - i; omega)
        | (refine ⟨(toks, note, i + 1), ⟨?_, ?_, ?_⟩, ent_ren id ⟨rfl, rfl, rfl, rfl, trivial⟩ ⟨rfl, trivial⟩ rfl rfl rfl rfl rfl rfl, ?_⟩
           · show i + 1 ≤ s.size; omega
           · show toks.length ≤ i + 1; omega
           · show scanAt s false 0 = _; rw [h3, blank_step s note i hlt' (by assumption) (by assumption) (by simp_all)]
           · show s.size - (i + 1) < s.size - i; omega)
        | skip
      have hT := tokenAt_fn s i hlt' (by omega)
      have hS := tok_step s note i hlt' ‹_› ‹_› ‹_› ‹_› ‹_› _ rfl
      have hle := tokAt_le (s.data.toList.drop i)
      have hpo := tokAt_pos (s.data.toList.drop i)
      rw [List.length_drop, show s.data.toList.length = s.size by simp] at hle
      generalize tokAt (s.data.toList.drop i) = q at hT hS hle hpo
      obtain ⟨kind, n⟩ := q
      dsimp only at hT hS hle hpo
      have hez : (s.extract i (i + n)).size = n := by rw [ByteArray.size_extract]; omega
      rw [hS] at h3
      have hbad : ∀ e, tokErr kind n s[i] = e → e ≠ 0 → scanS s = ([], (i : Int), e) := fun e h h0 => scanS_err s (by omega) _ _ (by rw [h3, if_neg (by rw [h]; exact h0), h]; rfl)
      refine ds_call rfl rfl hT rfl rfl rfl ?_
      rintro _ rfl
      repeat' (first | (apply ds_evC; exact rfl; (first | (with_reducible exact trivial) | omega); (first | ((with_reducible apply hv_sat); (exact nat_lit_0); omega) | ((with_reducible apply hv_ext); (exact rfl); (exact rfl)) | (with_reducible exact rfl)); exact rfl; exact rfl; exact rfl) | (apply ds_skip; exact rfl; exact rfl) | apply ds_nil | apply dw_seq2 | (apply ds_region; exact rfl) | apply dw_skip | (apply dw_condT; exact rfl) | (apply dw_condF; exact rfl) | apply thenD_n | (apply ds_bsC; exact rfl; exact rfl; exact rfl; exact rfl) | (apply dw_condP; exact rfl; all_goals intro hg) | ((fail_if_success (apply ds_known; exact rfl)); apply ds_guardP; exact rfl; exact rfl; exact rfl; all_goals intro hg))
      all_goals first
        | (exfalso; omega)
        | (refine dw_nild 2 3 rfl ?_
           apply dw_ret
           repeat' (first | apply thenD_r | apply inB_r)
           refine ret_3 rfl ?_
           first
             | (rw [hbad 1 (by rw [tokErr_int]; repeat' split; all_goals first | omega | (have hx := ext0i s i n hlt' (by omega) (by omega); omega)) (by decide)]; exact ⟨rfl, rfl, rfl⟩)
             | (rw [hbad 2 (by rw [tokErr_int]; repeat' split; all_goals first | omega | (have hx := ext0i s i n hlt' (by omega) (by omega); omega)) (by decide)]; exact ⟨rfl, rfl, rfl⟩))
        | skip
      all_goals
        have hk0 : tokErr kind n s[i] = 0 := by rw [tokErr_int]; repeat' split; all_goals first | omega | (have hx := ext0i s i n hlt' (by omega) (by omega); omega)
        have hn1 := hpo ‹_›
        rw [if_pos hk0] at h3
        apply ds_of_dl
        refine dl_append_row (te := 34) (es := 3) rfl rfl rfl rfl rfl rfl rfl rfl rfl rfl ?_ ?_ ?_
        · show _ * 32 ≤ _
          rw [List.length_map]
          show (_ + 1) * 32 ≤ _
          omega
        · rw [List.length_map]
          show _ + 1 ≤ _
          exact Nat.le_trans (show _ ≤ 5001 by omega) (by decide)
        apply dl_of_ds
        repeat' (first | (apply ds_evC; exact rfl; (first | (with_reducible exact trivial) | omega); (with_reducible exact rfl); exact rfl; exact rfl; exact rfl) | apply ds_nil | (apply ds_region; exact rfl) | apply thenD_n | apply inB_n)
        refine ⟨(toks ++ [⟨kind, i, s.extract i (i + n)⟩], note, i + n), ⟨?_, ?_, ?_⟩, ?_, ?_⟩
        · show i + n ≤ s.size; omega
        · show (toks ++ [_]).length ≤ i + n
          rw [List.length_append]
          show _ + 1 ≤ _
          omega
        · show scanAt s false 0 = _
          rw [h3, map_map]
          simp only [List.append_assoc, List.singleton_append]
        · dsimp only
          rw [List.map_append]
          exact ent_ren (fun _ => 1) ⟨rfl, rfl, rfl, rfl, trivial⟩ ⟨rfl, trivial⟩ rfl rfl rfl rfl rfl rfl
        · show s.size - (i + n) < s.size - i; omega
    · repeat' (first | (apply ds_evC; exact rfl; (with_reducible exact trivial); (with_reducible exact rfl); exact rfl; exact rfl; exact rfl) | apply ds_nil | apply dw_seq2 | (apply ds_region; exact rfl) | apply dw_exit | apply thenD_n | apply thenD_e | (apply inB_e; exact rfl))
      refine dw_seal 2 rfl rfl ?_
      repeat' (apply dw_ret)
      refine ret_3 rfl ?_
      rw [scanS_ok s (by omega) toks (by rw [h3, scanAt_end s note i (by omega)]; exact congrArg Except.ok (List.append_nil _))]
      exact ⟨rfl, rfl, rfl⟩
end Go.Proofs.Ytapciiffpnociaa

/- The program's small calls on bytes answer what the plain words say. Condition: none. -/
namespace Go.Proofs.Ytapciiffpnociaa
open Go Go.RowKit
attribute [local irreducible] DW DS DL DQ Ev FnOk FnP thenD inBlockD DT

theorem small_eq (c : UInt8) : smallB c = (decide ((97:Int) ≤ c.toNat) && decide ((c.toNat:Int) ≤ 122)) := by unfold smallB; rfl
theorem great_eq (c : UInt8) : greatB c = (decide ((65:Int) ≤ c.toNat) && decide ((c.toNat:Int) ≤ 90)) := by unfold greatB; rfl
theorem digit_eq (c : UInt8) : digitB c = (decide ((48:Int) ≤ c.toNat) && decide ((c.toNat:Int) ≤ 57)) := by unfold digitB; rfl

set_option maxHeartbeats 8000000 in
theorem small_fn (c : UInt8) : Fn 136 [.d (.int .u8 (c.toNat : Int))] (fun r => r = .d (.bool (smallB c))) := by
  refine fnp_enter' _ Try.func136 rfl rfl (by kernel_rfl) ?_
  intro O w0 E0 β0
  repeat' (first | (apply ds_evC; exact rfl; (with_reducible exact trivial); (with_reducible exact rfl); exact rfl; exact rfl; exact rfl) | (apply ds_skip; exact rfl; exact rfl) | apply ds_nil | apply dw_seq2 | (apply ds_region; exact rfl) | apply dw_ret | apply thenD_n | ((fail_if_success (apply ds_known; exact rfl)); apply ds_guardP; exact rfl; exact rfl; exact rfl; all_goals intro hg))
  all_goals exact ret_b rfl (by rw [small_eq]; first | (simp_all; done) | (simp_all; omega))

set_option maxHeartbeats 8000000 in
theorem great_fn (c : UInt8) : Fn 137 [.d (.int .u8 (c.toNat : Int))] (fun r => r = .d (.bool (greatB c))) := by
  refine fnp_enter' _ Try.func137 rfl rfl (by kernel_rfl) ?_
  intro O w0 E0 β0
  repeat' (first | (apply ds_evC; exact rfl; (with_reducible exact trivial); (with_reducible exact rfl); exact rfl; exact rfl; exact rfl) | (apply ds_skip; exact rfl; exact rfl) | apply ds_nil | apply dw_seq2 | (apply ds_region; exact rfl) | apply dw_ret | apply thenD_n | ((fail_if_success (apply ds_known; exact rfl)); apply ds_guardP; exact rfl; exact rfl; exact rfl; all_goals intro hg))
  all_goals exact ret_b rfl (by rw [great_eq]; first | (simp_all; done) | (simp_all; omega))

set_option maxHeartbeats 8000000 in
theorem digit_fn (c : UInt8) : Fn 140 [.d (.int .u8 (c.toNat : Int))] (fun r => r = .d (.bool (digitB c))) := by
  refine fnp_enter' _ Try.func140 rfl rfl (by kernel_rfl) ?_
  intro O w0 E0 β0
  repeat' (first | (apply ds_evC; exact rfl; (with_reducible exact trivial); (with_reducible exact rfl); exact rfl; exact rfl; exact rfl) | (apply ds_skip; exact rfl; exact rfl) | apply ds_nil | apply dw_seq2 | (apply ds_region; exact rfl) | apply dw_ret | apply thenD_n | ((fail_if_success (apply ds_known; exact rfl)); apply ds_guardP; exact rfl; exact rfl; exact rfl; all_goals intro hg))
  all_goals exact ret_b rfl (by rw [digit_eq]; first | (simp_all; done) | (simp_all; omega))

set_option maxHeartbeats 8000000 in
theorem alnum_fn (c : UInt8) : Fn 139 [.d (.int .u8 (c.toNat : Int))] (fun r => r = .d (.bool (alnumB c))) := by
  refine fnp_enter' _ Try.func139 rfl rfl (by kernel_rfl) ?_
  intro O w0 E0 β0
  repeat' (first | (apply ds_evC; exact rfl; (with_reducible exact trivial); (with_reducible exact rfl); exact rfl; exact rfl; exact rfl) | (apply ds_skip; exact rfl; exact rfl) | apply ds_nil | apply dw_seq2 | (apply ds_region; exact rfl) | apply dw_ret | apply thenD_n | (apply ds_call; exact rfl; exact rfl; apply small_fn; exact rfl; (exact rfl); exact rfl; rintro _ rfl) | (apply ds_call; exact rfl; exact rfl; apply great_fn; exact rfl; (exact rfl); exact rfl; rintro _ rfl) | (apply ds_call; exact rfl; exact rfl; apply digit_fn; exact rfl; (exact rfl); exact rfl; rintro _ rfl) | ((fail_if_success (apply ds_known; exact rfl)); apply ds_guardB; exact rfl; exact rfl; exact rfl; all_goals intro hg))
  all_goals exact ret_b rfl (by unfold alnumB letterB; simp_all)
end Go.Proofs.Ytapciiffpnociaa

/- The program's scanner: what sign and skip do to it. Condition: none. -/
namespace Go.Proofs.Ytapciiffpnociaa
open Go Go.RowKit
attribute [local irreducible] DW DS DL DQ Ev FnOk FnP thenD inBlockD DT

abbrev FnS (f : FuncId) (args : List SV) (J k : Nat) (H : Hp) (R : Nat → SV → Hp → Prop) : Prop := FnOk Try.prog tab tab_ok f args J k H R
abbrev scH (s : ByteArray) (i : Nat) : Hp := [(0, .blk 99 [.d (.str s), .d (.int .i64 i)])]

set_option maxHeartbeats 8000000 in
theorem sign_fn (s : ByteArray) (i : Nat) : FnS 135 [.loc 0 0] 1 1 (scH s i) (fun k2 r H2 => k2 = 1 ∧ r = .d (.int .u8 (if h : i < s.size then (s[i].toNat : Int) else 0)) ∧ H2 = scH s i) := by
  refine fn_enter _ Try.func135 rfl rfl (by kernel_rfl) ?_
  intro O w0 E0 β0
  repeat' (first | (apply ds_evC; exact rfl; (with_reducible exact trivial); (with_reducible exact rfl); exact rfl; exact rfl; exact rfl) | apply ds_nil | (apply dt_ev; exact rfl; exact rfl; (first | (with_reducible exact trivial) | omega); (first | ((with_reducible apply hv_sat); (exact rfl); omega) | (with_reducible exact rfl)); exact rfl; exact rfl; exact rfl; exact rfl) | (apply dt_nil0; exact rfl; exact rfl; exact rfl; exact rfl) | apply dw_seq2 | (apply ds_region; exact rfl) | (apply dw_any; kernel_rfl; kernel_rfl; exact rfl; exact rfl) | apply dw_skip | apply dw_ret | apply thenD_n | apply thenD_r | (apply dw_condP; exact rfl; all_goals intro hg))
  · refine ⟨.inl rfl, _, rfl, rfl, ?_, rfl⟩
    rw [dif_pos (by omega)]; rfl
  · refine ⟨.inl rfl, _, rfl, rfl, ?_, rfl⟩
    rw [dif_neg (by omega)]; rfl

theorem note_at (s : ByteArray) (j : Nat) (h : j < s.size) (h1 : (s[j].toNat : Int) = 37) : scanAt s false j = scanAt s true j := by
  rw [note_step s false j h (.inr h1), note_step s true j h (.inl rfl)]
theorem note_in (s : ByteArray) (j : Nat) (h : j < s.size) (h1 : ¬ (s[j].toNat : Int) = 10) : scanAt s true j = scanAt s true (j + 1) := by
  rw [note_step s true j h (.inl rfl), decide_eq_true h1]
theorem note_out (s : ByteArray) (j : Nat) (h : ∀ h : j < s.size, (s[j].toNat : Int) = 10) : scanAt s true j = scanAt s false j := by
  by_cases hj : j < s.size
  · have h10 := h hj
    rw [note_step s true j hj (.inl rfl), decide_eq_false (by rw [h10]; simp), blank_step s false j hj rfl (by omega) (by omega)]
  · rw [scanAt_end s true j (by omega), scanAt_end s false j (by omega)]

set_option maxHeartbeats 8000000 in
theorem skip_fn (s : ByteArray) (i : Nat) (hi : i ≤ s.size) (hs : s.size ≤ 5000) : FnS 65 [.loc 0 0] 1 1 (scH s i)
    (fun k2 r H2 => k2 = 1 ∧ r = .tup [] ∧ ∃ j : Nat, i ≤ j ∧ j ≤ s.size ∧ scanAt s false i = scanAt s false j ∧ (∀ h : j < s.size, ¬ (s[j].toNat : Int) = 37 ∧ ¬ (s[j].toNat : Int) = 32 ∧ ¬ (s[j].toNat : Int) = 9 ∧ ¬ (s[j].toNat : Int) = 10) ∧ H2 = scH s j) := by
  refine fn_enter _ Try.func65 rfl rfl (by kernel_rfl) ?_
  intro O w0 E0 β0
  repeat' (apply dw_block)
  refine ds_loop (ι := Nat) (fun j => ⟨1, [(0, .loc 0 0)], scH s j⟩) (fun j => i ≤ j ∧ j ≤ s.size ∧ scanAt s false i = scanAt s false j) (fun j => s.size - j) i ⟨Nat.le_refl _, hi, rfl⟩
    (ent_ren id ⟨rfl, trivial⟩ ⟨rfl, trivial⟩ rfl rfl rfl rfl rfl rfl) ?_
  rintro j ⟨h1, h2, h3⟩
  repeat' (first | (apply ds_evC; exact rfl; (first | (with_reducible exact trivial) | omega); (with_reducible exact rfl); exact rfl; exact rfl; exact rfl) | apply ds_nil | (apply dt_ev; exact rfl; exact rfl; (first | (with_reducible exact trivial) | omega); (first | ((with_reducible apply hv_sat); (exact rfl); omega) | (with_reducible exact rfl)); exact rfl; exact rfl; exact rfl; exact rfl) | (apply dt_nil0; exact rfl; exact rfl; exact rfl; exact rfl) | apply dw_seq2 | (apply ds_region; exact rfl) | (apply dw_any; kernel_rfl; kernel_rfl; exact rfl; exact rfl) | apply dw_block | apply dw_skip | apply dw_exit | apply dw_ret | apply thenD_n | apply thenD_e | apply thenD_r | apply inB_n | apply inB_r | (apply inB_e; exact rfl) | (apply ds_setC; exact rfl; exact rfl; exact rfl; exact rfl) | (apply dw_condP; exact rfl; all_goals intro hg))
  all_goals first
    | (exfalso; omega)
    | (refine ⟨j + 1, ⟨by omega, by omega, h3.trans (blank_step s false j (by omega) rfl (by omega) (by omega))⟩, ent_ren id ⟨rfl, trivial⟩ ⟨rfl, trivial⟩ rfl rfl rfl rfl rfl rfl, by omega⟩)
    | (refine ⟨.inl rfl, _, rfl, rfl, rfl, j, h1, h2, h3, ?_, rfl⟩
       intro hj
       refine ⟨?_, ?_, ?_, ?_⟩ <;> omega)
    | (refine ⟨.inr rfl, _, rfl, rfl, rfl, j, h1, h2, h3, ?_, rfl⟩
       intro hj
       refine ⟨?_, ?_, ?_, ?_⟩ <;> omega)
    | skip
  all_goals
    refine ds_loop (ι := Nat) (fun m => ⟨1, [(0, .loc 0 0)], scH s m⟩) (fun m => j ≤ m ∧ m ≤ s.size ∧ scanAt s false i = scanAt s true m) (fun m => s.size - m) j
      ⟨Nat.le_refl _, h2, h3.trans (note_at s j (by omega) (by omega))⟩ (ent_ren id ⟨rfl, trivial⟩ ⟨rfl, trivial⟩ rfl rfl rfl rfl rfl rfl) ?_
    rintro m ⟨g1, g2, g3⟩
    repeat' (first | (apply ds_evC; exact rfl; (first | (with_reducible exact trivial) | omega); (with_reducible exact rfl); exact rfl; exact rfl; exact rfl) | apply ds_nil | (apply dt_ev; exact rfl; exact rfl; (first | (with_reducible exact trivial) | omega); (first | ((with_reducible apply hv_sat); (exact rfl); omega) | (with_reducible exact rfl)); exact rfl; exact rfl; exact rfl; exact rfl) | (apply dt_skipD; exact rfl; exact rfl; exact rfl) | (apply dt_nil0; exact rfl; exact rfl; exact rfl; exact rfl) | apply dw_seq2 | (apply ds_region; exact rfl) | (apply dw_any; kernel_rfl; kernel_rfl; exact rfl; exact rfl) | apply dw_block | apply dw_skip | apply dw_exit | (apply dw_condF; exact rfl) | apply thenD_n | apply thenD_e | apply inB_n | (apply inB_e; exact rfl) | (apply ds_setC; exact rfl; exact rfl; exact rfl; exact rfl) | (apply dw_condP; exact rfl; all_goals intro hg) | ((fail_if_success (apply dt_known; exact rfl)); apply dt_guardP; exact rfl; exact rfl; exact rfl; all_goals intro hg))
    all_goals first
      | (refine ⟨m + 1, ⟨by omega, by omega, g3.trans (note_in s m (by omega) (by omega))⟩, ent_ren id ⟨rfl, trivial⟩ ⟨rfl, trivial⟩ rfl rfl rfl rfl rfl rfl, by omega⟩)
      | (have hne : m ≠ j := by
           intro e
           subst e
           omega
         refine ⟨m, ⟨by omega, g2, g3.trans (note_out s m (by intro h; omega))⟩, ent_ren id ⟨rfl, trivial⟩ ⟨rfl, trivial⟩ rfl rfl rfl rfl rfl rfl, by omega⟩)
end Go.Proofs.Ytapciiffpnociaa
