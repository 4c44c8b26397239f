/- Several texts in one: ScoC StrD StrN GxWin. Condition: none. -/
import Derived.Test.YtapciiffpnociaaB11
import Derived.Test.YtapciiffpnociaaB10
import Derived.Test.YtapciiffpnociaaB09
import Derived.Test.YtapciiffpnociaaB07

/- scope's Bound. Condition: none. -/
namespace Go.Proofs.Ytapciiffpnociaa
open Go Go.RowKit
attribute [local irreducible] DW DS DL DQ Ev FnOk FnP thenD inBlockD DT

abbrev FnW (f : FuncId) (args : List SV) (J k : Nat) (H : Hp) (R : Nat → SV → Hp → Prop) : Prop := FnOk Try.prog tab tab_ok f args J k H R
abbrev bsH (bs : List Bool) : Hp := [(0, .blk 55 [.row 1]), (1, .row 4 1 (bs.map encBl))]
theorem isT_pos {bs : List Bool} {t : Trm} (h : t.var < 0) : isT bs t = true := by unfold isT; rw [decide_eq_true h]; rfl
theorem isT_neg {bs : List Bool} {t : Trm} (h : ¬ t.var < 0) (h2 : t.var < (bs.length : Int)) : isT bs t = bs[t.var.toNat]'(by omega) := by
  unfold isT
  rw [decide_eq_false h, Bool.false_or, List.getD, List.getElem?_eq_getElem (by omega)]; rfl

set_option maxHeartbeats 8000000 in
theorem isFn (bs : List Bool) (t : Trm) (hok : okT bs.length t) : FnW 226 [elTrm t, .loc 0 0] 1 2 (bsH bs) (fun k2 res H2 => k2 = 2 ∧ res = .d (.bool (isT bs t)) ∧ H2 = bsH bs) := by
  refine fn_enterR _ Try.func226 rfl rfl (by kernel_rfl) ?_
  intro O w0 E0 β0
  have la : (bs.map encBl).length = bs.length := List.length_map _
  unfold okT at hok
  by_cases hneg : t.var < 0
  · rw [isT_pos hneg]
    repeat' (first | (apply ds_evC; exact rfl; (first | (with_reducible exact trivial) | omega); (first | ((with_reducible apply hv_prow); (exact (Int.toNat_of_nonneg (by omega)).symm)) | ((with_reducible apply hv_ldrow); (apply hv_get; (omega)); exact rfl) | (with_reducible exact rfl)); exact rfl; exact rfl; exact rfl) | (apply ds_skip; exact rfl; exact rfl) | apply ds_nil | apply dw_seq2 | (apply ds_region; exact rfl) | apply dw_ret | apply thenD_n | (apply ds_newC; exact rfl; (with_reducible exact trivial); exact rfl; exact rfl; exact rfl) | ((fail_if_success (apply ds_known; exact rfl)); apply ds_guardP; exact rfl; exact rfl; exact rfl; all_goals intro hg))
    · exact ⟨.inl rfl, _, rfl, id, 2, .d (.bool true), bsH bs, rfl, ⟨rfl, rfl, trivial⟩, rfl, rfl, rfl, rfl, rfl, rfl, rfl, rfl, rfl⟩
    all_goals exact absurd hneg hg
  · rw [isT_neg hneg hok]
    repeat' (first | (apply ds_evC; exact rfl; (first | (with_reducible exact trivial) | omega); (first | ((with_reducible apply hv_prow); (exact (Int.toNat_of_nonneg (by omega)).symm)) | ((with_reducible apply hv_ldrow); (apply hv_get; (omega)); exact rfl) | (with_reducible exact rfl)); exact rfl; exact rfl; exact rfl) | (apply ds_skip; exact rfl; exact rfl) | apply ds_nil | apply dw_seq2 | (apply ds_region; exact rfl) | apply dw_ret | apply thenD_n | (apply ds_newC; exact rfl; (with_reducible exact trivial); exact rfl; exact rfl; exact rfl) | ((fail_if_success (apply ds_known; exact rfl)); apply ds_guardP; exact rfl; exact rfl; exact rfl; all_goals intro hg))
    · exact absurd hg hneg
    all_goals exact ⟨.inl rfl, _, rfl, id, 2, .d (.bool _), bsH bs, rfl, ⟨rfl, rfl, trivial⟩, rfl, rfl, rfl, rfl, rfl, rfl, rfl, rfl, rfl⟩

/-- How a round goes: what it has come to, whether it has bound anything. -/
def Fl (b0 bs : List Bool) (ch : Bool) : Prop := bs.length = b0.length ∧ bs.count false ≤ b0.count false ∧ (ch = false → bs = b0) ∧ (ch = true → bs.count false < b0.count false)
theorem Fl.refl (b0 : List Bool) : Fl b0 b0 false := ⟨rfl, Nat.le_refl _, fun _ => rfl, fun h => by cases h⟩
theorem count_set : ∀ {bs : List Bool} {i : Nat} (_ : i < bs.length), bs[i]? = some false → (bs.set i true).count false + 1 = bs.count false
  | [], _, h, _ => by simp at h
  | b :: bs, 0, _, hb => by simp at hb; subst hb; simp
  | b :: bs, i + 1, h, hb => by
    have := count_set (bs := bs) (i := i) (by simpa using h) (by simpa using hb)
    rw [List.set_cons_succ, List.count_cons, List.count_cons]
    omega
theorem setT_count {bs : List Bool} {t : Trm} (hok : okT bs.length t) (h : isT bs t = false) : (setT bs t).count false + 1 = bs.count false ∧ ¬ t.var < 0 := by
  have hn : ¬ t.var < 0 := fun hn => by rw [isT_pos hn] at h; cases h
  unfold okT at hok
  rw [isT_neg hn hok] at h
  unfold setT
  rw [if_neg hn]
  exact ⟨count_set (by omega) (by rw [List.getElem?_eq_getElem (by omega), h]), hn⟩
theorem Fl.step {b0 bs : List Bool} {ch : Bool} {t : Trm} (h : Fl b0 bs ch) (hok : okT bs.length t) : Fl b0 (setT bs t) (ch || !isT bs t) := by
  obtain ⟨h1, h2, h3, h4⟩ := h
  cases ht : isT bs t with
  | true => rw [setT_same ht, Bool.not_true, Bool.or_false]; exact ⟨h1, h2, h3, h4⟩
  | false =>
    obtain ⟨g1, _⟩ := setT_count hok ht
    rw [Bool.not_false, Bool.or_true]
    exact ⟨by rw [setT_len, h1], by omega, fun h => by (cases h), fun _ => by omega⟩

abbrev ruleB (r : Rul) : HB := .blk 143 [.d (.int .i64 r.pred), .d (.slice 2 (r.terms.map encTrm)), .d (.int .i64 r.fold), .d (.slice 4 (r.body.map encLtl)), .d (.int .i64 r.vars)]
abbrev bndH (r : Rul) (bs : List Bool) : Hp := [(0, ruleB r), (1, .row 4 1 (bs.map encBl)), (2, .blk 55 [.row 1])]
abbrev bndL (ch : Bool) : Sl := [(1, .loc 0 0), (2, .nils), (3, .loc 2 0), (4, .fn 226 [.loc 2 0]), (5, .d (.bool ch))]

theorem fires4 {bs : List Bool} {l : Ltl} (k1 : ¬ l.kind = 1) (k4 : l.kind = 4) (h : l.terms.length = 3) : firesB bs l = (isT bs (l.terms[0]'(by omega)) && isT bs (l.terms[1]'(by omega))) := by
  unfold firesB
  rw [decide_eq_false k1, decide_eq_true k4]
  obtain ⟨kind, op, pred, terms⟩ := l
  dsimp only at h ⊢
  match terms, h with
  | [a, b, c], _ => simp
theorem litTs_sub {l : Ltl} {t : Trm} (h : t ∈ litTs l) : t ∈ l.terms := by
  unfold litTs at h
  split at h
  · exact h
  · exact List.mem_of_mem_drop h
theorem foldl_take {α β : Type} (f : β → α → β) (b : β) {l : List α} {i : Nat} (h : i < l.length) : (l.take (i + 1)).foldl f b = f ((l.take i).foldl f b) l[i] := by
  rw [List.take_succ_eq_append_getElem h, List.foldl_append]; rfl
theorem bLits_len : ∀ (l : List Ltl) (bs : List Bool), (l.foldl bLit bs).length = bs.length := bRound_len

set_option maxHeartbeats 8000000 in
theorem bound_fn (r : Rul) (h0 : 0 ≤ r.vars) (h8 : r.vars ≤ 8) (hok : ∀ l ∈ r.body, ∀ t ∈ l.terms, okT r.vars.toNat t) (h3 : ∀ l ∈ r.body, l.kind = 4 → l.terms.length = 3) :
    Fn 202 [elRul r] (fun res => res = .d (.slice 1 ((boundL r).map encBl))) := by
  refine fnp_enter' _ Try.func202 rfl rfl (by kernel_rfl) ?_
  intro O w0 E0 β0
  have lb : (r.body.map encLtl).length = r.body.length := List.length_map _
  refine dw_lenA 0 3 rfl rfl (fun hk => ?_)
  repeat' (first | (apply ds_evC; exact rfl; (with_reducible exact trivial); (with_reducible exact rfl); exact rfl; exact rfl; exact rfl) | apply ds_nil | apply dw_seq2 | (apply ds_region; exact rfl) | apply thenD_n | (apply ds_newC; exact rfl; (with_reducible exact trivial); exact rfl; exact rfl; exact rfl))
  refine ds_mk ((List.replicate r.vars.toNat false).map encBl) rfl rfl (Int.toNat_of_nonneg h0).symm rfl rfl rfl rfl rfl rfl (by show 1 * _ ≤ _; omega) (by unfold maxLen; omega) (by rw [List.map_replicate]; rfl) rfl rfl ?_
  repeat' (first | (apply ds_evC; exact rfl; (with_reducible exact trivial); (with_reducible exact rfl); exact rfl; exact rfl; exact rfl) | apply ds_nil | apply dw_seq2 | (apply ds_region; exact rfl) | apply dw_block | apply thenD_n | (apply ds_newC; exact rfl; (with_reducible exact trivial); exact rfl; exact rfl; exact rfl) | (apply ds_setC; exact rfl; exact rfl; exact rfl; exact rfl))
  refine ds_loop (ι := Bool × List Bool × Nat) (fun x => ⟨3, bndL x.1, bndH r x.2.1⟩)
    (fun x => x.2.1 = bIter r.body x.2.2 (List.replicate r.vars.toNat false) ∧ (x.1 = false → bRound r.body x.2.1 = x.2.1)) (fun x => 2 * x.2.1.count false + (if x.1 then 1 else 0))
    (true, List.replicate r.vars.toNat false, 0) ⟨rfl, fun h => by cases h⟩ (ent_ren id ⟨rfl, rfl, rfl, rfl, rfl, trivial⟩ ⟨rfl, rfl, rfl, trivial⟩ rfl rfl rfl rfl rfl rfl) ?_
  rintro ⟨ch, b0, m⟩ ⟨g1, g2⟩
  dsimp only at g1 g2 ⊢
  have hlen : b0.length = r.vars.toNat := by rw [g1, bIter_len, List.length_replicate]
  cases ch with
  | false =>
    repeat' (first | (apply ds_evC; exact rfl; (with_reducible exact trivial); (with_reducible exact rfl); exact rfl; exact rfl; exact rfl) | apply ds_nil | apply dw_seq2 | (apply ds_region; exact rfl) | apply dw_exit | (apply dw_condF; exact rfl) | apply thenD_n | apply thenD_e | (apply inB_e; exact rfl))
    refine dw_ent (ent_seal 2 rfl rfl rfl) ?_
    repeat' (apply dw_ret)
    have hb : b0 = boundL r := by
      rw [g1]
      exact rest_is (fun l hl t ht => hok l hl t (litTs_sub ht)) (g1 ▸ g2 rfl)
    rw [← hb]
    exact ⟨.inl rfl, _, rfl, rfl, rfl⟩
  | true =>
    repeat' (first | (apply ds_evC; exact rfl; (with_reducible exact trivial); (with_reducible exact rfl); exact rfl; exact rfl; exact rfl) | apply ds_nil | apply dw_seq2 | (apply ds_region; exact rfl) | apply dw_block | apply dw_skip | (apply dw_condT; exact rfl) | apply thenD_n)
    refine ds_loop (ι := Nat × List Bool × Bool) (fun x => ⟨3, (17, .d (.slice 4 (r.body.map encLtl))) :: (18, .d (.int .i64 (r.body.map encLtl).length)) :: (19, .d (.int .i64 x.1)) :: bndL x.2.2, bndH r x.2.1⟩)
      (fun x => x.1 ≤ r.body.length ∧ x.2.1 = (r.body.take x.1).foldl bLit b0 ∧ Fl b0 x.2.1 x.2.2) (fun x => r.body.length - x.1)
      (0, b0, false) ⟨Nat.zero_le _, rfl, Fl.refl b0⟩ (ent_ren id ⟨rfl, rfl, rfl, rfl, rfl, rfl, rfl, rfl, trivial⟩ ⟨rfl, rfl, rfl, trivial⟩ rfl rfl rfl rfl rfl rfl) ?_
    rintro ⟨i, bs, ch⟩ ⟨f1, f2, f3⟩
    dsimp only at f1 f2 f3 ⊢
    have hbl : bs.length = r.vars.toNat := by rw [f2, bLits_len, hlen]
    by_cases hi : i < r.body.length
    · have hlok := hok r.body[i] (List.getElem_mem hi)
      have h3' := h3 r.body[i] (List.getElem_mem hi)
      have hf : bLit bs r.body[i] = (r.body.take (i + 1)).foldl bLit b0 := by rw [foldl_take bLit b0 hi, ← f2]
      repeat' ((fail_if_success (apply dw_stop 4)); (first | (apply ds_evC; exact rfl; (first | (with_reducible exact trivial) | omega); (first | ((with_reducible apply hv_row); (exact rfl); (omega)) | (with_reducible exact rfl)); exact rfl; exact rfl; exact rfl) | apply ds_nil | apply dw_seq2 | (apply ds_region; exact rfl) | apply dw_block | apply dw_skip | apply dw_exit | apply thenD_n | apply thenD_e | apply inB_n | (apply inB_e; exact rfl) | (apply ds_newC; exact rfl; (with_reducible exact trivial); exact rfl; exact rfl; exact rfl) | (apply ds_setC; exact rfl; exact rfl; exact rfl; exact rfl) | (apply dw_condP; exact rfl; all_goals intro hg)))
      · generalize r.body[i] = l at hlok h3' hf ⊢
        refine dw_cut (ι := List Trm) (fun ts => ⟨4, (8, .d (.slice 2 (ts.map encTrm))) :: (17, .d (.slice 4 (r.body.map encLtl))) :: (18, .d (.int .i64 (r.body.map encLtl).length)) :: (19, .d (.int .i64 i)) :: bndL ch, bndH r bs⟩) (fun ts => ts = if firesB bs l then litTs l else []) ?_ ?_
        · have ll : (l.terms.map encTrm).length = l.terms.length := List.length_map _
          by_cases k1 : l.kind = 1
          · repeat' (first | (apply ds_evC; exact rfl; (first | (with_reducible exact trivial) | omega); (first | ((with_reducible apply hv_row); (exact nat_lit_0); (omega)) | (with_reducible exact rfl)); exact rfl; exact rfl; exact rfl) | (apply ds_skip; exact rfl; exact rfl) | apply ds_nil | apply dw_seq2 | (apply ds_region; exact rfl) | apply dw_block | apply dw_skip | (apply dw_condF; exact rfl) | apply thenD_n | apply inB_n | (apply dw_condP; exact rfl; all_goals intro hg) | ((fail_if_success (apply ds_known; exact rfl)); apply ds_guardP; exact rfl; exact rfl; exact rfl; all_goals intro hg))
            · exact ⟨l.terms, by unfold firesB litTs; simp [k1], ent_ren id ⟨rfl, rfl, rfl, rfl, rfl, rfl, rfl, rfl, rfl, trivial⟩ ⟨rfl, rfl, rfl, trivial⟩ rfl rfl rfl rfl rfl rfl⟩
            all_goals (exfalso; omega)
          · by_cases k4 : l.kind = 4
            · have h3l := h3' k4
              have hlok' : ∀ t ∈ l.terms, okT bs.length t := by rw [hbl]; exact hlok
              have hf4 := fires4 (bs := bs) k1 k4 h3l
              have hl4 : litTs l = l.terms.drop 2 := by unfold litTs; rw [if_neg k1]
              repeat' (first | (apply ds_evC; exact rfl; (first | (with_reducible exact trivial) | omega); (first | ((with_reducible apply hv_row); (exact nat_lit_0); (omega)) | (with_reducible exact rfl)); exact rfl; exact rfl; exact rfl) | (apply ds_skip; exact rfl; exact rfl) | apply ds_nil | apply dw_seq2 | (apply ds_region; exact rfl) | apply dw_block | apply dw_skip | (apply dw_condF; exact rfl) | apply thenD_n | apply inB_n | (apply dw_condP; exact rfl; all_goals intro hg) | ((fail_if_success (apply ds_known; exact rfl)); apply ds_guardP; exact rfl; exact rfl; exact rfl; all_goals intro hg))
              all_goals try (exfalso; omega)
              refine ds_callVF (fun j => match j with | 0 => 2 | _ => 1) (isFn bs (l.terms[0]'(by omega)) (hlok' _ (List.getElem_mem _))) rfl rfl rfl rfl rfl rfl ⟨rfl, rfl, trivial⟩ rfl rfl rfl rfl rfl rfl ?_ ?_
              · rintro k2 res H2 ⟨rfl, rfl, rfl⟩
                exact ⟨rfl, rfl⟩
              rintro k2 res H2 ⟨rfl, rfl, rfl⟩
              change DS _ _ _ _ _ _ _ _
              rw [hf4]
              generalize isT bs (l.terms[0]'(by omega)) = q0
              cases q0 with
              | false =>
                repeat' (first | (apply ds_evC; exact rfl; (with_reducible exact trivial); (with_reducible exact rfl); exact rfl; exact rfl; exact rfl) | (apply ds_skip; exact rfl; exact rfl) | apply ds_nil | apply dw_skip | (apply dw_condF; exact rfl) | apply thenD_n | apply inB_n)
                all_goals exact ⟨[], rfl, ent_trans (ent_nild 8 2 rfl) (ent_ren (fun j => match j with | 0 => 0 | 1 => 5 | j => j) ⟨rfl, rfl, rfl, rfl, rfl, rfl, rfl, rfl, rfl, trivial⟩ ⟨rfl, rfl, rfl, trivial⟩ rfl rfl rfl rfl rfl rfl)⟩
              | true =>
                repeat' (apply ds_evC; exact rfl; (first | (with_reducible exact trivial) | omega); (first | ((with_reducible apply hv_row); (exact nat_add_1 _); (omega)) | (with_reducible exact rfl)); exact rfl; exact rfl; exact rfl)
                refine ds_callVF (fun j => match j with | 0 => 2 | _ => 5) (isFn bs (l.terms[1]'(by omega)) (hlok' _ (List.getElem_mem _))) rfl rfl rfl rfl rfl rfl ⟨rfl, rfl, trivial⟩ rfl rfl rfl rfl rfl rfl ?_ ?_
                · rintro k2 res H2 ⟨rfl, rfl, rfl⟩
                  exact ⟨rfl, rfl⟩
                rintro k2 res H2 ⟨rfl, rfl, rfl⟩
                change DS _ _ _ _ _ _ _ _
                generalize isT bs (l.terms[1]'(by omega)) = q1
                cases q1 with
                | false =>
                  repeat' (first | (apply ds_evC; exact rfl; (with_reducible exact trivial); (with_reducible exact rfl); exact rfl; exact rfl; exact rfl) | apply ds_nil | apply dw_skip | (apply dw_condF; exact rfl) | apply thenD_n | apply inB_n)
                  all_goals exact ⟨[], rfl, ent_trans (ent_nild 8 2 rfl) (ent_ren (fun j => match j with | 0 => 0 | 1 => 7 | j => j) ⟨rfl, rfl, rfl, rfl, rfl, rfl, rfl, rfl, rfl, trivial⟩ ⟨rfl, rfl, rfl, trivial⟩ rfl rfl rfl rfl rfl rfl)⟩
                | true =>
                  repeat' (first | (apply ds_evC; exact rfl; (with_reducible exact trivial); (with_reducible exact rfl); exact rfl; exact rfl; exact rfl) | apply ds_nil | (apply ds_slD; exact rfl; exact rfl; exact rfl; exact rfl; exact rfl; exact rfl; (refine ⟨?_, ?_, ?_⟩ <;> (omega)); ((with_reducible apply hv_drop); (exact nat_add_2 _)); exact rfl; exact rfl) | (apply ds_region; exact rfl) | (apply dw_condT; exact rfl) | apply thenD_n | apply inB_n)
                  all_goals exact ⟨(l.terms.take (l.terms.map encTrm).length).drop 2, by rw [List.take_of_length_le (by omega), hl4]; rfl, ent_ren (fun j => match j with | 0 => 0 | 1 => 7 | j => j) ⟨rfl, rfl, rfl, rfl, rfl, rfl, rfl, rfl, rfl, trivial⟩ ⟨rfl, rfl, rfl, trivial⟩ rfl rfl rfl rfl rfl rfl⟩
            · have hf5 : firesB bs l = false := by unfold firesB; rw [decide_eq_false k1, decide_eq_false k4]; rfl
              repeat' (first | (apply ds_evC; exact rfl; (first | (with_reducible exact trivial) | omega); (first | ((with_reducible apply hv_row); (exact nat_lit_0); (omega)) | (with_reducible exact rfl)); exact rfl; exact rfl; exact rfl) | (apply ds_skip; exact rfl; exact rfl) | apply ds_nil | apply dw_seq2 | (apply ds_region; exact rfl) | apply dw_block | apply dw_skip | (apply dw_condF; exact rfl) | apply thenD_n | apply inB_n | (apply dw_condP; exact rfl; all_goals intro hg) | ((fail_if_success (apply ds_known; exact rfl)); apply ds_guardP; exact rfl; exact rfl; exact rfl; all_goals intro hg))
              all_goals first
                | exact absurd hg k1
                | exact absurd hg k4
                | exact ⟨[], by rw [hf5]; rfl, ent_trans (ent_nild 8 2 rfl) (ent_ren id ⟨rfl, rfl, rfl, rfl, rfl, rfl, rfl, rfl, rfl, trivial⟩ ⟨rfl, rfl, rfl, trivial⟩ rfl rfl rfl rfl rfl rfl)⟩
        · rintro ts hts
          have hbs : ts.foldl setT bs = (r.body.take (i + 1)).foldl bLit b0 := by
            rw [← hf, hts]
            unfold bLit
            split <;> rfl
          have htok : ∀ t ∈ ts, okT bs.length t := by
            intro t ht
            rw [hbl]
            rw [hts] at ht
            split at ht
            · exact hlok t (litTs_sub ht)
            · simp at ht
          clear hts
          have lt : (ts.map encTrm).length = ts.length := List.length_map _
          refine dw_len (t := 8) rfl (fun hkt => ?_)
          repeat' (first | (apply ds_evC; exact rfl; (with_reducible exact trivial); (with_reducible exact rfl); exact rfl; exact rfl; exact rfl) | apply ds_nil | apply dw_seq2 | (apply ds_region; exact rfl) | apply dw_block | apply thenD_n)
          refine ds_loop (ι := Nat × List Bool × Bool) (fun x => ⟨4, (52, .d (.slice 2 (ts.map encTrm))) :: (53, .d (.int .i64 (ts.map encTrm).length)) :: (54, .d (.int .i64 x.1)) :: (17, .d (.slice 4 (r.body.map encLtl))) :: (18, .d (.int .i64 (r.body.map encLtl).length)) :: (19, .d (.int .i64 i)) :: bndL x.2.2, bndH r x.2.1⟩)
            (fun x => x.1 ≤ ts.length ∧ x.2.1 = (ts.take x.1).foldl setT bs ∧ Fl b0 x.2.1 x.2.2) (fun x => ts.length - x.1)
            (0, bs, ch) ⟨Nat.zero_le _, rfl, f3⟩ (ent_ren id ⟨rfl, rfl, rfl, rfl, rfl, rfl, rfl, rfl, rfl, rfl, rfl, trivial⟩ ⟨rfl, rfl, rfl, trivial⟩ rfl rfl rfl rfl rfl rfl) ?_
          rintro ⟨j, bj, cj⟩ ⟨e1, e2, e3⟩
          dsimp only at e1 e2 e3 ⊢
          have hjl : bj.length = bs.length := by rw [e2, setTs_len]
          by_cases hj : j < ts.length
          · repeat' (first | (apply ds_evC; exact rfl; (first | (with_reducible exact trivial) | omega); (first | ((with_reducible apply hv_row); (exact rfl); (omega)) | (with_reducible exact rfl)); exact rfl; exact rfl; exact rfl) | apply ds_nil | apply dw_seq2 | (apply ds_region; exact rfl) | apply dw_block | apply dw_skip | apply dw_exit | apply thenD_n | apply thenD_e | apply inB_n | (apply inB_e; exact rfl) | (apply ds_newC; exact rfl; (with_reducible exact trivial); exact rfl; exact rfl; exact rfl) | (apply ds_setC; exact rfl; exact rfl; exact rfl; exact rfl) | (apply dw_condP; exact rfl; all_goals intro hg))
            all_goals try (exfalso; omega)
            have hq := htok ts[j] (List.getElem_mem hj)
            rw [← hjl] at hq
            have e4 := e3.step hq
            have e5 : (ts.take (j + 1)).foldl setT bs = setT bj ts[j] := by rw [foldl_take setT bs hj, ← e2]
            refine ds_callVF (fun j => match j with | 0 => 2 | _ => 1) (isFn bj ts[j] hq) rfl rfl rfl rfl rfl rfl ⟨rfl, rfl, trivial⟩ rfl rfl rfl rfl rfl rfl ?_ ?_
            · rintro k2 res H2 ⟨rfl, rfl, rfl⟩
              exact ⟨rfl, rfl⟩
            rintro k2 res H2 ⟨rfl, rfl, rfl⟩
            change DS _ _ _ _ _ _ _ _
            have lbj : (bj.map encBl).length = bj.length := List.length_map _
            cases hb : isT bj ts[j] with
            | true =>
              rw [hb, Bool.not_true, Bool.or_false, setT_same hb] at e4
              rw [setT_same hb] at e5
              repeat' (first | (apply ds_evC; exact rfl; (first | (with_reducible exact trivial) | omega); (with_reducible exact rfl); exact rfl; exact rfl; exact rfl) | apply ds_nil | (apply ds_region; exact rfl) | apply dw_skip | (apply dw_condF; exact rfl) | apply thenD_n | apply inB_n)
              exact ⟨(j + 1, bj, cj), ⟨by omega, e5.symm, e4⟩, ent_ren (fun j => match j with | 0 => 0 | 1 => 6 | j => j) ⟨rfl, rfl, rfl, rfl, rfl, rfl, rfl, rfl, rfl, rfl, rfl, trivial⟩ ⟨rfl, rfl, rfl, trivial⟩ rfl rfl rfl rfl rfl rfl, by show ts.length - (j + 1) < ts.length - j; omega⟩
            | false =>
              obtain ⟨_, hneg⟩ := setT_count hq hb
              have hset : setT bj ts[j] = bj.set ts[j].var.toNat true := by unfold setT; rw [if_neg hneg]
              rw [hb, Bool.not_false, Bool.or_true, hset] at e4
              rw [hset] at e5
              unfold okT at hq
              repeat' (first | (apply ds_evC; exact rfl; (first | (with_reducible exact trivial) | omega); (first | ((with_reducible apply hv_prow); (exact (Int.toNat_of_nonneg (by omega)).symm)) | (with_reducible exact rfl)); exact rfl; exact rfl; exact rfl) | apply ds_nil | (apply ds_stP; exact rfl; exact rfl; (apply hv_get; (omega)); exact rfl; exact rfl; (exact hv_set rfl); exact rfl; exact rfl; exact rfl; exact rfl; exact rfl; exact rfl) | apply dw_seq2 | (apply ds_region; exact rfl) | (apply dw_condT; exact rfl) | apply thenD_n | apply inB_n)
              exact ⟨(j + 1, bj.set ts[j].var.toNat true, true), ⟨by omega, e5.symm, e4⟩, ent_ren (fun j => match j with | 0 => 0 | 1 => 6 | j => j) ⟨rfl, rfl, rfl, rfl, rfl, rfl, rfl, rfl, rfl, rfl, rfl, trivial⟩ ⟨rfl, rfl, rfl, trivial⟩ rfl rfl rfl rfl rfl rfl, by show ts.length - (j + 1) < ts.length - j; omega⟩
          · repeat' (first | (apply ds_evC; exact rfl; (first | (with_reducible exact trivial) | omega); (first | ((with_reducible apply hv_row); (exact rfl); (omega)) | (with_reducible exact rfl)); exact rfl; exact rfl; exact rfl) | apply ds_nil | apply dw_seq2 | (apply ds_region; exact rfl) | apply dw_block | apply dw_skip | apply dw_exit | apply thenD_n | apply thenD_e | apply inB_n | (apply inB_e; exact rfl) | (apply ds_newC; exact rfl; (with_reducible exact trivial); exact rfl; exact rfl; exact rfl) | (apply ds_setC; exact rfl; exact rfl; exact rfl; exact rfl) | (apply dw_condP; exact rfl; all_goals intro hg))
            all_goals try (exfalso; omega)
            · refine ⟨(i + 1, bj, cj), ⟨by omega, ?_, e3⟩, ent_ren id ⟨rfl, rfl, rfl, rfl, rfl, rfl, rfl, rfl, trivial⟩ ⟨rfl, rfl, rfl, trivial⟩ rfl rfl rfl rfl rfl rfl, by show r.body.length - (i + 1) < r.body.length - i; omega⟩
              dsimp only
              rw [← hbs, e2, List.take_of_length_le (by omega)]
      · exfalso; omega
    · repeat' (first | (apply ds_evC; exact rfl; (first | (with_reducible exact trivial) | omega); (first | ((with_reducible apply hv_row); (first | exact nat_lit_0 | exact rfl); (omega)) | (with_reducible exact rfl)); exact rfl; exact rfl; exact rfl) | (apply ds_skip; exact rfl; exact rfl) | apply ds_nil | apply dw_seq2 | (apply ds_region; exact rfl) | apply dw_block | apply dw_skip | apply dw_exit | (apply dw_condF; exact rfl) | apply thenD_n | apply thenD_e | apply inB_n | (apply inB_e; exact rfl) | (apply ds_newC; exact rfl; (with_reducible exact trivial); exact rfl; exact rfl; exact rfl) | (apply ds_setC; exact rfl; exact rfl; exact rfl; exact rfl) | (apply dw_condP; exact rfl; all_goals intro hg) | ((fail_if_success (apply ds_known; exact rfl)); apply ds_guardP; exact rfl; exact rfl; exact rfl; all_goals intro hg))
      all_goals try (exfalso; omega)
      · refine ⟨(ch, bs, m + 1), ⟨?_, ?_⟩, ent_ren id ⟨rfl, rfl, rfl, rfl, rfl, trivial⟩ ⟨rfl, rfl, rfl, trivial⟩ rfl rfl rfl rfl rfl rfl, ?_⟩
        · dsimp only
          rw [bIter_succ, ← g1, f2, List.take_of_length_le (by omega)]; rfl
        · rintro rfl
          have hb := f3.2.2.1 rfl
          have hr : bs = bRound r.body b0 := by rw [f2, List.take_of_length_le (by omega)]; rfl
          show bRound r.body bs = bs
          rw [hb]
          rw [hb] at hr
          exact hr.symm
        · show 2 * bs.count false + (if ch = true then 1 else 0) < 2 * b0.count false + (if true = true then 1 else 0)
          have h1 := f3.2.1
          have h2 := f3.2.2.2
          cases ch with
          | false => simp; omega
          | true => have := h2 rfl; simp; omega
end Go.Proofs.Ytapciiffpnociaa

/- The program's Raw. Condition: none. -/
namespace Go.Proofs.Ytapciiffpnociaa
open Go Go.RowKit
attribute [local irreducible] DW DS DL DQ Ev FnOk FnP thenD inBlockD DWr

def predsOk (n : Nat) (l : List Rul) : Prop := ∀ r ∈ l, (0 ≤ r.pred ∧ r.pred < n) ∧ ∀ x ∈ r.body, hangsB x = true → 0 ≤ x.pred ∧ x.pred < n
def rawSV : Option (List Int) → SV
  | none => .tup [.d (.slice 1 []), .d (.bool false)]
  | some lv => .tup [.d (.slice 1 (lv.map encI)), .d (.bool true)]

abbrev prgBk (p : Prg) : HB := .blk 52 [.d (.slice 1 (p.arity.map encI)), .d (.slice 1 (p.names.map encT)), .d (.slice 5 (p.rules.map encRul))]
abbrev rawH (p : Prg) (lv : List Int) (ch : Bool) : Hp := [(0, prgBk p), (1, .blk 48 [.nils]), (2, .blk 4 [.d (.bool false)]), (3, .row 3 1 (lv.map encI)), (4, .blk 48 [.row 3]), (5, .blk 4 [.d (.bool ch)])]

set_option maxHeartbeats 8000000 in
theorem raw_fn (p : Prg) (h10 : p.arity.length ≤ 10) (h12 : p.rules.length ≤ 12) (hp : predsOk p.arity.length p.rules) : Fn 104 [elPrg p] (fun res => res = rawSV (rawL p)) := by
  refine fnp_enter' _ Try.func104 rfl rfl (by kernel_rfl) ?_
  intro O w0 E0 β0
  have la : (p.arity.map encI).length = p.arity.length := List.length_map _
  have lr : (p.rules.map encRul).length = p.rules.length := List.length_map _
  repeat' (first | (apply ds_evC; exact rfl; (with_reducible exact trivial); (with_reducible exact rfl); exact rfl; exact rfl; exact rfl) | apply ds_nil | apply dw_seq2 | (apply ds_region; exact rfl) | apply thenD_n | (apply ds_newC; exact rfl; (with_reducible exact trivial); exact rfl; exact rfl; exact rfl))
  refine ds_mk ((zeros p.arity.length).map encI) rfl rfl (by rw [la]) rfl rfl rfl rfl rfl rfl (by show 8 * _ ≤ _; omega) (by unfold maxLen; omega) (by unfold zeros; rw [List.map_replicate]; rfl) rfl rfl ?_
  repeat' (first | apply ds_nil | apply dw_seq2 | (apply ds_region; exact rfl) | apply dw_block | apply thenD_n | (apply ds_newC; exact rfl; (with_reducible exact trivial); exact rfl; exact rfl; exact rfl) | (apply ds_setC; exact rfl; exact rfl; exact rfl; exact rfl))
  refine ds_loop (ι := Bool × List Int × Nat) (fun x => ⟨6, [(1, .loc 0 0), (2, .loc 1 0), (3, .loc 2 0), (4, .loc 4 0), (5, .loc 5 0)], rawH p x.2.1 x.1⟩)
    (fun x => x.2.1.length = p.arity.length ∧ (∀ v ∈ x.2.1, 0 ≤ v ∧ v ≤ p.arity.length) ∧ (x.1 = true → rawL p = rawIter p.arity.length p.rules x.2.2 x.2.1 ∧ gap p.arity.length x.2.1 < x.2.2) ∧ (x.1 = false → rawL p = some x.2.1)) (fun x => x.2.2)
    (true, zeros p.arity.length, p.arity.length * p.arity.length + 1) ⟨by simp [zeros], fun v hv => by rw [List.eq_of_mem_replicate hv]; constructor <;> omega, fun _ => ⟨rfl, by rw [gap_zeros]; exact Nat.lt_succ_self _⟩, fun h => by cases h⟩
    (ent_ren id ⟨rfl, rfl, rfl, rfl, rfl, trivial⟩ ⟨rfl, rfl, rfl, rfl, rfl, rfl, trivial⟩ rfl rfl rfl rfl rfl rfl) ?_
  rintro ⟨ch, lv0, m⟩ ⟨g1, g2, g3, g4⟩
  dsimp only at g1 g2 g3 g4 ⊢
  cases ch with
  | false =>
    have g4 := g4 rfl
    repeat' (first | (apply ds_evC; exact rfl; (with_reducible exact trivial); (with_reducible exact rfl); exact rfl; exact rfl; exact rfl) | apply ds_nil | apply dw_seq2 | (apply ds_region; exact rfl) | apply dw_exit | (apply dw_condF; exact rfl) | apply thenD_n | apply thenD_e | (apply inB_e; exact rfl) | (apply ds_setC; exact rfl; exact rfl; exact rfl; exact rfl))
    refine dw_ent (ent_cellseal 1 0 3 rfl rfl rfl rfl rfl) ?_
    repeat' (apply dw_ret)
    exact ⟨.inl rfl, _, rfl, rfl, by rw [g4]; rfl⟩
  | true =>
    obtain ⟨g5, g6⟩ := g3 rfl
    obtain ⟨m, rfl⟩ : ∃ m', m = m' + 1 := ⟨m - 1, by omega⟩
    repeat' (first | (apply ds_evC; exact rfl; (with_reducible exact trivial); (with_reducible exact rfl); exact rfl; exact rfl; exact rfl) | apply ds_nil | apply dw_seq2 | (apply ds_region; exact rfl) | apply dw_block | apply dw_skip | (apply dw_condT; exact rfl) | apply thenD_n | (apply ds_setC; exact rfl; exact rfl; exact rfl; exact rfl))
    refine ds_loop (ι := Nat × List Int × Bool) (fun x => ⟨6, [(1, .loc 0 0), (2, .loc 1 0), (3, .loc 2 0), (4, .loc 4 0), (5, .loc 5 0), (17, .d (.slice 5 (p.rules.map encRul))), (18, .d (.int .i64 (p.rules.map encRul).length)), (19, .d (.int .i64 x.1))], rawH p x.2.1 x.2.2⟩)
      (fun x => x.1 ≤ p.rules.length ∧ rawRound p.arity.length p.rules lv0 = (p.rules.drop x.1).foldl (rawRule p.arity.length) (some (x.2.1, x.2.2)) ∧ Rs p.arity.length lv0 x.2.1 x.2.2) (fun x => p.rules.length - x.1)
      (0, lv0, false) ⟨Nat.zero_le _, rfl, Rs.refl g2⟩ (ent_ren id ⟨rfl, rfl, rfl, rfl, rfl, rfl, rfl, rfl, trivial⟩ ⟨rfl, rfl, rfl, rfl, rfl, rfl, trivial⟩ rfl rfl rfl rfl rfl rfl) ?_
    rintro ⟨i, lv, ch⟩ ⟨f1, f2, f3⟩
    dsimp only at f1 f2 f3 ⊢
    have ll : (lv.map encI).length = lv.length := List.length_map _
    by_cases hi : i < p.rules.length
    · repeat' (first | (apply ds_evC; exact rfl; (first | (with_reducible exact trivial) | omega); (first | ((with_reducible apply hv_row); (exact rfl); (omega)) | (with_reducible exact rfl)); exact rfl; exact rfl; exact rfl) | apply ds_nil | apply dw_seq2 | (apply ds_region; exact rfl) | apply dw_block | apply dw_skip | apply dw_exit | apply thenD_n | apply thenD_e | apply inB_n | (apply inB_e; exact rfl) | (apply ds_call; exact rfl; exact rfl; apply hangs_fn; exact rfl; (exact rfl); exact rfl; rintro _ rfl) | (apply ds_newC; exact rfl; (with_reducible exact trivial); exact rfl; exact rfl; exact rfl) | (apply ds_setC; exact rfl; exact rfl; exact rfl; exact rfl) | (apply dw_condP; exact rfl; all_goals intro hg))
      all_goals try (exfalso; omega)
      obtain ⟨hp1, hp2⟩ := hp p.rules[i] (List.getElem_mem hi)
      have hstep : (p.rules.drop i).foldl (rawRule p.arity.length) (some (lv, ch)) = (p.rules.drop (i + 1)).foldl (rawRule p.arity.length) (((p.rules[i].body.filter hangsB).drop 0).foldl (rawStep p.arity.length p.rules[i].fold p.rules[i].pred) (some (lv, ch))) := by
        rw [List.drop_eq_getElem_cons hi, List.foldl_cons, List.drop_zero]; rfl
      rw [hstep] at f2
      clear hstep
      generalize p.rules[i] = r at hp1 hp2 f2 ⊢
      refine dw_range (hangsX r) rfl rfl (hangs1_seq r) (hangsX_each r) (by simp) [(1, .loc 0 0), (2, .loc 1 0), (3, .loc 2 0), (4, .loc 4 0), (5, .loc 5 0), (7, .loc 6 0), (17, .d (.slice 5 (p.rules.map encRul))), (18, .d (.int .i64 (p.rules.map encRul).length)), (19, .d (.int .i64 i))] ⟨rfl, rfl, rfl, rfl, rfl, rfl, rfl, rfl, rfl, trivial⟩ rfl
        (ι := List Int × Bool) (fun _ x => (7, (6, ruleB r) :: rawH p x.1 x.2))
        (fun j x => rawRound p.arity.length p.rules lv0 = (p.rules.drop (i + 1)).foldl (rawRule p.arity.length) (((r.body.filter hangsB).drop j).foldl (rawStep p.arity.length r.fold r.pred) (some x)) ∧ Rs p.arity.length lv0 x.1 x.2)
        (lv, ch) ⟨f2, f3⟩ rfl ?_ ?_
      · rintro j hj ⟨lv1, ch1⟩ ⟨e1, e2⟩ O1 w1 E1 β1 l
        obtain ⟨hj', hx⟩ := hangsX_get hj
        rw [hx]
        dsimp only at e1 e2 ⊢
        have hxm := List.getElem_mem hj'
        obtain ⟨hxb, hxh⟩ := List.mem_filter.1 hxm
        obtain ⟨q1, q2⟩ := hp2 _ hxb hxh
        rw [List.drop_eq_getElem_cons hj', List.foldl_cons] at e1
        generalize (r.body.filter hangsB)[j] = x at hxb hxh q1 q2 e1 ⊢
        have ll1 : (lv1.map encI).length = lv1.length := List.length_map _
        have hl1 := e2.1
        have hA := e2.2.1 (lv1[x.pred.toNat]'(by omega)) (List.getElem_mem _)
        have hw := rawStep_if (n := p.arity.length) (fold := r.fold) (pred := r.pred) (ch := ch1) (x := x) (lv := lv1) (by omega) (by omega)
        have hnx := fun lv' ch' => Rs.next (fold := r.fold) (pred := r.pred) (x := x) (lv' := lv') (ch' := ch') e2 (by omega)
        unfold liftS at hw
        change DW _ _ _ _ ((26, .d (.bool (strictB r.fold x))) :: (25, .d (.int .i64 x.pred)) :: _) _
        generalize strictB r.fold x = sb at hw ⊢
        repeat' (first | (apply ds_evC; exact rfl; (with_reducible exact trivial); (with_reducible exact rfl); exact rfl; exact rfl; exact rfl) | apply ds_nil | apply dw_seq2 | (apply ds_region; exact rfl) | apply thenD_n)
        refine ⟨rfl, fun O2 w2 E2 β2 => ?_⟩
        cases sb with
        | true =>
          rw [if_pos rfl] at hw
          repeat' (first | (apply ds_evC; exact rfl; (first | (with_reducible exact trivial) | omega); (first | ((with_reducible apply hv_prow); (exact (Int.toNat_of_nonneg (by omega)).symm)) | ((with_reducible apply hv_ldrow); (apply hv_get; (omega)); exact rfl) | (with_reducible exact rfl)); exact rfl; exact rfl; exact rfl) | apply ds_nil | (apply ds_stP; exact rfl; exact rfl; (apply hv_get; (omega)); exact rfl; exact rfl; (exact hv_set rfl); exact rfl; exact rfl; exact rfl; exact rfl; exact rfl; exact rfl) | apply dw_seq2 | (apply ds_region; exact rfl) | apply dw_block | apply dw_skip | apply dw_ret | (apply dw_condT; exact rfl) | apply thenD_n | apply inB_n | apply inB_r | (apply ds_setC; exact rfl; exact rfl; exact rfl; exact rfl) | (apply dw_condP; exact rfl; all_goals intro hg))
          all_goals try (exfalso; omega)
          all_goals first
            | exact ⟨(lv1.set r.pred.toNat (lv1[x.pred.toNat]'(by omega) + 1), true), ⟨by rw [e1, hw, if_neg (by omega), if_pos (by omega)], hnx _ _ (by rw [hw, if_neg (by omega), if_pos (by omega)])⟩, ent_ren id trivial ⟨rfl, rfl, rfl, rfl, rfl, rfl, rfl, trivial⟩ rfl rfl rfl rfl rfl rfl⟩
            | exact ⟨(lv1, ch1), ⟨by rw [e1, hw, if_neg (by omega), if_neg (by omega)], e2⟩, ent_ren id trivial ⟨rfl, rfl, rfl, rfl, rfl, rfl, rfl, trivial⟩ rfl rfl rfl rfl rfl rfl⟩
            | (refine ⟨7, [(0, prgBk p), (1, .blk 48 [.d (.slice 1 [])]), (2, .blk 4 [.d (.bool false)])], ent_trans (ent_cellnil 1 0 1 rfl rfl rfl) (ent_ren id trivial ⟨rfl, rfl, rfl, trivial⟩ rfl rfl rfl rfl rfl rfl), ?_⟩
               repeat' (first | apply thenD_r | apply inB_r)
               exact ⟨.inl rfl, _, rfl, rfl, by rw [g5, rawIter, e1, hw, if_pos (by omega), rawStep_none, rawRule_none]; rfl⟩)
        | false =>
          simp only [Bool.false_eq_true, if_false, Int.add_zero] at hw
          repeat' (first | (apply ds_evC; exact rfl; (first | (with_reducible exact trivial) | omega); (first | ((with_reducible apply hv_prow); (exact (Int.toNat_of_nonneg (by omega)).symm)) | ((with_reducible apply hv_ldrow); (apply hv_get; (omega)); exact rfl) | (with_reducible exact rfl)); exact rfl; exact rfl; exact rfl) | apply ds_nil | (apply ds_stP; exact rfl; exact rfl; (apply hv_get; (omega)); exact rfl; exact rfl; (exact hv_set rfl); exact rfl; exact rfl; exact rfl; exact rfl; exact rfl; exact rfl) | apply dw_seq2 | (apply ds_region; exact rfl) | apply dw_block | apply dw_skip | apply dw_ret | (apply dw_condF; exact rfl) | apply thenD_n | apply inB_n | apply inB_r | (apply ds_setC; exact rfl; exact rfl; exact rfl; exact rfl) | (apply dw_condP; exact rfl; all_goals intro hg))
          all_goals try (exfalso; omega)
          all_goals first
            | exact ⟨(lv1.set r.pred.toNat (lv1[x.pred.toNat]'(by omega)), true), ⟨by rw [e1, hw, if_neg (by omega), if_pos (by omega)], hnx _ _ (by rw [hw, if_neg (by omega), if_pos (by omega)])⟩, ent_ren id trivial ⟨rfl, rfl, rfl, rfl, rfl, rfl, rfl, trivial⟩ rfl rfl rfl rfl rfl rfl⟩
            | exact ⟨(lv1, ch1), ⟨by rw [e1, hw, if_neg (by omega), if_neg (by omega)], e2⟩, ent_ren id trivial ⟨rfl, rfl, rfl, rfl, rfl, rfl, rfl, trivial⟩ rfl rfl rfl rfl rfl rfl⟩
            | (refine ⟨7, [(0, prgBk p), (1, .blk 48 [.d (.slice 1 [])]), (2, .blk 4 [.d (.bool false)])], ent_trans (ent_cellnil 1 0 1 rfl rfl rfl) (ent_ren id trivial ⟨rfl, rfl, rfl, trivial⟩ rfl rfl rfl rfl rfl rfl), ?_⟩
               repeat' fail
               exact ⟨.inl rfl, _, rfl, rfl, by rw [g5, rawIter, e1, hw, if_pos (by omega), rawStep_none, rawRule_none]; rfl⟩)
      · rintro ⟨lv1, ch1⟩ ⟨e1, e2⟩
        rw [hangsX_len, List.drop_of_length_le (Nat.le_refl _)] at e1
        repeat' (first | (apply ds_evC; exact rfl; (first | (with_reducible exact trivial) | omega); (with_reducible exact rfl); exact rfl; exact rfl; exact rfl) | apply ds_nil | (apply ds_region; exact rfl) | apply thenD_n | apply inB_n)
        exact ⟨(i + 1, lv1, ch1), ⟨by dsimp only; omega, e1, e2⟩, ent_ren id ⟨rfl, rfl, rfl, rfl, rfl, rfl, rfl, rfl, trivial⟩ ⟨rfl, rfl, rfl, rfl, rfl, rfl, trivial⟩ rfl rfl rfl rfl rfl rfl, by show p.rules.length - (i + 1) < p.rules.length - i; omega⟩
    · rw [List.drop_of_length_le (by omega)] at f2
      have f2 : rawRound p.arity.length p.rules lv0 = some (lv, ch) := f2
      rw [rawIter, f2] at g5
      repeat' (first | (apply ds_evC; exact rfl; (first | (with_reducible exact trivial) | omega); (first | ((with_reducible apply hv_row); (exact rfl); (omega)) | (with_reducible exact rfl)); exact rfl; exact rfl; exact rfl) | apply ds_nil | apply dw_seq2 | (apply ds_region; exact rfl) | apply dw_block | apply dw_skip | apply dw_exit | apply thenD_n | apply thenD_e | apply inB_n | (apply inB_e; exact rfl) | (apply ds_newC; exact rfl; (with_reducible exact trivial); exact rfl; exact rfl; exact rfl) | (apply ds_setC; exact rfl; exact rfl; exact rfl; exact rfl) | (apply dw_condP; exact rfl; all_goals intro hg))
      all_goals try (exfalso; omega)
      refine ⟨(ch, lv, m), ⟨by dsimp only; rw [f3.1, g1], f3.2.1, fun h => ?_, fun h => ?_⟩, ent_ren (fun j => match j with | 5 => 6 | j => j) ⟨rfl, rfl, rfl, rfl, rfl, trivial⟩ ⟨rfl, rfl, rfl, rfl, rfl, rfl, trivial⟩ rfl rfl rfl rfl rfl rfl, by show m < m + 1; omega⟩
      · subst h
        exact ⟨g5, by have := f3.2.2.2 rfl; dsimp only; omega⟩
      · subst h
        exact g5
end Go.Proofs.Ytapciiffpnociaa

/- Plain words on what a predicate needs, as the program comes to it. Condition: none. -/
namespace Go.Proofs.Ytapciiffpnociaa
def nLit (st : List Bool × List Int) (x : Ltl) : List Bool × List Int := if st.1.getD x.pred.toNat false then st else (st.1.set x.pred.toNat true, st.2 ++ [x.pred])
def nRule (n : Int) (st : List Bool × List Int) (r : Rul) : List Bool × List Int := if r.pred = n then (r.body.filter hangsB).foldl nLit st else st
def nIter (l : List Rul) : Nat → List Bool × List Int → List Bool
  | 0, st => st.1
  | _ + 1, (out, []) => out
  | k + 1, (out, n :: left) => nIter l k (l.foldl (nRule n) (out, left))
def needsL (p : Prg) (pred : Int) : List Bool := nIter p.rules (2 * p.arity.length + 1) ((List.replicate p.arity.length false).set pred.toNat true, [pred])
theorem count_set' : ∀ {bs : List Bool} {i : Nat} (_ : i < bs.length), bs[i]? = some false → (bs.set i true).count false + 1 = bs.count false
  | [], _, h, _ => by simp at h
  | b :: bs, 0, _, hb => by simp at hb; subst hb; simp
  | b :: bs, i + 1, h, hb => by
    have := count_set' (bs := bs) (i := i) (by simpa using h) (by simpa using hb)
    rw [List.set_cons_succ, List.count_cons, List.count_cons]
    omega
/-- How it goes: lengths, and what is left to do. -/
def Ns (n m : Nat) (st : List Bool × List Int) : Prop := st.1.length = n ∧ 2 * st.1.count false + st.2.length ≤ m ∧ ∀ v ∈ st.2, 0 ≤ v ∧ v < n
theorem Ns.step {n m : Nat} {st : List Bool × List Int} {x : Ltl} (h : Ns n m st) (hx : 0 ≤ x.pred ∧ x.pred < n) : Ns n m (nLit st x) := by
  obtain ⟨h1, h2, h3⟩ := h
  unfold nLit
  split
  · exact ⟨h1, h2, h3⟩
  · rename_i hf
    have hl : x.pred.toNat < st.1.length := by omega
    have hg : st.1[x.pred.toNat]? = some false := by
      rw [List.getElem?_eq_getElem hl]
      rw [List.getD, List.getElem?_eq_getElem hl, Option.getD_some] at hf
      cases hb : st.1[x.pred.toNat] with
      | true => exact absurd hb hf
      | false => rfl
    have := count_set' hl hg
    refine ⟨by simpa using h1, by simp only [List.length_append, List.length_singleton]; omega, fun v hv => ?_⟩
    rcases List.mem_append.1 hv with hv | hv
    · exact h3 v hv
    · simp at hv; subst hv; exact hx
theorem nLit_len (st : List Bool × List Int) (x : Ltl) : (nLit st x).1.length = st.1.length := by unfold nLit; split <;> simp
theorem nLits_len : ∀ (b : List Ltl) (st : List Bool × List Int), (b.foldl nLit st).1.length = st.1.length
  | [], _ => rfl
  | x :: b, st => (nLits_len b (nLit st x)).trans (nLit_len st x)
theorem nRule_len (n : Int) (st : List Bool × List Int) (r : Rul) : (nRule n st r).1.length = st.1.length := by
  unfold nRule
  split
  · exact nLits_len _ _
  · rfl
theorem nRules_len (n : Int) : ∀ (l : List Rul) (st : List Bool × List Int), (l.foldl (nRule n) st).1.length = st.1.length
  | [], _ => rfl
  | r :: l, st => (nRules_len n l (nRule n st r)).trans (nRule_len n st r)
theorem nIter_len (l : List Rul) : ∀ (m : Nat) (st : List Bool × List Int), (nIter l m st).length = st.1.length
  | 0, _ => rfl
  | _ + 1, (_, []) => rfl
  | m + 1, (out, n :: left) => (nIter_len l m _).trans (nRules_len n l (out, left))
theorem needsL_len (p : Prg) (pred : Int) : (needsL p pred).length = p.arity.length := by unfold needsL; rw [nIter_len]; simp
end Go.Proofs.Ytapciiffpnociaa

/- A plain logic over the walk: slices over owned blocks. No program is named here. Condition: none. -/
namespace Go.Proofs.Ytapciiffpnociaa
open Go Go.RowKit

/-- The cells of elements. -/
def flatD (xs : List (List D)) : List SV := xs.flatten.map .d
theorem flatD_len {es : Nat} : ∀ {xs : List (List D)}, (∀ x ∈ xs, x.length = es) → (flatD xs).length = xs.length * es
  | [], _ => by simp [flatD]
  | x :: xs, h => by
    have h1 := flatD_len (xs := xs) fun y hy => h y (List.mem_cons_of_mem _ hy)
    have h2 := h x (List.mem_cons_self ..)
    simp only [flatD, List.flatten_cons, List.map_append, List.length_append, List.length_map, List.length_cons, Nat.add_mul] at h1 ⊢
    omega
theorem flat_rel {X e w es} : ∀ (xs : List (List D)) (us : List Value), us.length = xs.length * es → (∀ i (hi : i < xs.length), (xs[i]'hi).length = es) →
    (∀ i (hi : i < xs.length) j (hj : j < (xs[i]'hi).length), ∃ v, us[i * es + j]? = some v ∧ RepC X w v ((xs[i]'hi)[j]'hj)) → RelL X e w (flatD xs) us
  | [], us, hl, _, _ => by
    have : us = [] := List.eq_nil_of_length_eq_zero (by simpa using hl)
    subst this
    exact trivial
  | x :: xs, us, hl, he, hr => by
    have hx := he 0 (by simp)
    simp only [List.getElem_cons_zero] at hx
    have hl' : us.length = xs.length * es + es := by rw [hl, List.length_cons, Nat.add_mul]; omega
    rw [show us = us.take es ++ us.drop es from (List.take_append_drop es us).symm]
    unfold flatD
    rw [List.flatten_cons, List.map_append]
    refine RelL.append _ _ _ _ (RelL.mk _ _ (by simp; omega) fun j s v hs hv => ?_) (flat_rel (es := es) xs (us.drop es) (by simp; omega) (fun i hi => he (i + 1) (by simpa using hi)) fun i hi j hj => ?_)
    · rw [List.getElem?_map] at hs
      cases hxj : x[j]? with
      | none => rw [hxj] at hs; cases hs
      | some d =>
        rw [hxj] at hs
        simp only [Option.map_some, Option.some.injEq] at hs
        subst hs
        obtain ⟨hj, hd⟩ := List.getElem?_eq_some_iff.1 hxj
        obtain ⟨u, h1, h2⟩ := hr 0 (by simp) j (by simpa using hj)
        rw [Nat.zero_mul, Nat.zero_add] at h1
        rw [List.getElem?_take, if_pos (by omega), h1] at hv
        cases hv
        have : (x :: xs)[0] = x := rfl
        simp only [List.getElem_cons_zero, hd] at h2
        exact h2
    · obtain ⟨u, h1, h2⟩ := hr (i + 1) (by simpa using hi) j hj
      refine ⟨u, ?_, h2⟩
      rw [List.getElem?_drop, ← h1]
      congr 1
      rw [Nat.add_mul]; omega

mutual
theorem SV.ren_low0 (ρ : Nat → Nat) : ∀ (s : SV), s.low 0 = true → s.ren ρ = s
  | .junk, _ => rfl
  | .d _, _ => rfl
  | .nils, _ => rfl
  | .pd _, _ => rfl
  | .loc _ _, h => by simp [SV.low, Nat.blt] at h
  | .row _, h => by simp [SV.low, Nat.blt] at h
  | .prow _ _ _ _, h => by simp [SV.low, Nat.blt] at h
  | .sl _ _ _ _, h => by simp [SV.low, Nat.blt] at h
  | .fn f caps, h => by simp only [SV.ren, SV.renL_low0 ρ caps h]
  | .agg ss, h => by simp only [SV.ren, SV.renL_low0 ρ ss h]
  | .tup ss, h => by simp only [SV.ren, SV.renL_low0 ρ ss h]
  | .val _, _ => rfl
theorem SV.renL_low0 (ρ : Nat → Nat) : ∀ (ss : List SV), SV.lowL 0 ss = true → SV.renL ρ ss = ss
  | [], _ => rfl
  | s :: ss, h => by
    simp only [SV.lowL, Bool.and_eq_true] at h
    simp only [SV.renL, SV.ren_low0 ρ s h.1, SV.renL_low0 ρ ss h.2]
end
mutual
theorem SV.low_mono (k : Nat) : ∀ (s : SV), s.low 0 = true → s.low k = true
  | .junk, _ => rfl
  | .d _, _ => rfl
  | .nils, _ => rfl
  | .pd _, _ => rfl
  | .loc _ _, h => by simp [SV.low, Nat.blt] at h
  | .row _, h => by simp [SV.low, Nat.blt] at h
  | .prow _ _ _ _, h => by simp [SV.low, Nat.blt] at h
  | .sl _ _ _ _, h => by simp [SV.low, Nat.blt] at h
  | .fn f caps, h => SV.lowL_mono k caps h
  | .agg ss, h => SV.lowL_mono k ss h
  | .tup ss, h => SV.lowL_mono k ss h
  | .val _, _ => rfl
theorem SV.lowL_mono (k : Nat) : ∀ (ss : List SV), SV.lowL 0 ss = true → SV.lowL k ss = true
  | [], _ => rfl
  | s :: ss, h => by
    simp only [SV.lowL, Bool.and_eq_true] at h ⊢
    exact ⟨SV.low_mono k s h.1, SV.lowL_mono k ss h.2⟩
end
/-- A block without names in it, under other names. -/
theorem blk_ren {ρ : Nat → Nat} {ty : TypeId} {cs : List SV} (h : SV.lowL 0 cs = true) : some (HB.blk ty cs) = some ((HB.blk ty cs).ren ρ) := by
  simp only [HB.ren, SV.renL_low0 ρ cs h]
theorem lowL_app {k : Nat} : ∀ {a b : List SV}, SV.lowL k a = true → SV.lowL k b = true → SV.lowL k (a ++ b) = true
  | [], _, _, h => h
  | s :: a, b, h, g => by
    simp only [SV.lowL, List.cons_append, Bool.and_eq_true] at h ⊢
    exact ⟨h.1, lowL_app h.2 g⟩
theorem lowL_take {k : Nat} : ∀ {a : List SV} (n : Nat), SV.lowL k a = true → SV.lowL k (a.take n) = true
  | _, 0, _ => rfl
  | [], _ + 1, _ => rfl
  | s :: a, n + 1, h => by
    simp only [SV.lowL, List.take_succ_cons, Bool.and_eq_true] at h ⊢
    exact ⟨h.1, lowL_take n h.2⟩
theorem lowL_drop {k : Nat} : ∀ {a : List SV} (n : Nat), SV.lowL k a = true → SV.lowL k (a.drop n) = true
  | _, 0, h => h
  | [], _ + 1, _ => rfl
  | s :: a, n + 1, h => by
    simp only [SV.lowL, List.drop_succ_cons, Bool.and_eq_true] at h ⊢
    exact lowL_drop n h.2
theorem lowL_junk {k : Nat} : ∀ (n : Nat), SV.lowL k (List.replicate n .junk) = true
  | 0 => rfl
  | n + 1 => by
    rw [List.replicate_succ]
    simp only [SV.lowL, Bool.and_eq_true]
    exact ⟨rfl, lowL_junk n⟩
theorem lowL_splice {k : Nat} {a b : List SV} {o : Nat} (h : SV.lowL k a = true) (g : SV.lowL k b = true) : SV.lowL k (splice a o b) = true := lowL_app (lowL_app (lowL_take _ h) g) (lowL_drop _ h)

section
variable {P : Program} (w : World)
theorem run_append_room_at (t ty e : TypeId) (i : TypeInfo) (ht : P.underlying t = some (.slice e)) (hi : P.info? e = some i)
    (g o sLen sCap : Nat) (tb : TypeId) (cur : Array Value) (hg : w.heap[g]? = some (.cells cur tb (0, 0)))
    (a : Addr) (m c : Nat) (news : List Value) (hl : news.length = m * i.size) (hnews : ∀ j u, news[j]? = some u → w.cell? (a.add j) = some u) (h1 : ∀ u ∈ news, u.oneCell' = true)
    (hroom : sLen + m ≤ sCap) (hfit : o + sLen * i.size + news.length ≤ cur.size) :
    (Builtin.append_ #[t, t] ty #[.slice (some ⟨g, o, none⟩) sLen sCap, .slice (some a) m c]).run P w =
      .ok (.slice (some ⟨g, o, none⟩) (sLen + m) sCap) (w.setRow g (cur.toList.take (o + sLen * i.size) ++ news ++ cur.toList.drop (o + sLen * i.size + news.length)).toArray) := by
  have hf := run_firstCells_some (P := P) w i.size m a m c news hl hnews
  have hst := run_storeCells_at P g (o + sLen * i.size) tb news 0 cur w hg (by simpa using hfit) h1
  simp only [Nat.add_zero] at hst
  simp [Builtin.append_, run_underlying ht, sizeOf, typeInfo, hi, Builtin.lenOf, hroom, hf, Addr.add_lit, hst]
end

theorem zeroCells_mem {z : Array Value} {n : Nat} {v : Value} (h : v ∈ (Builtin.zeroCells z n).toList) : v ∈ z.toList := by
  unfold Builtin.zeroCells at h
  simp only [Array.toList_map, Array.toList_range, List.mem_map, List.mem_range] at h
  obtain ⟨i, hi, rfl⟩ := h
  have hpos : 0 < z.size := by
    rcases Nat.eq_zero_or_pos z.size with h0 | h0
    · rw [h0, Nat.mul_zero] at hi; omega
    · exact h0
  have := Nat.mod_lt i hpos
  simp [this]

theorem junk_rel {X e w} : ∀ (n : Nat) (vs : List Value), vs.length = n → RelL X e w (List.replicate n .junk) vs
  | 0, [], _ => trivial
  | n + 1, [], h => by simp at h
  | 0, _ :: _, h => by simp at h
  | n + 1, v :: vs, h => ⟨trivial, junk_rel n vs (by simpa using h)⟩

section
variable {Γ : Ctx} {k : Nat} {L : Sl} {H : Hp} {K : Next'} {ops : List Oper} {rest : List Oper} {t t' ty : TypeId} {x y : Operand}

/-- A slice that is written out: in an owned block. -/
theorem ds_bs_sl {d te es len : Nat} {pos : String} {af : Array Edge} {g : Option (Nat × Bool)} {ps : List (Nat × Operand)} {cs' : List SV} (ht : Γ.sh t = .slice te) (hkn : (Γ.sh te).known = true) (hes : Γ.cells te = es) (hpos : Nat.blt 0 es = true) (hz : zeroOk (tiGet Γ.τ te).zero = true) (hzl : Nat.beq (tiGet Γ.τ te).zero.length (Γ.cells te) = true) (hok : partsOk ps = true)
    (hlen : Nat.ble (len * es) 16777216 = true) (hf : fillSV (fun i => some (i * es, es)) (initSV (zeroSV Γ.τ te) (len * es)) (partsSV L ps) = some cs') (hw : wantedSV ops L g = some true) (hd : Nat.blt d Γ.n = true)
    (hk : DS false Γ ops rest K (k + 1) ((d, .sl k 0 len len) :: L) ((k, .blk te cs') :: H))   : DS false Γ ops (⟨some d, .buildSlice t len ps.toArray, ty, pos, af, g⟩ :: rest) K k L H := by
  refine dl_run hw fun e a w m => ?_
  obtain ⟨vs', f2, f3, hrun⟩ := run_buildSlice (ty := ty) ht hkn hes hpos hz hzl hok hlen hf m
  unfold Oper.wp
  rw [hrun]
  have m2 := (m.alloc (lo_not k) te f2 f3).cast (with1_lo k)
  rw [Array.toArray_toList] at m2
  have hlm : len ≤ maxLen := by
    have h1 := Nat.le_of_ble_eq_true hlen
    have h2 := Nat.le_of_ble_eq_true hpos
    have : len ≤ len * es := Nat.le_mul_of_pos_right _ h2
    unfold maxLen; omega
  refine ⟨_, _, _, _, m2.put (s := .sl k 0 len len) (Nat.le_of_ble_eq_true hd) ⟨.inr rfl, Nat.le_refl _, hlm, 0, ?_, fun _ => rfl⟩, hk⟩
  show _ = Value.slice (some ⟨(e.bind k w.heap.size).β k, 0, none⟩) len len
  rw [show (e.bind k w.heap.size).β k = w.heap.size from if_pos rfl]

/-- An append to a slice over an owned block: in it, or in a new one. -/
theorem ds_append_sl {d te t2 i off n cap es : Nat} {cs : List SV} {ys : List (List D)} {pos : String} {af : Array Edge} {g : Option (Nat × Bool)}
    (ht : Γ.sh t = .slice te) (hkn : (Γ.sh te).known = true) (hes : Γ.cells te = es) (hpos : Nat.blt 0 es = true) (hz : Nat.beq (tiGet Γ.τ te).zero.length (Γ.cells te) = true) (hzo : zeroOk (tiGet Γ.τ te).zero = true)
    (hx : opSV L x = .sl i off n cap) (hH : Hp.get H i = some (.blk te cs)) (hfit : off + cap * es ≤ cs.length) (hy : opSV L y = .d (.slice es ys)) (hne : ys ≠ []) (hw : wantedSV ops L g = some true) (hd : Nat.blt d Γ.n = true)
    (hroom : (n + ys.length) * (tiGet Γ.τ te).bytes ≤ 140737488355328) (h63 : n + ys.length ≤ maxLen)
    (hk1 : n + ys.length ≤ cap → DS false Γ ops rest K k ((d, .sl i off (n + ys.length) cap) :: L) (Hp.set H i (.blk te (splice cs (off + n * es) (flatD ys)))))
    (hk2 : ∀ cap', cap < n + ys.length → n + ys.length ≤ cap' → cap' ≤ maxLen → DS false Γ ops rest K (k + 1) ((d, .sl k 0 (n + ys.length) cap') :: L) ((k, .blk te ((cs.drop off).take (n * es) ++ flatD ys ++ List.replicate ((cap' - (n + ys.length)) * es) .junk)) :: H)) :
    DS false Γ ops (⟨some d, .call { callee := .builtin .append, args := #[x, y], argTypes := #[t, t] }, t2, pos, af, g⟩ :: rest) K k L H := by
  refine dl_run hw fun e a w m => ?_
  obtain ⟨inf, zv, hi, hzz, hs, hb, hzc⟩ := Ctx.info (Sh.known_ne hkn)
  have hut := Ctx.slice ht
  obtain ⟨hdom, hnc, hcm, o', hvx, ho'⟩ := evT m hx (cSV_sl · _ _ _ _)
  have hry := evT m hy (cSV_slice · _ _)
  obtain ⟨vs, hh, hcs, hone⟩ := (m.heap _ (Hp.mem_of hH)).2
  have hvl := RelL.length _ _ hcs
  have hsz : inf.size = es := by rw [hs, hes]
  have hpos' := Nat.le_of_ble_eq_true hpos
  obtain ⟨ao, capy, hvy, _, _, hnone⟩ := hry.slice_inv
  cases ao with
  | none => exact absurd (hnone rfl) hne
  | some ad =>
    have hr := hry
    rw [hvy] at hr
    obtain ⟨_, hye, us, u1, u2, u3, u4⟩ := sliceAddr hr
    have hyl : 0 < ys.length := List.length_pos_iff.2 hne
    have huflat : RelL (Γ.X e H) e w (flatD ys) us := flat_rel ys us u1 hye u4
    have hul := RelL.length _ _ huflat
    by_cases hcap : n + ys.length ≤ cap
    · have hoo : o' = off := ho' (by omega)
      subst hoo
      have hfit2 : o' + n * inf.size + us.length ≤ vs.toArray.size := by
        rw [u1, hsz, List.size_toArray, ← hvl, Nat.add_assoc, ← Nat.add_mul]
        exact Nat.le_trans (Nat.add_le_add_left (Nat.mul_le_mul_right _ hcap) _) hfit
      have hrun := run_append_room_at (P := Γ.P) w t t2 te inf hut hi (e.β i) o' n cap te vs.toArray hh ad ys.length capy us (by rw [hsz]; exact u1) u2 u3 hcap hfit2
      have hop : (execOp a.eval ⟨some d, .call { callee := .builtin .append, args := #[x, y], argTypes := #[t, t] }, t2, pos, af, g⟩).run Γ.P w = .ok (.value (.slice (some ⟨e.β i, o', none⟩) (n + ys.length) cap)) (w.setRow (e.β i) (vs.toArray.toList.take (o' + n * inf.size) ++ us ++ vs.toArray.toList.drop (o' + n * inf.size + us.length)).toArray) := by
        simp only [execOp, resolve, invoke, builtin, Sem.run_bind, Sem.run_pure, Result.andThen_ok, List.map_toArray, List.map_cons, List.map_nil, hvx, hvy, hrun]
      unfold Oper.wp
      rw [hop]
      have m2 : Models Γ (lo k) L (Hp.set H i (.blk te (splice cs (o' + n * es) (flatD ys)))) e a (w.setRow (e.β i) (vs.toArray.toList.take (o' + n * inf.size) ++ us ++ vs.toArray.toList.drop (o' + n * inf.size + us.length)).toArray) := by
        refine m.turn (b' := .blk te (splice cs (o' + n * es) (flatD ys))) hH ?_ rfl rfl rfl (fun c _ hc => setRow_other w _ c _ (fun h => hc (by simp [HB.owned, h]))) rfl ?_
        · simp [World.setRow]
        · refine ⟨_, setRow_heap w (e.β i) vs.toArray _ te (0, 0) hh, ?_, fun v hv => ?_⟩
          · have hkeep : ∀ b, b < w.heap.size → ¬ Γ.X e H b → (w.setRow (e.β i) (vs.toArray.toList.take (o' + n * inf.size) ++ us ++ vs.toArray.toList.drop (o' + n * inf.size + us.length)).toArray).heap[b]? = w.heap[b]? := fun b _ hb => setRow_other w _ b _ (fun h => hb (.inr (List.mem_filterMap.2 ⟨_, Hp.mem_of hH, by simp [HB.owned, h]⟩)))
            refine RelL.keep (by simp [World.setRow]) hkeep (fun _ _ h => h) _ _ ?_
            unfold splice
            rw [hsz, hul]
            exact RelL.append _ _ _ _ (RelL.append _ _ _ _ (RelL.take _ _ hcs _) huflat) (RelL.drop _ _ hcs _)
          · simp only [List.mem_append] at hv
            rcases hv with (hv | hv) | hv
            · exact hone v (List.mem_of_mem_take hv)
            · exact u3 v hv
            · exact hone v (List.mem_of_mem_drop hv)
      exact ⟨_, _, _, _, m2.put (s := .sl i o' (n + ys.length) cap) (Nat.le_of_ble_eq_true hd) ⟨hdom, hcap, hcm, o', rfl, fun _ => rfl⟩, hk1 hcap⟩
    · have hlt : cap < n + ys.length := by omega
      have hol : ((vs.drop off).take (n * es)).length = n * inf.size := by
        rw [List.length_take, List.length_drop, ← hvl, hsz]
        have : n * es ≤ cap * es := Nat.mul_le_mul_right _ hnc
        omega
      have holds : ∀ j v, ((vs.drop off).take (n * es))[j]? = some v → w.cell? ((⟨e.β i, o', none⟩ : Addr).add j) = some v := by
        intro j v hj
        have hjl : j < n * es := by
          rw [List.getElem?_take] at hj
          split at hj
          · assumption
          · cases hj
        have hn0 : 0 < cap := by
          rcases Nat.eq_zero_or_pos n with h | h
          · rw [h, Nat.zero_mul] at hjl; omega
          · omega
        have hoo := ho' hn0
        subst hoo
        rw [List.getElem?_take, if_pos hjl, List.getElem?_drop] at hj
        rw [Addr.add_at, cell_of_row w _ _ _ te (0, 0) hh]
        simpa using hj
      have h63' : ((n + ys.length : Nat) : Int) ≤ 9223372036854775807 := by unfold maxLen at h63; omega
      have hrun := run_append_grow (P := Γ.P) w t t2 te inf zv hut hi hzz ⟨e.β i, o', none⟩ n cap ((vs.drop off).take (n * es)) hol holds ad ys.length capy us (by rw [hsz]; exact u1) u2 hlt h63' (growslice_fits hlt (by rw [hb]; exact hroom))
      have hge := grownCap_ge w (n + ys.length) cap te
      have hcm' : grownCap w (n + ys.length) cap te ≤ maxLen := grownCap_le_maxLen w (n + ys.length) cap te h63
      generalize grownCap w (n + ys.length) cap te = c' at hrun hge hcm'
      have hop : (execOp a.eval ⟨some d, .call { callee := .builtin .append, args := #[x, y], argTypes := #[t, t] }, t2, pos, af, g⟩).run Γ.P w = .ok (.value (.slice (some ⟨w.heap.size, 0, none⟩) (n + ys.length) c'))
          (w.drew.alloc (.cells (((vs.drop off).take (n * es)).toArray ++ us.toArray ++ Builtin.zeroCells zv.cells (c' - (n + ys.length))) te)) := by
        simp only [execOp, resolve, invoke, builtin, Sem.run_bind, Sem.run_pure, Result.andThen_ok, List.map_toArray, List.map_cons, List.map_nil, hvx, hvy, hrun]
      unfold Oper.wp
      rw [hop]
      have m1 : Models Γ (lo k) L H e a w.drew := m.below ((Below.refl _ _).drew)
      have hzsz : zv.cells.size = es := by rw [← Array.length_toList, hzc, Nat.eq_of_beq_eq_true hz, hes]
      have m2 := (m1.alloc (lo_not k) (cs := (cs.drop off).take (n * es) ++ flatD ys ++ List.replicate ((c' - (n + ys.length)) * es) .junk)
        (vs := (vs.drop off).take (n * es) ++ us ++ (Builtin.zeroCells zv.cells (c' - (n + ys.length))).toList) te
        (RelL.append _ _ _ _ (RelL.append _ _ _ _ (RelL.take _ _ (RelL.drop _ _ (RelL.keep (w := w) (w' := w.drew) (Nat.le_refl _) (fun _ _ _ => rfl) (fun _ _ h => h) _ _ hcs) _) _) (RelL.keep (w := w) (w' := w.drew) (Nat.le_refl _) (fun _ _ _ => rfl) (fun _ _ h => h) _ _ huflat)) (junk_rel _ _ (by rw [Array.length_toList, size_zeroCells, hzsz])))
        (fun v hv => by
          simp only [List.mem_append] at hv
          rcases hv with (hv | hv) | hv
          · exact hone v (List.mem_of_mem_drop (List.mem_of_mem_take hv))
          · exact u3 v hv
          · have := zeroCells_mem hv
            rw [hzc] at this
            exact (zeroOk_spec (X := Γ.X e H) (e := e) (w := w) _ hzo).2 v this)).cast (with1_lo k)
      have harr : ((vs.drop off).take (n * es) ++ us ++ (Builtin.zeroCells zv.cells (c' - (n + ys.length))).toList).toArray = ((vs.drop off).take (n * es)).toArray ++ us.toArray ++ Builtin.zeroCells zv.cells (c' - (n + ys.length)) := by simp
      rw [harr] at m2
      refine ⟨_, _, _, _, m2.put (s := .sl k 0 (n + ys.length) c') (Nat.le_of_ble_eq_true hd) ⟨.inr rfl, hge, hcm', 0, ?_, fun _ => rfl⟩, hk2 c' hlt hge hcm'⟩
      show _ = Value.slice (some ⟨(e.bind k w.heap.size).β k, 0, none⟩) (n + ys.length) c'
      rw [show (e.bind k w.heap.size).β k = w.heap.size from if_pos rfl]
end
end Go.Proofs.Ytapciiffpnociaa
