/- Several texts in one: ScoC ScoD. Condition: none. -/
import Derived.Test.YtapciiffpnociabGreatB11

/- scope's Bound. Condition: none. -/
namespace Go.Proofs.YtapciiffpnociabGreat
open Go Go.RowKit
attribute [local irreducible] DW DS DL DQ Ev FnOk FnP thenD inBlockD DT
abbrev FnW (f : FuncId) (args : List SV) (J k : Nat) (H : Hp) (R : Nat → SV → Hp → Prop) : Prop := FnOk false Tryz.prog tab tab_ok f args J k H R
abbrev bsH (bs : List Bool) : Hp := [(0, .blk 150 [.row 1]), (1, .row 4 1 (bs.map encBl))]
theorem isT_pos {bs : List Bool} {t : Trm} (h : t.var < 0) : isT bs t = true := by unfold isT; rw [decide_eq_true h]; rfl
theorem isT_neg {bs : List Bool} {t : Trm} (h : ¬ t.var < 0) (h2 : t.var < (bs.length : Int)) : isT bs t = bs[t.var.toNat]'(by omega) := by
  unfold isT
  rw [decide_eq_false h, Bool.false_or, List.getD, List.getElem?_eq_getElem (by omega)]; rfl
set_option maxHeartbeats 8000000 in
theorem isFn (bs : List Bool) (t : Trm) (hok : okT bs.length t) : FnW 239 [elTrm t, .loc 0 0] 1 2 (bsH bs) (fun k2 res H2 => k2 = 2 ∧ res = .d (.bool (isT bs t)) ∧ H2 = bsH bs) := by
  refine fn_enterR _ Tryz.func239 rfl rfl (by kernel_rfl) ?_
  intro O w0 E0 β0
  have la : (bs.map encBl).length = bs.length := List.length_map _
  unfold okT at hok
  by_cases hneg : t.var < 0
  · rw [isT_pos hneg]
    repeat' (first | (apply ds_evC; exact rfl; (first | (with_reducible exact trivial) | omega); (first | ((with_reducible apply hv_prow); (exact (Int.toNat_of_nonneg (by omega)).symm)) | ((with_reducible apply hv_ldrow); (apply hv_get; (omega)); exact rfl) | (with_reducible exact rfl)); exact rfl; exact rfl; exact rfl) | (apply ds_skip; exact rfl; exact rfl) | apply ds_nil | apply dw_seq2 | (apply ds_region; exact rfl) | apply dw_ret | apply thenD_n | (apply ds_newC; exact rfl; (with_reducible exact trivial); exact rfl; exact rfl; exact rfl) | ((fail_if_success (apply ds_known; exact rfl)); apply ds_guardP; exact rfl; exact rfl; exact rfl; all_goals intro hg))
    · exact ⟨.inl rfl, _, rfl, id, 2, .d (.bool true), bsH bs, rfl, ⟨rfl, rfl, trivial⟩, rfl, rfl, rfl, rfl, rfl, rfl, rfl, rfl, rfl⟩
    all_goals exact absurd hneg hg
  · rw [isT_neg hneg hok]
    repeat' (first | (apply ds_evC; exact rfl; (first | (with_reducible exact trivial) | omega); (first | ((with_reducible apply hv_prow); (exact (Int.toNat_of_nonneg (by omega)).symm)) | ((with_reducible apply hv_ldrow); (apply hv_get; (omega)); exact rfl) | (with_reducible exact rfl)); exact rfl; exact rfl; exact rfl) | (apply ds_skip; exact rfl; exact rfl) | apply ds_nil | apply dw_seq2 | (apply ds_region; exact rfl) | apply dw_ret | apply thenD_n | (apply ds_newC; exact rfl; (with_reducible exact trivial); exact rfl; exact rfl; exact rfl) | ((fail_if_success (apply ds_known; exact rfl)); apply ds_guardP; exact rfl; exact rfl; exact rfl; all_goals intro hg))
    · exact absurd hg hneg
    all_goals exact ⟨.inl rfl, _, rfl, id, 2, .d (.bool _), bsH bs, rfl, ⟨rfl, rfl, trivial⟩, rfl, rfl, rfl, rfl, rfl, rfl, rfl, rfl, rfl⟩
def Fl (b0 bs : List Bool) (ch : Bool) : Prop := bs.length = b0.length ∧ bs.count false ≤ b0.count false ∧ (ch = false → bs = b0) ∧ (ch = true → bs.count false < b0.count false)
theorem Fl.refl (b0 : List Bool) : Fl b0 b0 false := ⟨rfl, Nat.le_refl _, fun _ => rfl, fun h => by cases h⟩
theorem count_set : ∀ {bs : List Bool} {i : Nat} (_ : i < bs.length), bs[i]? = some false → (bs.set i true).count false + 1 = bs.count false
  | [], _, h, _ => by simp at h
  | b :: bs, 0, _, hb => by simp at hb; subst hb; simp
  | b :: bs, i + 1, h, hb => by
    have := count_set (bs := bs) (i := i) (by simpa using h) (by simpa using hb)
    rw [List.set_cons_succ, List.count_cons, List.count_cons]
    omega
theorem setT_count {bs : List Bool} {t : Trm} (hok : okT bs.length t) (h : isT bs t = false) : (setT bs t).count false + 1 = bs.count false ∧ ¬ t.var < 0 := by
  have hn : ¬ t.var < 0 := fun hn => by rw [isT_pos hn] at h; cases h
  unfold okT at hok
  rw [isT_neg hn hok] at h
  unfold setT
  rw [if_neg hn]
  exact ⟨count_set (by omega) (by rw [List.getElem?_eq_getElem (by omega), h]), hn⟩
theorem Fl.step {b0 bs : List Bool} {ch : Bool} {t : Trm} (h : Fl b0 bs ch) (hok : okT bs.length t) : Fl b0 (setT bs t) (ch || !isT bs t) := by
  obtain ⟨h1, h2, h3, h4⟩ := h
  cases ht : isT bs t with
  | true => rw [setT_same ht, Bool.not_true, Bool.or_false]; exact ⟨h1, h2, h3, h4⟩
  | false =>
    obtain ⟨g1, _⟩ := setT_count hok ht
    rw [Bool.not_false, Bool.or_true]
    exact ⟨by rw [setT_len, h1], by omega, fun h => by (cases h), fun _ => by omega⟩
abbrev ruleB (r : Rul) : HB := .blk 87 [.d (.int .i64 r.pred), .d (.slice 2 (r.terms.map encTrm)), .d (.int .i64 r.fold), .d (.slice 4 (r.body.map encLtl)), .d (.int .i64 r.vars)]
abbrev bndH (r : Rul) (bs : List Bool) : Hp := [(0, ruleB r), (1, .row 4 1 (bs.map encBl)), (2, .blk 150 [.row 1])]
abbrev bndL (ch : Bool) : Sl := [(1, .loc 0 0), (2, .nils), (3, .loc 2 0), (4, .fn 239 [.loc 2 0]), (5, .d (.bool ch))]
theorem fires4 {bs : List Bool} {l : Ltl} (k1 : ¬ l.kind = 1) (k4 : l.kind = 4) (h : l.terms.length = 3) : firesB bs l = (isT bs (l.terms[0]'(by omega)) && isT bs (l.terms[1]'(by omega))) := by
  unfold firesB
  rw [decide_eq_false k1, decide_eq_true k4]
  obtain ⟨kind, op, pred, terms⟩ := l
  dsimp only at h ⊢
  match terms, h with
  | [a, b, c], _ => simp
theorem litTs_sub {l : Ltl} {t : Trm} (h : t ∈ litTs l) : t ∈ l.terms := by
  unfold litTs at h
  split at h
  · exact h
  · exact List.mem_of_mem_drop h
theorem foldl_take {α β : Type} (f : β → α → β) (b : β) {l : List α} {i : Nat} (h : i < l.length) : (l.take (i + 1)).foldl f b = f ((l.take i).foldl f b) l[i] := by
  rw [List.take_succ_eq_append_getElem h, List.foldl_append]; rfl
theorem bLits_len : ∀ (l : List Ltl) (bs : List Bool), (l.foldl bLit bs).length = bs.length := bRound_len
set_option maxHeartbeats 8000000 in
theorem bound_fn (r : Rul) (h0 : 0 ≤ r.vars) (h8 : r.vars ≤ 8) (hok : ∀ l ∈ r.body, ∀ t ∈ l.terms, okT r.vars.toNat t) (h3 : ∀ l ∈ r.body, l.kind = 4 → l.terms.length = 3) :
    Fn 209 [elRul r] (fun res => res = .d (.slice 1 ((boundL r).map encBl))) := by
  refine fnp_enter' _ Tryz.func209 rfl rfl (by kernel_rfl) ?_
  intro O w0 E0 β0
  have lb : (r.body.map encLtl).length = r.body.length := List.length_map _
  refine dw_lenA 0 3 rfl rfl (fun hk => ?_)
  repeat' (first | (apply ds_evC; exact rfl; (with_reducible exact trivial); (with_reducible exact rfl); exact rfl; exact rfl; exact rfl) | apply ds_nil | apply dw_seq2 | (apply ds_region; exact rfl) | apply thenD_n | (apply ds_newC; exact rfl; (with_reducible exact trivial); exact rfl; exact rfl; exact rfl))
  refine ds_mk ((List.replicate r.vars.toNat false).map encBl) rfl rfl (Int.toNat_of_nonneg h0).symm rfl rfl rfl rfl rfl rfl (by show 1 * _ ≤ _; omega) (by unfold maxLen; omega) (by rw [List.map_replicate]; rfl) rfl rfl ?_
  repeat' (first | (apply ds_evC; exact rfl; (with_reducible exact trivial); (with_reducible exact rfl); exact rfl; exact rfl; exact rfl) | apply ds_nil | apply dw_seq2 | (apply ds_region; exact rfl) | apply dw_block | apply thenD_n | (apply ds_newC; exact rfl; (with_reducible exact trivial); exact rfl; exact rfl; exact rfl) | (apply ds_setC; exact rfl; exact rfl; exact rfl; exact rfl))
  refine ds_loop (ι := Bool × List Bool × Nat) (fun x => ⟨3, bndL x.1, bndH r x.2.1⟩)
    (fun x => x.2.1 = bIter r.body x.2.2 (List.replicate r.vars.toNat false) ∧ (x.1 = false → bRound r.body x.2.1 = x.2.1)) (fun x => 2 * x.2.1.count false + (if x.1 then 1 else 0))
    (true, List.replicate r.vars.toNat false, 0) ⟨rfl, fun h => by cases h⟩ (ent_ren id ⟨rfl, rfl, rfl, rfl, rfl, trivial⟩ ⟨rfl, rfl, rfl, trivial⟩ rfl rfl rfl rfl rfl rfl) ?_
  rintro ⟨ch, b0, m⟩ ⟨g1, g2⟩
  dsimp only at g1 g2 ⊢
  have hlen : b0.length = r.vars.toNat := by rw [g1, bIter_len, List.length_replicate]
  cases ch with
  | false =>
    repeat' (first | (apply ds_evC; exact rfl; (with_reducible exact trivial); (with_reducible exact rfl); exact rfl; exact rfl; exact rfl) | apply ds_nil | apply dw_seq2 | (apply ds_region; exact rfl) | apply dw_exit | (apply dw_condF; exact rfl) | apply thenD_n | apply thenD_e | (apply inB_e; exact rfl))
    refine dw_ent (ent_seal 2 rfl rfl rfl) ?_
    repeat' (apply dw_ret)
    have hb : b0 = boundL r := by
      rw [g1]
      exact rest_is (fun l hl t ht => hok l hl t (litTs_sub ht)) (g1 ▸ g2 rfl)
    rw [← hb]
    exact ⟨.inl rfl, _, rfl, rfl, rfl⟩
  | true =>
    repeat' (first | (apply ds_evC; exact rfl; (with_reducible exact trivial); (with_reducible exact rfl); exact rfl; exact rfl; exact rfl) | apply ds_nil | apply dw_seq2 | (apply ds_region; exact rfl) | apply dw_block | apply dw_skip | (apply dw_condT; exact rfl) | apply thenD_n)
    refine ds_loop (ι := Nat × List Bool × Bool) (fun x => ⟨3, (17, .d (.slice 4 (r.body.map encLtl))) :: (18, .d (.int .i64 (r.body.map encLtl).length)) :: (19, .d (.int .i64 x.1)) :: bndL x.2.2, bndH r x.2.1⟩)
      (fun x => x.1 ≤ r.body.length ∧ x.2.1 = (r.body.take x.1).foldl bLit b0 ∧ Fl b0 x.2.1 x.2.2) (fun x => r.body.length - x.1)
      (0, b0, false) ⟨Nat.zero_le _, rfl, Fl.refl b0⟩ (ent_ren id ⟨rfl, rfl, rfl, rfl, rfl, rfl, rfl, rfl, trivial⟩ ⟨rfl, rfl, rfl, trivial⟩ rfl rfl rfl rfl rfl rfl) ?_
    rintro ⟨i, bs, ch⟩ ⟨f1, f2, f3⟩
    dsimp only at f1 f2 f3 ⊢
    have hbl : bs.length = r.vars.toNat := by rw [f2, bLits_len, hlen]
    by_cases hi : i < r.body.length
    · have hlok := hok r.body[i] (List.getElem_mem hi)
      have h3' := h3 r.body[i] (List.getElem_mem hi)
      have hf : bLit bs r.body[i] = (r.body.take (i + 1)).foldl bLit b0 := by rw [foldl_take bLit b0 hi, ← f2]
      repeat' ((fail_if_success (apply dw_stop 4)); (first | (apply ds_evC; exact rfl; (first | (with_reducible exact trivial) | omega); (first | ((with_reducible apply hv_row); (exact rfl); (omega)) | (with_reducible exact rfl)); exact rfl; exact rfl; exact rfl) | apply ds_nil | apply dw_seq2 | (apply ds_region; exact rfl) | apply dw_block | apply dw_skip | apply dw_exit | apply thenD_n | apply thenD_e | apply inB_n | (apply inB_e; exact rfl) | (apply ds_newC; exact rfl; (with_reducible exact trivial); exact rfl; exact rfl; exact rfl) | (apply ds_setC; exact rfl; exact rfl; exact rfl; exact rfl) | (apply dw_condP; exact rfl; all_goals intro hg)))
      · generalize r.body[i] = l at hlok h3' hf ⊢
        refine dw_cut (ι := List Trm) (fun ts => ⟨4, (8, .d (.slice 2 (ts.map encTrm))) :: (17, .d (.slice 4 (r.body.map encLtl))) :: (18, .d (.int .i64 (r.body.map encLtl).length)) :: (19, .d (.int .i64 i)) :: bndL ch, bndH r bs⟩) (fun ts => ts = if firesB bs l then litTs l else []) ?_ ?_
        · have ll : (l.terms.map encTrm).length = l.terms.length := List.length_map _
          by_cases k1 : l.kind = 1
          · repeat' (first | (apply ds_evC; exact rfl; (first | (with_reducible exact trivial) | omega); (first | ((with_reducible apply hv_row); (exact nat_lit_0); (omega)) | (with_reducible exact rfl)); exact rfl; exact rfl; exact rfl) | (apply ds_skip; exact rfl; exact rfl) | apply ds_nil | apply dw_seq2 | (apply ds_region; exact rfl) | apply dw_block | apply dw_skip | (apply dw_condF; exact rfl) | apply thenD_n | apply inB_n | (apply dw_condP; exact rfl; all_goals intro hg) | ((fail_if_success (apply ds_known; exact rfl)); apply ds_guardP; exact rfl; exact rfl; exact rfl; all_goals intro hg))
            · exact ⟨l.terms, by unfold firesB litTs; simp [k1], ent_ren id ⟨rfl, rfl, rfl, rfl, rfl, rfl, rfl, rfl, rfl, trivial⟩ ⟨rfl, rfl, rfl, trivial⟩ rfl rfl rfl rfl rfl rfl⟩
            all_goals (exfalso; omega)
          · by_cases k4 : l.kind = 4
            · have h3l := h3' k4
              have hlok' : ∀ t ∈ l.terms, okT bs.length t := by rw [hbl]; exact hlok
              have hf4 := fires4 (bs := bs) k1 k4 h3l
              have hl4 : litTs l = l.terms.drop 2 := by unfold litTs; rw [if_neg k1]
              repeat' (first | (apply ds_evC; exact rfl; (first | (with_reducible exact trivial) | omega); (first | ((with_reducible apply hv_row); (exact nat_lit_0); (omega)) | (with_reducible exact rfl)); exact rfl; exact rfl; exact rfl) | (apply ds_skip; exact rfl; exact rfl) | apply ds_nil | apply dw_seq2 | (apply ds_region; exact rfl) | apply dw_block | apply dw_skip | (apply dw_condF; exact rfl) | apply thenD_n | apply inB_n | (apply dw_condP; exact rfl; all_goals intro hg) | ((fail_if_success (apply ds_known; exact rfl)); apply ds_guardP; exact rfl; exact rfl; exact rfl; all_goals intro hg))
              all_goals try (exfalso; omega)
              refine ds_callVF (fun j => match j with | 0 => 2 | _ => 1) (isFn bs (l.terms[0]'(by omega)) (hlok' _ (List.getElem_mem _))) rfl rfl rfl rfl rfl rfl ⟨rfl, rfl, trivial⟩ rfl rfl rfl rfl rfl rfl ?_ ?_
              · rintro k2 res H2 ⟨rfl, rfl, rfl⟩
                exact ⟨rfl, rfl⟩
              rintro k2 res H2 ⟨rfl, rfl, rfl⟩
              change DS _ _ _ _ _ _ _ _
              rw [hf4]
              generalize isT bs (l.terms[0]'(by omega)) = q0
              cases q0 with
              | false =>
                repeat' (first | (apply ds_evC; exact rfl; (with_reducible exact trivial); (with_reducible exact rfl); exact rfl; exact rfl; exact rfl) | (apply ds_skip; exact rfl; exact rfl) | apply ds_nil | apply dw_skip | (apply dw_condF; exact rfl) | apply thenD_n | apply inB_n)
                all_goals exact ⟨[], rfl, ent_trans (ent_nild 8 2 rfl) (ent_ren (fun j => match j with | 0 => 0 | 1 => 5 | j => j) ⟨rfl, rfl, rfl, rfl, rfl, rfl, rfl, rfl, rfl, trivial⟩ ⟨rfl, rfl, rfl, trivial⟩ rfl rfl rfl rfl rfl rfl)⟩
              | true =>
                repeat' (apply ds_evC; exact rfl; (first | (with_reducible exact trivial) | omega); (first | ((with_reducible apply hv_row); (exact nat_add_1 _); (omega)) | (with_reducible exact rfl)); exact rfl; exact rfl; exact rfl)
                refine ds_callVF (fun j => match j with | 0 => 2 | _ => 5) (isFn bs (l.terms[1]'(by omega)) (hlok' _ (List.getElem_mem _))) rfl rfl rfl rfl rfl rfl ⟨rfl, rfl, trivial⟩ rfl rfl rfl rfl rfl rfl ?_ ?_
                · rintro k2 res H2 ⟨rfl, rfl, rfl⟩
                  exact ⟨rfl, rfl⟩
                rintro k2 res H2 ⟨rfl, rfl, rfl⟩
                change DS _ _ _ _ _ _ _ _
                generalize isT bs (l.terms[1]'(by omega)) = q1
                cases q1 with
                | false =>
                  repeat' (first | (apply ds_evC; exact rfl; (with_reducible exact trivial); (with_reducible exact rfl); exact rfl; exact rfl; exact rfl) | apply ds_nil | apply dw_skip | (apply dw_condF; exact rfl) | apply thenD_n | apply inB_n)
                  all_goals exact ⟨[], rfl, ent_trans (ent_nild 8 2 rfl) (ent_ren (fun j => match j with | 0 => 0 | 1 => 7 | j => j) ⟨rfl, rfl, rfl, rfl, rfl, rfl, rfl, rfl, rfl, trivial⟩ ⟨rfl, rfl, rfl, trivial⟩ rfl rfl rfl rfl rfl rfl)⟩
                | true =>
                  repeat' (first | (apply ds_slD; exact rfl; exact rfl; exact rfl; exact rfl; exact rfl; exact rfl; (refine ⟨?_, ?_, ?_⟩ <;> (omega)); ((with_reducible apply hv_drop); (exact nat_add_2 _)); exact rfl; exact rfl) | (apply ds_evC; exact rfl; (with_reducible exact trivial); (with_reducible exact rfl); exact rfl; exact rfl; exact rfl) | apply ds_nil | (apply ds_region; exact rfl) | (apply dw_condT; exact rfl) | apply thenD_n | apply inB_n)
                  all_goals exact ⟨(l.terms.take (l.terms.map encTrm).length).drop 2, by rw [List.take_of_length_le (by omega), hl4]; rfl, ent_ren (fun j => match j with | 0 => 0 | 1 => 7 | j => j) ⟨rfl, rfl, rfl, rfl, rfl, rfl, rfl, rfl, rfl, trivial⟩ ⟨rfl, rfl, rfl, trivial⟩ rfl rfl rfl rfl rfl rfl⟩
            · have hf5 : firesB bs l = false := by unfold firesB; rw [decide_eq_false k1, decide_eq_false k4]; rfl
              repeat' (first | (apply ds_evC; exact rfl; (first | (with_reducible exact trivial) | omega); (first | ((with_reducible apply hv_row); (exact nat_lit_0); (omega)) | (with_reducible exact rfl)); exact rfl; exact rfl; exact rfl) | (apply ds_skip; exact rfl; exact rfl) | apply ds_nil | apply dw_seq2 | (apply ds_region; exact rfl) | apply dw_block | apply dw_skip | (apply dw_condF; exact rfl) | apply thenD_n | apply inB_n | (apply dw_condP; exact rfl; all_goals intro hg) | ((fail_if_success (apply ds_known; exact rfl)); apply ds_guardP; exact rfl; exact rfl; exact rfl; all_goals intro hg))
              all_goals first
                | exact absurd hg k1
                | exact absurd hg k4
                | exact ⟨[], by rw [hf5]; rfl, ent_trans (ent_nild 8 2 rfl) (ent_ren id ⟨rfl, rfl, rfl, rfl, rfl, rfl, rfl, rfl, rfl, trivial⟩ ⟨rfl, rfl, rfl, trivial⟩ rfl rfl rfl rfl rfl rfl)⟩
        · rintro ts hts
          have hbs : ts.foldl setT bs = (r.body.take (i + 1)).foldl bLit b0 := by
            rw [← hf, hts]
            unfold bLit
            split <;> rfl
          have htok : ∀ t ∈ ts, okT bs.length t := by
            intro t ht
            rw [hbl]
            rw [hts] at ht
            split at ht
            · exact hlok t (litTs_sub ht)
            · simp at ht
          clear hts
          have lt : (ts.map encTrm).length = ts.length := List.length_map _
          refine dw_len (t := 8) rfl (fun hkt => ?_)
          repeat' (first | (apply ds_evC; exact rfl; (with_reducible exact trivial); (with_reducible exact rfl); exact rfl; exact rfl; exact rfl) | apply ds_nil | apply dw_seq2 | (apply ds_region; exact rfl) | apply dw_block | apply thenD_n)
          refine ds_loop (ι := Nat × List Bool × Bool) (fun x => ⟨4, (52, .d (.slice 2 (ts.map encTrm))) :: (53, .d (.int .i64 (ts.map encTrm).length)) :: (54, .d (.int .i64 x.1)) :: (17, .d (.slice 4 (r.body.map encLtl))) :: (18, .d (.int .i64 (r.body.map encLtl).length)) :: (19, .d (.int .i64 i)) :: bndL x.2.2, bndH r x.2.1⟩)
            (fun x => x.1 ≤ ts.length ∧ x.2.1 = (ts.take x.1).foldl setT bs ∧ Fl b0 x.2.1 x.2.2) (fun x => ts.length - x.1)
            (0, bs, ch) ⟨Nat.zero_le _, rfl, f3⟩ (ent_ren id ⟨rfl, rfl, rfl, rfl, rfl, rfl, rfl, rfl, rfl, rfl, rfl, trivial⟩ ⟨rfl, rfl, rfl, trivial⟩ rfl rfl rfl rfl rfl rfl) ?_
          rintro ⟨j, bj, cj⟩ ⟨e1, e2, e3⟩
          dsimp only at e1 e2 e3 ⊢
          have hjl : bj.length = bs.length := by rw [e2, setTs_len]
          by_cases hj : j < ts.length
          · repeat' (first | (apply ds_evC; exact rfl; (first | (with_reducible exact trivial) | omega); (first | ((with_reducible apply hv_row); (exact rfl); (omega)) | (with_reducible exact rfl)); exact rfl; exact rfl; exact rfl) | apply ds_nil | apply dw_seq2 | (apply ds_region; exact rfl) | apply dw_block | apply dw_skip | apply dw_exit | apply thenD_n | apply thenD_e | apply inB_n | (apply inB_e; exact rfl) | (apply ds_newC; exact rfl; (with_reducible exact trivial); exact rfl; exact rfl; exact rfl) | (apply ds_setC; exact rfl; exact rfl; exact rfl; exact rfl) | (apply dw_condP; exact rfl; all_goals intro hg))
            all_goals try (exfalso; omega)
            have hq := htok ts[j] (List.getElem_mem hj)
            rw [← hjl] at hq
            have e4 := e3.step hq
            have e5 : (ts.take (j + 1)).foldl setT bs = setT bj ts[j] := by rw [foldl_take setT bs hj, ← e2]
            refine ds_callVF (fun j => match j with | 0 => 2 | _ => 1) (isFn bj ts[j] hq) rfl rfl rfl rfl rfl rfl ⟨rfl, rfl, trivial⟩ rfl rfl rfl rfl rfl rfl ?_ ?_
            · rintro k2 res H2 ⟨rfl, rfl, rfl⟩
              exact ⟨rfl, rfl⟩
            rintro k2 res H2 ⟨rfl, rfl, rfl⟩
            change DS _ _ _ _ _ _ _ _
            have lbj : (bj.map encBl).length = bj.length := List.length_map _
            cases hb : isT bj ts[j] with
            | true =>
              rw [hb, Bool.not_true, Bool.or_false, setT_same hb] at e4
              rw [setT_same hb] at e5
              repeat' (first | (apply ds_evC; exact rfl; (first | (with_reducible exact trivial) | omega); (with_reducible exact rfl); exact rfl; exact rfl; exact rfl) | apply ds_nil | (apply ds_region; exact rfl) | apply dw_skip | (apply dw_condF; exact rfl) | apply thenD_n | apply inB_n)
              exact ⟨(j + 1, bj, cj), ⟨by omega, e5.symm, e4⟩, ent_ren (fun j => match j with | 0 => 0 | 1 => 6 | j => j) ⟨rfl, rfl, rfl, rfl, rfl, rfl, rfl, rfl, rfl, rfl, rfl, trivial⟩ ⟨rfl, rfl, rfl, trivial⟩ rfl rfl rfl rfl rfl rfl, by show ts.length - (j + 1) < ts.length - j; omega⟩
            | false =>
              obtain ⟨_, hneg⟩ := setT_count hq hb
              have hset : setT bj ts[j] = bj.set ts[j].var.toNat true := by unfold setT; rw [if_neg hneg]
              rw [hb, Bool.not_false, Bool.or_true, hset] at e4
              rw [hset] at e5
              unfold okT at hq
              repeat' (first | (apply ds_evC; exact rfl; (first | (with_reducible exact trivial) | omega); (first | ((with_reducible apply hv_prow); (exact (Int.toNat_of_nonneg (by omega)).symm)) | (with_reducible exact rfl)); exact rfl; exact rfl; exact rfl) | apply ds_nil | (apply ds_stP; exact rfl; exact rfl; (apply hv_get; (omega)); exact rfl; exact rfl; (exact hv_set rfl); exact rfl; exact rfl; exact rfl; exact rfl; exact rfl; exact rfl) | apply dw_seq2 | (apply ds_region; exact rfl) | (apply dw_condT; exact rfl) | apply thenD_n | apply inB_n)
              exact ⟨(j + 1, bj.set ts[j].var.toNat true, true), ⟨by omega, e5.symm, e4⟩, ent_ren (fun j => match j with | 0 => 0 | 1 => 6 | j => j) ⟨rfl, rfl, rfl, rfl, rfl, rfl, rfl, rfl, rfl, rfl, rfl, trivial⟩ ⟨rfl, rfl, rfl, trivial⟩ rfl rfl rfl rfl rfl rfl, by show ts.length - (j + 1) < ts.length - j; omega⟩
          · repeat' (first | (apply ds_evC; exact rfl; (first | (with_reducible exact trivial) | omega); (first | ((with_reducible apply hv_row); (exact rfl); (omega)) | (with_reducible exact rfl)); exact rfl; exact rfl; exact rfl) | apply ds_nil | apply dw_seq2 | (apply ds_region; exact rfl) | apply dw_block | apply dw_skip | apply dw_exit | apply thenD_n | apply thenD_e | apply inB_n | (apply inB_e; exact rfl) | (apply ds_newC; exact rfl; (with_reducible exact trivial); exact rfl; exact rfl; exact rfl) | (apply ds_setC; exact rfl; exact rfl; exact rfl; exact rfl) | (apply dw_condP; exact rfl; all_goals intro hg))
            all_goals try (exfalso; omega)
            · refine ⟨(i + 1, bj, cj), ⟨by omega, ?_, e3⟩, ent_ren id ⟨rfl, rfl, rfl, rfl, rfl, rfl, rfl, rfl, trivial⟩ ⟨rfl, rfl, rfl, trivial⟩ rfl rfl rfl rfl rfl rfl, by show r.body.length - (i + 1) < r.body.length - i; omega⟩
              dsimp only
              rw [← hbs, e2, List.take_of_length_le (by omega)]
      · exfalso; omega
    · repeat' (first | (apply ds_evC; exact rfl; (first | (with_reducible exact trivial) | omega); (first | ((with_reducible apply hv_row); (first | exact nat_lit_0 | exact rfl); (omega)) | (with_reducible exact rfl)); exact rfl; exact rfl; exact rfl) | (apply ds_skip; exact rfl; exact rfl) | apply ds_nil | apply dw_seq2 | (apply ds_region; exact rfl) | apply dw_block | apply dw_skip | apply dw_exit | (apply dw_condF; exact rfl) | apply thenD_n | apply thenD_e | apply inB_n | (apply inB_e; exact rfl) | (apply ds_newC; exact rfl; (with_reducible exact trivial); exact rfl; exact rfl; exact rfl) | (apply ds_setC; exact rfl; exact rfl; exact rfl; exact rfl) | (apply dw_condP; exact rfl; all_goals intro hg) | ((fail_if_success (apply ds_known; exact rfl)); apply ds_guardP; exact rfl; exact rfl; exact rfl; all_goals intro hg))
      all_goals try (exfalso; omega)
      · refine ⟨(ch, bs, m + 1), ⟨?_, ?_⟩, ent_ren id ⟨rfl, rfl, rfl, rfl, rfl, trivial⟩ ⟨rfl, rfl, rfl, trivial⟩ rfl rfl rfl rfl rfl rfl, ?_⟩
        · dsimp only
          rw [bIter_succ, ← g1, f2, List.take_of_length_le (by omega)]; rfl
        · rintro rfl
          have hb := f3.2.2.1 rfl
          have hr : bs = bRound r.body b0 := by rw [f2, List.take_of_length_le (by omega)]; rfl
          show bRound r.body bs = bs
          rw [hb]
          rw [hb] at hr
          exact hr.symm
        · show 2 * bs.count false + (if ch = true then 1 else 0) < 2 * b0.count false + (if true = true then 1 else 0)
          have h1 := f3.2.1
          have h2 := f3.2.2.2
          cases ch with
          | false => simp; omega
          | true => have := h2 rfl; simp; omega
end Go.Proofs.YtapciiffpnociabGreat

/- scope's rule and Check. Condition: none. -/
namespace Go.Proofs.YtapciiffpnociabGreat
open Go Go.RowKit
attribute [local irreducible] DW DS DL DQ Ev FnOk FnP thenD inBlockD DT
theorem firstL_zero {α : Type} {f : α → Int} : ∀ {l : List α}, firstL f l = 0 → ∀ x ∈ l, f x = 0
  | [], _, x, hx => by simp at hx
  | y :: l, h, x, hx => by
    unfold firstL at h
    split at h
    · rename_i hn; exact absurd h hn
    · rename_i hn
      rcases List.mem_cons.1 hx with rfl | hx
      · exact Decidable.not_not.1 hn
      · exact firstL_zero h x hx
theorem termE_ok {vars : Int} {t : Trm} (h0 : 0 ≤ vars) (h : termE vars t = 0) : okT vars.toNat t := by
  unfold termE at h
  split at h
  · cases h
  · rename_i hn
    rw [Bool.not_eq_false] at hn
    have := inR_spec hn
    unfold okT
    omega
theorem litE_ok {ar : List Int} {vars : Int} {l : Ltl} (h0 : 0 ≤ vars) (h : litE ar vars l = 0) : (∀ t ∈ l.terms, okT vars.toNat t) ∧ (l.kind = 4 → l.terms.length = 3) := by
  have ht : termsE vars l.terms = 0 → ∀ t ∈ l.terms, okT vars.toNat t := fun h t ht => termE_ok h0 (firstL_zero h t ht)
  unfold litE at h
  split at h
  · cases h
  split at h
  · cases h
  split at h
  · split at h
    · cases h
    split at h
    · cases h
    exact ⟨ht h, fun hk => by omega⟩
  · split at h
    · cases h
    exact ⟨ht h, fun hk => by omega⟩
theorem any_false (l : List Bool) : (l.any fun x => eqB x false) = !l.all id := by
  induction l with
  | nil => rfl
  | cons b l ih => rw [List.any_cons, List.all_cons, ih]; cases b <;> rfl
abbrev prgB (p : Prg) : HB := .blk 26 [.d (.slice 1 (p.arity.map encI)), .d (.slice 1 (p.names.map encT)), .d (.slice 5 (p.rules.map encRul))]
set_option maxHeartbeats 8000000 in
theorem rule_fn (p : Prg) (r : Rul) : Fn 171 [elPrg p, elRul r] (fun x => x = .d (.int .i64 (ruleE p.arity r))) := by
  refine fnp_enter' _ Tryz.func171 rfl rfl (by kernel_rfl) ?_
  intro O w0 E0 β0
  have la : (p.arity.map encI).length = p.arity.length := List.length_map _
  have lb : (r.terms.map encTrm).length = r.terms.length := List.length_map _
  have lc : (r.body.map encLtl).length = r.body.length := List.length_map _
  refine dw_lenA 0 0 rfl rfl (fun hk => ?_)
  refine dw_lenA 1 1 rfl rfl (fun hk2 => ?_)
  refine dw_lenA 1 3 rfl rfl (fun hk3 => ?_)
  have w1 := swithin_fn r.pred 0 (((p.arity.map encI).length : Int) - 1)
  have w2 := swithin_fn r.vars 0 8
  have w3 := swithin_fn r.fold 0 4
  unfold ruleE
  rw [← la, ← lb, ← lc]
  by_cases hp : inR r.pred 0 (((p.arity.map encI).length : Int) - 1) = true
  · have hp' := inR_spec hp
    have hA := arity_at (p := p) (n := r.pred) (by omega) (by omega)
    rw [hp] at w1 ⊢
    rw [if_neg (show ¬ (true = false) by decide), hA]
    by_cases hv : inR r.vars 0 8 = true
    · have hv' := inR_spec hv
      rw [hv] at w2 ⊢
      rw [if_neg (show ¬ (true = false) by decide)]
      have w4 := terms_fn r.terms r.vars hv'.1 hv'.2
      clear hv hp hA
      have w5 := fun l => lit_fn p l r.vars hv'.1 hv'.2
      generalize termsE r.vars r.terms = te at w4 ⊢
      generalize inR r.fold 0 4 = fo at w3 ⊢
      repeat' (first | (apply ds_evC; exact rfl; (first | (with_reducible exact trivial) | omega); (with_reducible exact rfl); exact rfl; exact rfl; exact rfl) | (apply ds_skip; exact rfl; exact rfl) | apply ds_nil | (apply dt_ev; exact rfl; exact rfl; (first | (with_reducible exact trivial) | omega); (first | ((with_reducible apply hv_row); (exact (Int.toNat_of_nonneg (by omega)).symm); (omega)) | (with_reducible exact rfl)); exact rfl; exact rfl; exact rfl; exact rfl) | (apply dt_nil0; exact rfl; exact rfl; exact rfl; exact rfl) | apply dw_seq2 | (apply ds_region; exact rfl) | (apply dw_any; kernel_rfl; kernel_rfl; exact rfl; exact rfl) | apply dw_block | apply dw_skip | apply dw_ret | (apply dw_condT; exact rfl) | (apply dw_condF; exact rfl) | apply thenD_n | apply thenD_r | apply inB_n | apply inB_r | (apply ds_call; exact rfl; exact rfl; apply w1; exact rfl; (exact rfl); exact rfl; rintro _ rfl) | (apply ds_call; exact rfl; exact rfl; apply w2; exact rfl; (exact rfl); exact rfl; rintro _ rfl) | (apply ds_call; exact rfl; exact rfl; apply w3; exact rfl; (exact rfl); exact rfl; rintro _ rfl) | (apply ds_call; exact rfl; exact rfl; apply w4; exact rfl; (exact rfl); exact rfl; rintro _ rfl) | (apply ds_newC; exact rfl; (with_reducible exact trivial); exact rfl; exact rfl; exact rfl) | (apply dw_condP; exact rfl; all_goals intro hg) | (apply dw_cond; exact rfl; all_goals intro hg) | ((fail_if_success (apply ds_known; exact rfl)); apply ds_guardP; exact rfl; exact rfl; exact rfl; all_goals intro hg))
      all_goals try (refine ret_i rfl ?_; (repeat' split) <;> (first | rfl | (exfalso; omega) | (exfalso; simp_all; done)))
      all_goals
        have hfin : ∀ e, firstL (litE p.arity r.vars) r.body = e → (if (((r.terms.map encTrm).length : Nat) : Int) ≠ p.arity[r.pred.toNat]'(by omega) then 1 else if te ≠ 0 then te else if fo = false then 7 else if r.fold ≠ 0 ∧ ((r.terms.map encTrm).length = 0 ∨ (r.body.map encLtl).length = 0) then 1 else if 4 < (r.body.map encLtl).length then 2 else if firstL (litE p.arity r.vars) r.body ≠ 0 then firstL (litE p.arity r.vars) r.body else if safeB r = false then 4 else 0) = if e ≠ 0 then e else if safeB r = false then 4 else 0 := by
          rintro e rfl
          (repeat' split) <;> (first | rfl | (exfalso; omega) | (exfalso; simp_all; done))
        generalize (if (((r.terms.map encTrm).length : Nat) : Int) ≠ p.arity[r.pred.toNat]'(by omega) then 1 else if te ≠ 0 then te else if fo = false then 7 else if r.fold ≠ 0 ∧ ((r.terms.map encTrm).length = 0 ∨ (r.body.map encLtl).length = 0) then 1 else if 4 < (r.body.map encLtl).length then 2 else if firstL (litE p.arity r.vars) r.body ≠ 0 then firstL (litE p.arity r.vars) r.body else if safeB r = false then 4 else 0) = res at hfin ⊢
        refine ds_loop (ι := Nat) (fun i => ⟨2, [(2, .loc 0 0), (3, .loc 1 0), (4, .d (.int .i64 0)), (69, .d (.slice 4 (r.body.map encLtl))), (70, .d (.int .i64 (r.body.map encLtl).length)), (71, .d (.int .i64 i))], [(0, prgB p), (1, ruleB r)]⟩)
          (fun i => i ≤ r.body.length ∧ firstL (litE p.arity r.vars) r.body = firstL (litE p.arity r.vars) (r.body.drop i)) (fun i => r.body.length - i) 0 ⟨Nat.zero_le _, rfl⟩ (ent_ren id ⟨rfl, rfl, rfl, rfl, rfl, rfl, trivial⟩ ⟨rfl, rfl, trivial⟩ rfl rfl rfl rfl rfl rfl) ?_
        rintro i ⟨g1, g2⟩
        by_cases hi : i < r.body.length
        · rw [firstL_step hi] at g2
          have w6 := w5 r.body[i]
          generalize litE p.arity r.vars r.body[i] = le at w6 g2
          repeat' (first | (apply ds_evC; exact rfl; (first | (with_reducible exact trivial) | omega); (first | ((with_reducible apply hv_row); (exact rfl); (omega)) | (with_reducible exact rfl)); exact rfl; exact rfl; exact rfl) | apply ds_nil | apply dw_seq2 | (apply ds_region; exact rfl) | apply dw_block | apply dw_skip | apply dw_exit | apply dw_ret | apply thenD_n | apply thenD_e | apply thenD_r | apply inB_n | apply inB_r | (apply inB_e; exact rfl) | (apply ds_call; exact rfl; exact rfl; apply w6; exact rfl; (exact rfl); exact rfl; rintro _ rfl) | (apply ds_newC; exact rfl; (with_reducible exact trivial); exact rfl; exact rfl; exact rfl) | (apply ds_setC; exact rfl; exact rfl; exact rfl; exact rfl) | (apply dw_condP; exact rfl; all_goals intro hg))
          all_goals first
            | (exfalso; omega)
            | (refine ret_i rfl ?_; rw [hfin le (by rw [g2, if_pos (by assumption)]), if_pos (by assumption)]; done)
            | exact ⟨i + 1, ⟨by omega, by rw [g2, if_neg (by assumption)]⟩, ent_ren id ⟨rfl, rfl, rfl, rfl, rfl, rfl, trivial⟩ ⟨rfl, rfl, trivial⟩ rfl rfl rfl rfl rfl rfl, by show r.body.length - (i + 1) < r.body.length - i; omega⟩
        · rw [firstL_end (by omega)] at g2
          have hall := firstL_zero g2
          have w7 := bound_fn r hv'.1 hv'.2 (fun l hl => (litE_ok hv'.1 (hall l hl)).1) (fun l hl => (litE_ok hv'.1 (hall l hl)).2)
          have w8 := containsB_fn false (boundL r)
          rw [any_false] at w8
          rw [hfin 0 g2, if_neg (by decide)]
          unfold safeB
          generalize (boundL r).all id = sb at w8 ⊢
          repeat' (first | (apply ds_evC; exact rfl; (first | (with_reducible exact trivial) | omega); (first | ((with_reducible apply hv_row); (exact rfl); (omega)) | (with_reducible exact rfl)); exact rfl; exact rfl; exact rfl) | apply ds_nil | apply dw_seq2 | (apply ds_region; exact rfl) | apply dw_block | apply dw_skip | apply dw_exit | apply dw_ret | apply thenD_n | apply thenD_e | apply thenD_r | (apply inB_e; exact rfl) | (apply ds_call; exact rfl; exact rfl; apply w7; exact rfl; (exact rfl); exact rfl; rintro _ rfl) | (apply ds_call; exact rfl; exact rfl; apply w8; exact rfl; (exact rfl); exact rfl; rintro _ rfl) | (apply ds_newC; exact rfl; (with_reducible exact trivial); exact rfl; exact rfl; exact rfl) | (apply ds_setC; exact rfl; exact rfl; exact rfl; exact rfl) | (apply dw_condP; exact rfl; all_goals intro hg) | (apply dw_cond; exact rfl; all_goals intro hg))
          all_goals first
            | (exfalso; omega)
            | (refine ret_i rfl ?_; simp_all; done)
    · rw [Bool.not_eq_true] at hv
      rw [hv] at w2 ⊢
      repeat' (first | (apply ds_evC; exact rfl; (first | (with_reducible exact trivial) | omega); (with_reducible exact rfl); exact rfl; exact rfl; exact rfl) | apply ds_nil | (apply dt_ev; exact rfl; exact rfl; (first | (with_reducible exact trivial) | omega); (first | ((with_reducible apply hv_row); (exact (Int.toNat_of_nonneg (by omega)).symm); (omega)) | (with_reducible exact rfl)); exact rfl; exact rfl; exact rfl; exact rfl) | (apply dt_nil0; exact rfl; exact rfl; exact rfl; exact rfl) | apply dw_seq2 | (apply ds_region; exact rfl) | (apply dw_any; kernel_rfl; kernel_rfl; exact rfl; exact rfl) | apply dw_block | apply dw_ret | (apply dw_condT; exact rfl) | (apply dw_condF; exact rfl) | apply thenD_n | apply thenD_r | apply inB_r | (apply ds_call; exact rfl; exact rfl; apply w1; exact rfl; (exact rfl); exact rfl; rintro _ rfl) | (apply ds_call; exact rfl; exact rfl; apply w2; exact rfl; (exact rfl); exact rfl; rintro _ rfl) | (apply ds_newC; exact rfl; (with_reducible exact trivial); exact rfl; exact rfl; exact rfl) | (apply dw_condP; exact rfl; all_goals intro hg))
      all_goals exact ret_i rfl (by simp_all)
  · rw [Bool.not_eq_true] at hp
    rw [hp] at w1 ⊢
    rw [if_pos rfl]
    repeat' (first | (apply ds_evC; exact rfl; (first | (with_reducible exact trivial) | omega); (with_reducible exact rfl); exact rfl; exact rfl; exact rfl) | apply ds_nil | apply dw_seq2 | (apply ds_region; exact rfl) | apply dw_block | apply dw_ret | (apply dw_condT; exact rfl) | apply thenD_n | apply thenD_r | apply inB_r | (apply ds_call; exact rfl; exact rfl; apply w1; exact rfl; (exact rfl); exact rfl; rintro _ rfl) | (apply ds_newC; exact rfl; (with_reducible exact trivial); exact rfl; exact rfl; exact rfl))
    all_goals exact ret_i rfl rfl
set_option maxHeartbeats 8000000 in
theorem check_fn (p : Prg) : Fn 121 [elPrg p] (fun x => x = .d (.int .i64 (progE nameS p))) := by
  refine fnp_enter' _ Tryz.func121 rfl rfl (by kernel_rfl) ?_
  intro O w0 E0 β0
  have la : (p.arity.map encI).length = p.arity.length := List.length_map _
  have lb : (p.names.map encT).length = p.names.length := List.length_map _
  have lc : (p.rules.map encRul).length = p.rules.length := List.length_map _
  refine dw_lenA 0 0 rfl rfl (fun hk => ?_)
  refine dw_lenA 0 2 rfl rfl (fun hk2 => ?_)
  unfold progE
  by_cases h1 : 10 < p.arity.length ∨ 12 < p.rules.length
  · rw [if_pos h1]
    repeat' (first | (apply ds_evC; exact rfl; (with_reducible exact trivial); (with_reducible exact rfl); exact rfl; exact rfl; exact rfl) | (apply ds_skip; exact rfl; exact rfl) | apply ds_nil | apply dw_seq2 | (apply ds_region; exact rfl) | apply dw_block | apply dw_skip | apply dw_ret | (apply dw_condT; exact rfl) | apply thenD_n | apply thenD_r | apply inB_n | apply inB_r | (apply ds_newC; exact rfl; (with_reducible exact trivial); exact rfl; exact rfl; exact rfl) | (apply dw_condP; exact rfl; all_goals intro hg) | ((fail_if_success (apply ds_known; exact rfl)); apply ds_guardP; exact rfl; exact rfl; exact rfl; all_goals intro hg))
    all_goals first
      | (exfalso; omega)
      | exact ret_i rfl rfl
  · rw [if_neg h1]
    by_cases h2 : p.names.length ≠ p.arity.length
    · rw [if_pos h2]
      repeat' (first | (apply ds_evC; exact rfl; (with_reducible exact trivial); (with_reducible exact rfl); exact rfl; exact rfl; exact rfl) | (apply ds_skip; exact rfl; exact rfl) | apply ds_nil | apply dw_seq2 | (apply ds_region; exact rfl) | apply dw_block | apply dw_skip | apply dw_ret | (apply dw_condT; exact rfl) | apply thenD_n | apply thenD_r | apply inB_n | apply inB_r | (apply ds_newC; exact rfl; (with_reducible exact trivial); exact rfl; exact rfl; exact rfl) | (apply dw_condP; exact rfl; all_goals intro hg) | ((fail_if_success (apply ds_known; exact rfl)); apply ds_guardP; exact rfl; exact rfl; exact rfl; all_goals intro hg))
      all_goals first
        | (exfalso; omega)
        | exact ret_i rfl rfl
    · rw [if_neg h2]
      have w1 := preds_fn p (by omega)
      generalize firstI (nameE nameS p) 0 p.names.length = ne at w1 ⊢
      repeat' (first | (apply ds_evC; exact rfl; (with_reducible exact trivial); (with_reducible exact rfl); exact rfl; exact rfl; exact rfl) | (apply ds_skip; exact rfl; exact rfl) | apply ds_nil | apply dw_seq2 | (apply ds_region; exact rfl) | apply dw_block | apply dw_skip | apply dw_ret | (apply dw_condT; exact rfl) | apply thenD_n | apply thenD_r | apply inB_n | apply inB_r | (apply ds_call; exact rfl; exact rfl; apply w1; exact rfl; (exact rfl); exact rfl; rintro _ rfl) | (apply ds_newC; exact rfl; (with_reducible exact trivial); exact rfl; exact rfl; exact rfl) | (apply dw_condP; exact rfl; all_goals intro hg) | ((fail_if_success (apply ds_known; exact rfl)); apply ds_guardP; exact rfl; exact rfl; exact rfl; all_goals intro hg))
      all_goals try (exfalso; omega)
      · exact ret_i rfl (by rw [if_pos hg])
      rw [if_neg hg]
      refine ds_loop (ι := Nat) (fun i => ⟨1, [(1, .loc 0 0), (2, .d (.int .i64 0)), (32, .d (.slice 5 (p.rules.map encRul))), (33, .d (.int .i64 (p.rules.map encRul).length)), (34, .d (.int .i64 i))], [(0, prgB p)]⟩)
        (fun i => i ≤ p.rules.length ∧ firstL (ruleE p.arity) p.rules = firstL (ruleE p.arity) (p.rules.drop i)) (fun i => p.rules.length - i) 0 ⟨Nat.zero_le _, rfl⟩ (ent_ren id ⟨rfl, rfl, rfl, rfl, rfl, trivial⟩ ⟨rfl, trivial⟩ rfl rfl rfl rfl rfl rfl) ?_
      rintro i ⟨g1, g2⟩
      by_cases hi : i < p.rules.length
      · rw [firstL_step hi] at g2
        have w6 := rule_fn p p.rules[i]
        generalize ruleE p.arity p.rules[i] = le at w6 g2
        repeat' (first | (apply ds_evC; exact rfl; (first | (with_reducible exact trivial) | omega); (first | ((with_reducible apply hv_row); (exact rfl); (omega)) | (with_reducible exact rfl)); exact rfl; exact rfl; exact rfl) | apply ds_nil | apply dw_seq2 | (apply ds_region; exact rfl) | apply dw_block | apply dw_skip | apply dw_exit | apply dw_ret | apply thenD_n | apply thenD_e | apply thenD_r | apply inB_n | apply inB_r | (apply inB_e; exact rfl) | (apply ds_call; exact rfl; exact rfl; apply w6; exact rfl; (exact rfl); exact rfl; rintro _ rfl) | (apply ds_newC; exact rfl; (with_reducible exact trivial); exact rfl; exact rfl; exact rfl) | (apply ds_setC; exact rfl; exact rfl; exact rfl; exact rfl) | (apply dw_condP; exact rfl; all_goals intro hg))
        all_goals first
          | (exfalso; omega)
          | (refine ret_i rfl ?_; rw [g2, if_pos (by assumption)]; done)
          | exact ⟨i + 1, ⟨by omega, by rw [g2, if_neg (by assumption)]⟩, ent_ren id ⟨rfl, rfl, rfl, rfl, rfl, trivial⟩ ⟨rfl, trivial⟩ rfl rfl rfl rfl rfl rfl, by show p.rules.length - (i + 1) < p.rules.length - i; omega⟩
      · rw [firstL_end (by omega)] at g2
        repeat' (first | (apply ds_evC; exact rfl; (first | (with_reducible exact trivial) | omega); (first | ((with_reducible apply hv_row); (exact rfl); (omega)) | (with_reducible exact rfl)); exact rfl; exact rfl; exact rfl) | apply ds_nil | apply dw_seq2 | (apply ds_region; exact rfl) | apply dw_block | apply dw_skip | apply dw_exit | apply dw_ret | apply thenD_n | apply thenD_e | (apply inB_e; exact rfl) | (apply ds_newC; exact rfl; (with_reducible exact trivial); exact rfl; exact rfl; exact rfl) | (apply ds_setC; exact rfl; exact rfl; exact rfl; exact rfl) | (apply dw_condP; exact rfl; all_goals intro hg))
        all_goals first
          | (exfalso; omega)
          | exact ret_i rfl g2.symm
end Go.Proofs.YtapciiffpnociabGreat
