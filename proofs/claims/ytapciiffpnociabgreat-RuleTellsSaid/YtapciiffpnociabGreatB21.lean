/- Several texts in one: RuE RuJ RuF. Condition: none. -/
import Derived.Test.YtapciiffpnociabGreatB20
import Derived.Test.YtapciiffpnociabGreatB14
import Derived.Test.YtapciiffpnociabGreatB19
import Derived.Test.YtapciiffpnociabGreatB18

/- The document's Finder.From. Condition: none. -/
namespace Go.Proofs.YtapciiffpnociabGreat
open Go Go.RowKit
def addW (w : List (List Int)) (st : List (List Int) × Bool) : List (List Int) × Bool := if st.2 then st else (st.1 ++ w.take (2000 - st.1.length), decide (2000 < st.1.length + w.length))
theorem addW_nil (st : List (List Int) × Bool) (h : st.1.length ≤ 2000) : addW [] st = st := by
  unfold addW
  obtain ⟨o, m⟩ := st
  cases m with
  | true => rfl
  | false => simp only [List.take_nil, List.append_nil, List.length_nil, Nat.add_zero]; rw [if_neg (by simp), decide_eq_false (by simpa using h)]
theorem addW_len (w : List (List Int)) (st : List (List Int) × Bool) (h : st.1.length ≤ 2000) : (addW w st).1.length ≤ 2000 := by
  unfold addW
  split
  · exact h
  · simp only [List.length_append, List.length_take]; omega
theorem addW_app (w1 w2 : List (List Int)) (st : List (List Int) × Bool) (h : st.1.length ≤ 2000) : addW (w1 ++ w2) st = addW w2 (addW w1 st) := by
  obtain ⟨o, m⟩ := st
  simp only at h
  cases m with
  | true => rfl
  | false =>
    unfold addW
    simp only [Bool.false_eq_true, if_false]
    by_cases hb : 2000 < o.length + w1.length
    · rw [decide_eq_true hb]
      simp only [if_true, List.length_append]
      rw [decide_eq_true (by omega), List.take_append_of_le_length (by omega)]
    · rw [decide_eq_false hb]
      simp only [Bool.false_eq_true, if_false, List.length_append, List.length_take]
      have h1 : w1.take (2000 - o.length) = w1 := List.take_of_length_le (by omega)
      rw [h1, List.take_append, h1, List.append_assoc]
      congr 2
      · congr 2; omega
      · have : min (2000 - o.length) w1.length = w1.length := by omega
        rw [this, Nat.add_assoc]
theorem addW_full {o : List (List Int)} (a : List Int) (h : o.length = 2000) : addW [a] (o, false) = (o, true) := by
  unfold addW; simp [h]
theorem addW_one {o : List (List Int)} (a : List Int) (h : o.length < 2000) : addW [a] (o, false) = (o ++ [a], false) := by
  unfold addW
  simp only [Bool.false_eq_true, if_false, List.length_cons, List.length_nil]
  rw [decide_eq_false (by omega), show 2000 - o.length = (1999 - o.length) + 1 by omega]; simp
theorem addW_many (w : List (List Int)) (o : List (List Int)) : addW w (o, true) = (o, true) := rfl
def yesL (body : List Ltl) (i : Nat) : List Ltl := (body.drop i).filter fun l => decide (l.kind = 1)
theorem yesL_skip {body : List Ltl} {i : Nat} (hi : i < body.length) (h : body[i].kind ≠ 1) : yesL body i = yesL body (i + 1) := by
  unfold yesL; rw [List.drop_eq_getElem_cons hi, List.filter_cons, if_neg (by simpa using h)]
theorem yesL_yes {body : List Ltl} {i : Nat} (hi : i < body.length) (h : body[i].kind = 1) : yesL body i = body[i] :: yesL body (i + 1) := by
  unfold yesL; rw [List.drop_eq_getElem_cons hi, List.filter_cons, if_pos (by simpa using h)]
theorem yesL_end {body : List Ltl} {i : Nat} (hi : body.length ≤ i) : yesL body i = [] := by unfold yesL; rw [List.drop_of_length_le hi]; rfl
theorem recP_num {S : List Fct} : ∀ {body : List Ltl} {e e' : RE}, (∀ l ∈ body, okL S e.length l) → numE e → recP body e = some e' → numE e'
  | [], e, e', _, hn, h => by simp only [recP, List.foldlM_nil] at h; cases h; exact hn
  | l :: body, e, e', hok, hn, h => by
    simp only [recP, List.foldlM_cons] at h
    cases h1 : recL e l with
    | none => rw [h1] at h; cases h
    | some e1 =>
      rw [h1] at h
      have g1 := (recL_some (hok l (List.mem_cons_self ..)) h1).1
      exact recP_num (body := body) (e := e1) (fun x hx => by rw [g1]; exact hok x (List.mem_cons_of_mem _ hx)) (recL_num (hok l (List.mem_cons_self ..)) hn h1) h
theorem recN_num' {S : List Fct} {body : List Ltl} : ∀ {n : Nat} {e e' : RE}, (∀ l ∈ body, okL S e.length l) → numE e → recN body n e = some e' → numE e'
  | 0, e, e', _, hn, h => by simp only [recN, Option.some.injEq] at h; subst h; exact hn
  | n + 1, e, e', hok, hn, h => by
    rw [recN, Option.bind_eq_some_iff] at h
    obtain ⟨e1, h1, h2⟩ := h
    have g1 := (recP_some hok h1).1
    exact recN_num' (fun x hx => by rw [g1]; exact hok x hx) (recP_num hok hn h1) h2
theorem recN_num {S : List Fct} {body : List Ltl} {n : Nat} {e e' : RE} (hok : okB S e.length body) (hn : numE e) (h : recN body n e = some e') : numE e' := recN_num' hok.lit hn h
attribute [local irreducible] DW DS DL DQ Ev FnOk FnP thenD inBlockD DT
def gW (go : RE → List (List Int)) (l : Ltl) (e : RE) (x : Fct) : List (List Int) := if x.pred = l.pred then (match matchE e l.terms x.args with | some e' => go e' | none => []) else []
theorem litW_yes {S : List Fct} {go : RE → List (List Int)} {l : Ltl} {e : RE} (h : l.kind = 1) : litW S go l e = S.flatMap (gW go l e) := by
  unfold litW
  rw [if_pos h]
  congr 1
def ysW (S : List Fct) (body : List Ltl) (e : RE) (ys : List Ltl) : List (List Int) := match ys with
  | [] => [outE e]
  | l :: ys => litW S (fromE S body ys) l e
abbrev fctB (x : Fct) : HB := .blk 95 [.d (.int .i64 x.pred), .d (.slice 1 (x.args.map encI))]
def FromOk (r : Rul) (S : List Fct) (i : Nat) : Prop := ∀ (e : RE) (out : List (List Int)) (m : Bool), okB S e.length r.body → numE e → out.length ≤ 2000 →
  FnOk false Tryz.prog tab tab_ok 100 [.loc 0 0, .d (.int .i64 i), .d (.slice 1 ((outE e).map encI)), .d (.slice 1 ((hasE e).map encBl))] 1 2 (fndH r S out m)
    (fun k2 res H => k2 = 2 ∧ res = .tup [] ∧ H = fndH r S (addW (fromE S r.body (yesL r.body i) e) (out, m)).1 (addW (fromE S r.body (yesL r.body i) e) (out, m)).2)
set_option maxHeartbeats 8000000 in
theorem from_step (r : Rul) (S : List Fct) (hS : S.length ≤ 4398046511104) (i : Nat) (hil : i ≤ r.body.length) (ih : ∀ j, i < j → j ≤ r.body.length → FromOk r S j) : FromOk r S i := by
  intro e out m hok hn ho
  refine fn_enterR _ Tryz.func100 rfl rfl (by kernel_rfl) ?_
  intro O w0 E0 β0
  have lb : (r.body.map encLtl).length = r.body.length := List.length_map _
  have hb4 := hok.len
  have he8 := hok.vle
  have lo : ((outE e).map encI).length = e.length := by rw [List.length_map, outE_len]
  have lh : ((hasE e).map encBl).length = e.length := by rw [List.length_map, hasE_len]
  have lo' := outE_len e
  have lh' := hasE_len e
  cases m with
  | true =>
    rw [addW_many]
    repeat' (first | (apply ds_evC; exact rfl; (with_reducible exact trivial); (with_reducible exact rfl); exact rfl; exact rfl; exact rfl) | apply ds_nil | apply dw_seq2 | (apply ds_region; exact rfl) | apply dw_ret | (apply dw_condT; exact rfl) | apply thenD_n | apply thenD_r)
    exact ⟨.inl rfl, _, rfl, id, 2, .tup [], fndH r S out true, rfl, ⟨rfl, rfl, trivial⟩, rfl, rfl, rfl, rfl, rfl, rfl, rfl, rfl, rfl⟩
  | false =>
    repeat' (first | (apply ds_bs0; exact rfl; exact rfl; exact rfl; exact rfl; exact rfl; exact rfl; exact rfl; exact rfl) | ((fail_if_success (apply dw_stopS 2)); (first | (apply ds_evC; exact rfl; (with_reducible exact trivial); (with_reducible exact rfl); exact rfl; exact rfl; exact rfl) | apply ds_nil | apply dw_seq2 | (apply ds_region; exact rfl) | apply dw_skip | (apply dw_condF; exact rfl) | apply thenD_n | (apply ds_tradeC; exact rfl; (unfold maxLen; simp <;> omega); exact rfl; exact rfl; exact rfl; exact rfl))))
    refine dw_ent (ent_ren (k' := 4) (L' := [(0, .loc 0 0), (1, .d (.int .i64 i)), (2, .row 2), (3, .row 3)]) (H' := [(0, fndB r S (.row 1) false), (1, .row 22 1 (out.map encW)), (2, .row 3 1 ((outE e).map encI)), (3, .row 4 1 ((hasE e).map encBl))]) (fun j => match j with | 2 => 3 | 3 => 5 | j => j) ⟨rfl, rfl, rfl, rfl, trivial⟩ ⟨rfl, rfl, rfl, rfl, trivial⟩ rfl rfl rfl rfl rfl rfl) ?_
    have w := reckon_fn r S out false e hok hn
    cases hrec : recN r.body (r.body.length + 1) e with
    | none =>
      rw [hrec] at w
      have hf : fromE S r.body (yesL r.body i) e = [] := by cases yesL r.body i <;> (unfold fromE; rw [hrec])
      rw [hf, addW_nil _ ho]
      repeat' (first | (apply ds_evC; exact rfl; (with_reducible exact trivial); (with_reducible exact rfl); exact rfl; exact rfl; exact rfl) | apply dw_seq2 | (apply ds_region; exact rfl))
      refine ds_callF (fun j => match j with | 1 => 2 | 2 => 3 | 3 => 1 | j => j) w rfl rfl rfl rfl ⟨rfl, rfl, rfl, rfl, trivial⟩ rfl rfl rfl rfl rfl rfl ?_ ?_
      · rintro k2 res H2 ⟨rfl, e', rfl⟩; exact ⟨rfl, rfl⟩
      rintro k2 res H2 ⟨rfl, e', rfl⟩
      change DS _ _ _ _ _ _ _ _
      repeat' (first | (apply ds_evC; exact rfl; (with_reducible exact trivial); (with_reducible exact rfl); exact rfl; exact rfl; exact rfl) | (apply ds_skip; exact rfl; exact rfl) | apply ds_nil | apply dw_ret | (apply dw_condT; exact rfl) | apply thenD_n | apply thenD_r)
      exact ⟨.inl rfl, _, rfl, id, 2, .tup [], fndH r S out false, rfl, ⟨rfl, rfl, trivial⟩, rfl, rfl, rfl, rfl, rfl, rfl, rfl, rfl, rfl⟩
    | some e1 =>
      rw [hrec] at w
      obtain ⟨q1, q2, _, _⟩ := recN_some hok.lit hrec
      have hn1 : numE e1 := recN_num hok hn hrec
      rw [← q1] at hok he8
      have hf : fromE S r.body (yesL r.body i) e = if wrongE S r.body e1 then [] else ysW S r.body e1 (yesL r.body i) := by
        cases yesL r.body i <;> (rw [fromE, hrec]; rfl)
      rw [hf]
      clear hf hrec q2 lo lh lo' lh' hn q1
      have lo : ((outE e1).map encI).length = e1.length := by rw [List.length_map, outE_len]
      have lh : ((hasE e1).map encBl).length = e1.length := by rw [List.length_map, hasE_len]
      have lo' := outE_len e1
      have lh' := hasE_len e1
      repeat' (first | (apply ds_evC; exact rfl; (with_reducible exact trivial); (with_reducible exact rfl); exact rfl; exact rfl; exact rfl) | apply dw_seq2 | (apply ds_region; exact rfl))
      refine ds_callF (fun j => match j with | 1 => 2 | 2 => 3 | 3 => 1 | j => j) w rfl rfl rfl rfl ⟨rfl, rfl, rfl, rfl, trivial⟩ rfl rfl rfl rfl rfl rfl ?_ ?_
      · rintro k2 res H2 ⟨rfl, rfl⟩; exact ⟨rfl, rfl⟩
      rintro k2 res H2 ⟨rfl, rfl⟩
      change DS _ _ _ _ _ _ _ _
      refine ds_ent (ent_seal 2 rfl rfl rfl) ?_
      refine ds_ent (ent_seal 3 rfl rfl rfl) ?_
      have w2 := fwrong_fn r S out false e1 hok hn1
      clear w
      cases hwr : wrongE S r.body e1 with
      | true =>
        rw [hwr] at w2
        rw [if_pos rfl, addW_nil _ ho]
        repeat' (apply ds_evC; exact rfl; (with_reducible exact trivial); (with_reducible exact rfl); exact rfl; exact rfl; exact rfl)
        (refine ds_callF id (w2) rfl rfl rfl rfl ⟨rfl, rfl, trivial⟩ rfl rfl rfl rfl rfl rfl ?_ ?_)
        · rintro k2 res H2 ⟨rfl, rfl⟩; exact ⟨rfl, rfl⟩
        rintro k2 res H2 ⟨rfl, rfl⟩
        change DS _ _ _ _ _ _ _ _
        repeat' (first | (apply ds_evC; exact rfl; (with_reducible exact trivial); (with_reducible exact rfl); exact rfl; exact rfl; exact rfl) | apply ds_nil | apply dw_ret | (apply dw_condT; exact rfl) | apply thenD_n | apply thenD_r)
        exact ⟨.inl rfl, _, rfl, id, 2, .tup [], fndH r S out false, rfl, ⟨rfl, rfl, trivial⟩, rfl, rfl, rfl, rfl, rfl, rfl, rfl, rfl, rfl⟩
      | false =>
        rw [hwr] at w2
        rw [if_neg (by simp)]
        repeat' (apply ds_evC; exact rfl; (with_reducible exact trivial); (with_reducible exact rfl); exact rfl; exact rfl; exact rfl)
        (refine ds_callF id (w2) rfl rfl rfl rfl ⟨rfl, rfl, trivial⟩ rfl rfl rfl rfl rfl rfl ?_ ?_)
        · rintro k2 res H2 ⟨rfl, rfl⟩; exact ⟨rfl, rfl⟩
        rintro k2 res H2 ⟨rfl, rfl⟩
        change DS _ _ _ _ _ _ _ _
        repeat' (first | (apply ds_evC; exact rfl; (with_reducible exact trivial); (with_reducible exact rfl); exact rfl; exact rfl; exact rfl) | apply ds_nil | apply dw_seq2 | apply dw_block | apply dw_skip | (apply dw_condF; exact rfl) | apply thenD_n)
        clear w2
        refine ds_loop (ι := Nat) (fun j => ⟨2, [(0, .loc 0 0), (1, .d (.int .i64 j)), (2, .d (.slice 1 ((outE e1).map encI))), (3, .d (.slice 1 ((hasE e1).map encBl)))], fndH r S out false⟩)
          (fun j => i ≤ j ∧ j ≤ r.body.length ∧ yesL r.body i = yesL r.body j) (fun j => r.body.length - j) i ⟨Nat.le_refl _, hil, rfl⟩ (ent_ren id ⟨rfl, rfl, rfl, rfl, trivial⟩ ⟨rfl, rfl, trivial⟩ rfl rfl rfl rfl rfl rfl) ?_
        rintro j ⟨g1, g2, g3⟩
        by_cases hj : j < r.body.length
        · by_cases hk : r.body[j].kind = 1
          · have hy := yesL_yes hj hk
            repeat' (first | (apply ds_evC; exact rfl; (first | (with_reducible exact trivial) | omega); (first | ((with_reducible apply hv_row); (exact rfl); (omega)) | (with_reducible exact rfl)); exact rfl; exact rfl; exact rfl) | (apply ds_skip; exact rfl; exact rfl) | apply ds_nil | apply dw_seq2 | (apply ds_region; exact rfl) | apply dw_block | apply dw_skip | apply dw_exit | apply dw_ret | (apply dw_condF; exact rfl) | apply thenD_n | apply thenD_e | apply thenD_r | apply inB_n | (apply inB_e; exact rfl) | (apply ds_newC; exact rfl; (with_reducible exact trivial); exact rfl; exact rfl; exact rfl) | (apply ds_setC; exact rfl; exact rfl; exact rfl; exact rfl) | (apply ds_bsC; exact rfl; exact rfl; exact rfl; exact rfl) | (apply ds_tradeC; exact rfl; (omega); exact rfl; exact rfl; exact rfl; exact rfl) | (apply dw_condP; exact rfl; all_goals intro hg) | ((fail_if_success (apply ds_known; exact rfl)); apply ds_guardP; exact rfl; exact rfl; exact rfl; all_goals intro hg))
            all_goals try (exfalso; omega)
            refine dw_ent (ent_ren (k' := 3) (L' := [(0, .loc 0 0), (1, .d (.int .i64 j)), (2, .d (.slice 1 ((outE e1).map encI))), (3, .d (.slice 1 ((hasE e1).map encBl))), (8, .loc 2 0), (9, .d (.int .i64 0))]) (H' := (2, litB r.body[j]) :: fndH r S out false) id ⟨rfl, rfl, rfl, rfl, rfl, rfl, trivial⟩ ⟨rfl, rfl, rfl, trivial⟩ rfl rfl rfl rfl rfl rfl) ?_
            have hlk := hok.lit _ (List.getElem_mem hj)
            have htl := hok.tlen _ (List.getElem_mem hj)
            have hrec := ih (j + 1) (by omega) (by omega)
            unfold FromOk at hrec
            have hfm : ysW S r.body e1 (yesL r.body i) = S.flatMap (gW (fromE S r.body (yesL r.body (j + 1))) r.body[j] e1) := by rw [g3, hy]; exact litW_yes hk
            rw [hfm]
            clear hfm hy g3
            generalize fromE S r.body (yesL r.body (j + 1)) = go at hrec ⊢
            generalize r.body[j] = l at hk hlk htl ⊢
            have ls : (S.map encFct).length = S.length := List.length_map _
            refine ds_loop (ι := Nat) (fun k => ⟨3, [(0, .loc 0 0), (1, .d (.int .i64 j)), (2, .d (.slice 1 ((outE e1).map encI))), (3, .d (.slice 1 ((hasE e1).map encBl))), (8, .loc 2 0), (9, .d (.int .i64 k))], (2, litB l) :: fndH r S (addW ((S.take k).flatMap (gW go l e1)) (out, false)).1 (addW ((S.take k).flatMap (gW go l e1)) (out, false)).2⟩)
              (fun k => k ≤ S.length) (fun k => S.length - k) 0 (Nat.zero_le _) (ent_ren id ⟨rfl, rfl, rfl, rfl, rfl, rfl, trivial⟩ (by rw [List.take_zero, List.flatMap_nil, addW_nil _ ho]; exact ⟨rfl, rfl, rfl, trivial⟩) rfl rfl rfl rfl rfl rfl) ?_
            intro k hks
            have hok1 := addW_len ((S.take k).flatMap (gW go l e1)) (out, false) ho
            have hwhole : addW (S.flatMap (gW go l e1)) (out, false) = addW ((S.drop k).flatMap (gW go l e1)) (addW ((S.take k).flatMap (gW go l e1)) (out, false)) := by rw [← addW_app _ _ _ ho, ← List.flatMap_append, List.take_append_drop]
            have hstep : ∀ hkl : k < S.length, addW ((S.take (k + 1)).flatMap (gW go l e1)) (out, false) = addW (gW go l e1 S[k]) (addW ((S.take k).flatMap (gW go l e1)) (out, false)) := fun hkl => by rw [List.take_succ_eq_append_getElem hkl, List.flatMap_append, addW_app _ _ _ ho]; simp
            generalize hst : addW ((S.take k).flatMap (gW go l e1)) (out, false) = st at hok1 hwhole hstep ⊢
            obtain ⟨o2, m2⟩ := st
            dsimp only at hok1 ⊢
            clear hst
            cases m2 with
            | true =>
              rw [hwhole, addW_many]
              repeat' (first | (apply ds_evC; exact rfl; (with_reducible exact trivial); (with_reducible exact rfl); exact rfl; exact rfl; exact rfl) | (apply ds_skip; exact rfl; exact rfl) | apply ds_nil | apply dw_seq2 | (apply ds_region; exact rfl) | apply dw_exit | (apply dw_condF; exact rfl) | apply thenD_n | apply thenD_e | (apply inB_e; exact rfl) | ((fail_if_success (apply ds_known; exact rfl)); apply ds_guardP; exact rfl; exact rfl; exact rfl; all_goals intro hg))
              all_goals try (exfalso; omega)
              all_goals exact ⟨.inr rfl, _, rfl, id, 2, .tup [], fndH r S o2 true, rfl, ⟨rfl, rfl, trivial⟩, rfl, rfl, rfl, rfl, rfl, rfl, rfl, rfl, rfl⟩
            | false =>
              by_cases hkl : k < S.length
              · have hstep := hstep hkl
                have hxf := hok.facts _ (List.getElem_mem hkl)
                have hxa := hlk.facts hk _ (List.getElem_mem hkl)
                repeat' ((fail_if_success (apply dw_stopS 14)); (first | (apply ds_evC; exact rfl; (first | (with_reducible exact trivial) | omega); (first | ((with_reducible apply hv_row); (exact rfl); (omega)) | (with_reducible exact rfl)); exact rfl; exact rfl; exact rfl) | (apply ds_skip; exact rfl; exact rfl) | apply ds_nil | apply dw_seq2 | (apply ds_region; exact rfl) | apply dw_block | apply dw_skip | apply dw_exit | (apply dw_condT; exact rfl) | (apply dw_condF; exact rfl) | apply thenD_n | apply thenD_e | (apply inB_e; exact rfl) | (apply ds_newC; exact rfl; (with_reducible exact trivial); exact rfl; exact rfl; exact rfl) | (apply ds_setC; exact rfl; exact rfl; exact rfl; exact rfl) | ((fail_if_success (apply ds_known; exact rfl)); apply ds_guardP; exact rfl; exact rfl; exact rfl; all_goals intro hg)))
                all_goals try (exfalso; omega)
                refine dw_ent (ent_ren (k' := 4) (L' := [(0, .loc 0 0), (1, .d (.int .i64 j)), (2, .d (.slice 1 ((outE e1).map encI))), (3, .d (.slice 1 ((hasE e1).map encBl))), (8, .loc 2 0), (9, .d (.int .i64 k)), (10, .loc 3 0)]) (H' := (3, fctB S[k]) :: (2, litB l) :: fndH r S o2 false) id ⟨rfl, rfl, rfl, rfl, rfl, rfl, rfl, trivial⟩ ⟨rfl, rfl, rfl, rfl, trivial⟩ rfl rfl rfl rfl rfl rfl) ?_
                generalize S[k] = x at hstep hxf hxa ⊢
                have lxa : (x.args.map encI).length = x.args.length := List.length_map _
                have llt : (l.terms.map encTrm).length = l.terms.length := List.length_map _
                by_cases hp : x.pred = l.pred
                · have hxl := hxa hp
                  repeat' (first | (apply ds_bs0; exact rfl; exact rfl; exact rfl; exact rfl; exact rfl; exact rfl; exact rfl; exact rfl) | (first | (apply ds_evC; exact rfl; (first | (with_reducible exact trivial) | omega); (with_reducible exact rfl); exact rfl; exact rfl; exact rfl) | apply ds_nil | apply dw_seq2 | (apply ds_region; exact rfl) | apply dw_block | apply dw_skip | apply dw_exit | apply thenD_n | apply thenD_e | (apply inB_e; exact rfl) | (apply ds_tradeC; exact rfl; (unfold maxLen; simp <;> omega); exact rfl; exact rfl; exact rfl; exact rfl) | (apply dw_condP; exact rfl; all_goals intro hg)))
                  all_goals try (exfalso; omega)
                  refine ds_loop (ι := Nat × Bool × RE) (fun z => ⟨6, [(0, .loc 0 0), (1, .d (.int .i64 j)), (2, .d (.slice 1 ((outE e1).map encI))), (3, .d (.slice 1 ((hasE e1).map encBl))), (8, .loc 2 0), (9, .d (.int .i64 k)), (10, .loc 3 0), (11, .row 4), (12, .row 5), (13, .d (.bool z.2.1)), (14, .d (.int .i64 z.1))], (5, .row 4 1 ((hasE z.2.2).map encBl)) :: (4, .row 3 1 ((outE z.2.2).map encI)) :: (3, fctB x) :: (2, litB l) :: fndH r S o2 false⟩)
                    (fun z => z.1 ≤ l.terms.length ∧ z.2.2.length = e1.length ∧ numE z.2.2 ∧ (z.2.1 = true → matchE e1 l.terms x.args = matchE z.2.2 (l.terms.drop z.1) (x.args.drop z.1)) ∧ (z.2.1 = false → matchE e1 l.terms x.args = none)) (fun z => l.terms.length - z.1) (0, true, e1) ⟨Nat.zero_le _, rfl, hn1, fun _ => rfl, fun h => by cases h⟩
                    (ent_ren (fun j => match j with | 4 => 5 | 5 => 7 | j => j) ⟨rfl, rfl, rfl, rfl, rfl, rfl, rfl, rfl, rfl, rfl, rfl, trivial⟩ ⟨rfl, rfl, rfl, rfl, rfl, rfl, trivial⟩ rfl rfl rfl rfl rfl rfl) ?_
                  rintro ⟨a, ok, ej⟩ ⟨f1, f2, f3, f4, f5⟩
                  dsimp only at f1 f2 f3 f4 f5 ⊢
                  have lj : ((outE ej).map encI).length = e1.length := by rw [List.length_map, outE_len, f2]
                  have lk : ((hasE ej).map encBl).length = e1.length := by rw [List.length_map, hasE_len, f2]
                  cases ok with
                  | false =>
                    have hm := f5 rfl
                    have hg0 : gW go l e1 x = [] := by unfold gW; rw [if_pos hp, hm]
                    rw [hg0, addW_nil _ hok1] at hstep
                    repeat' (first | (apply ds_evC; exact rfl; (first | (with_reducible exact trivial) | omega); (with_reducible exact rfl); exact rfl; exact rfl; exact rfl) | (apply ds_skip; exact rfl; exact rfl) | apply ds_nil | apply dw_seq2 | (apply ds_region; exact rfl) | apply dw_skip | apply dw_exit | (apply dw_condF; exact rfl) | apply thenD_n | apply thenD_e | apply inB_n | (apply inB_e; exact rfl) | ((fail_if_success (apply ds_known; exact rfl)); apply ds_guardP; exact rfl; exact rfl; exact rfl; all_goals intro hg))
                    all_goals try (exfalso; omega)
                    all_goals exact ⟨k + 1, hkl, ent_ren id ⟨rfl, rfl, rfl, rfl, rfl, rfl, trivial⟩ (by rw [hstep]; exact ⟨rfl, rfl, rfl, trivial⟩) rfl rfl rfl rfl rfl rfl, by omega⟩
                  | true =>
                    have hm := f4 rfl
                    by_cases ha : a < l.terms.length
                    · have hta := hlk.terms _ (List.getElem_mem ha)
                      rw [List.drop_eq_getElem_cons ha, List.drop_eq_getElem_cons (show a < x.args.length by omega), matchE] at hm
                      have htn := hok.nums
                      have hax : a < x.args.length := by omega
                      have hyn := hxf _ (List.getElem_mem hax)
                      by_cases hv : l.terms[a].var < 0
                      · have hvo : vOf ej l.terms[a] = some l.terms[a].n := by unfold vOf; rw [if_pos hv]
                        rw [hvo] at hm
                        have hm : matchE e1 l.terms x.args = if l.terms[a].n = x.args[a]'hax then matchE ej (l.terms.drop (a + 1)) (x.args.drop (a + 1)) else none := hm
                        repeat' (first | (apply ds_evC; exact rfl; (first | (with_reducible exact trivial) | omega); (first | ((with_reducible apply hv_prow); (exact (Int.toNat_of_nonneg (by omega)).symm)) | ((with_reducible apply hv_ldrow); (apply hv_get; (omega)); exact rfl) | ((with_reducible apply hv_row); (exact rfl); (omega)) | (with_reducible exact rfl)); exact rfl; exact rfl; exact rfl) | (apply ds_skip; exact rfl; exact rfl) | apply ds_nil | (apply dt_ev; exact rfl; exact rfl; (first | (with_reducible exact trivial) | omega); (first | ((with_reducible apply hv_prow); (exact (Int.toNat_of_nonneg (by omega)).symm)) | ((with_reducible apply hv_ldrow); (apply hv_get; (omega)); exact rfl) | ((with_reducible apply hv_row); (exact rfl); (omega)) | (with_reducible exact rfl)); exact rfl; exact rfl; exact rfl; exact rfl) | (apply dt_set; exact rfl; exact rfl; (omega); exact rfl; exact rfl; exact rfl; exact rfl) | (apply dt_nil0; exact rfl; exact rfl; exact rfl; exact rfl) | apply dw_seq2 | (apply ds_region; exact rfl) | (apply dw_any; kernel_rfl; kernel_rfl; exact rfl; exact rfl) | apply dw_block | apply dw_skip | apply dw_exit | (apply dw_condT; exact rfl) | (apply dw_condF; exact rfl) | apply thenD_n | apply thenD_e | apply inB_n | (apply inB_e; exact rfl) | (apply ds_newC; exact rfl; (with_reducible exact trivial); exact rfl; exact rfl; exact rfl) | (apply ds_setC; exact rfl; exact rfl; exact rfl; exact rfl) | (apply dw_condP; exact rfl; all_goals intro hg) | (apply dw_cond; exact rfl; all_goals intro hg) | ((fail_if_success (apply ds_known; exact rfl)); apply ds_guardP; exact rfl; exact rfl; exact rfl; all_goals intro hg))
                        all_goals try (exfalso; omega)
                        exact ⟨(a + 1, decide (l.terms[a].n = x.args[a]'hax), ej), ⟨by dsimp only; omega, f2, f3, fun h => by rw [hm, if_pos (of_decide_eq_true h)], fun h => by rw [hm, if_neg (of_decide_eq_false h)]⟩, ent_ren id ⟨rfl, rfl, rfl, rfl, rfl, rfl, rfl, rfl, rfl, rfl, rfl, trivial⟩ ⟨rfl, rfl, rfl, rfl, rfl, rfl, trivial⟩ rfl rfl rfl rfl rfl rfl, by show l.terms.length - (a + 1) < l.terms.length - a; omega⟩
                      · unfold okT at hta
                        have hlt : l.terms[a].var.toNat < ej.length := by omega
                        have hvo : vOf ej l.terms[a] = ej[l.terms[a].var.toNat] := by unfold vOf; rw [if_neg hv, List.getD, List.getElem?_eq_getElem hlt]; rfl
                        have hho : (hasE ej)[l.terms[a].var.toNat]'(by rw [hasE_len]; exact hlt) = (ej[l.terms[a].var.toNat]).isSome := by unfold hasE; rw [List.getElem_map]
                        have hoo : (outE ej)[l.terms[a].var.toNat]'(by rw [outE_len]; exact hlt) = (ej[l.terms[a].var.toNat]).getD 0 := by unfold outE; rw [List.getElem_map]
                        rw [hvo] at hm
                        cases hc : ej[l.terms[a].var.toNat] with
                        | some z =>
                          rw [hc] at hm hho hoo
                          have hm : matchE e1 l.terms x.args = if z = x.args[a]'hax then matchE ej (l.terms.drop (a + 1)) (x.args.drop (a + 1)) else none := hm
                          have hho : (hasE ej)[l.terms[a].var.toNat]'(by rw [hasE_len]; exact hlt) = true := hho
                          have hoo : (outE ej)[l.terms[a].var.toNat]'(by rw [outE_len]; exact hlt) = z := hoo
                          repeat' ((fail_if_success (apply dw_stopT 21)); (first | (apply ds_evC; exact rfl; (first | (with_reducible exact trivial) | omega); (first | ((with_reducible apply hv_prow); (exact (Int.toNat_of_nonneg (by omega)).symm)) | ((with_reducible apply hv_ldrow); (apply hv_get; (omega)); exact rfl) | ((with_reducible apply hv_row); (exact rfl); (omega)) | (with_reducible exact rfl)); exact rfl; exact rfl; exact rfl) | (apply ds_skip; exact rfl; exact rfl) | apply ds_nil | (apply dt_ev; exact rfl; exact rfl; (first | (with_reducible exact trivial) | omega); (first | ((with_reducible apply hv_prow); (exact (Int.toNat_of_nonneg (by omega)).symm)) | ((with_reducible apply hv_ldrow); (apply hv_get; (omega)); exact rfl) | ((with_reducible apply hv_row); (exact rfl); (omega)) | (with_reducible exact rfl)); exact rfl; exact rfl; exact rfl; exact rfl) | (apply dt_nil0; exact rfl; exact rfl; exact rfl; exact rfl) | apply dw_seq2 | (apply ds_region; exact rfl) | (apply dw_any; kernel_rfl; kernel_rfl; exact rfl; exact rfl) | apply dw_block | apply dw_skip | apply dw_exit | (apply dw_condT; exact rfl) | (apply dw_condF; exact rfl) | apply thenD_n | apply thenD_e | apply inB_n | (apply inB_e; exact rfl) | (apply ds_newC; exact rfl; (with_reducible exact trivial); exact rfl; exact rfl; exact rfl) | (apply ds_setC; exact rfl; exact rfl; exact rfl; exact rfl) | (apply dw_condP; exact rfl; all_goals intro hg) | (apply dw_cond; exact rfl; all_goals intro hg) | ((fail_if_success (apply ds_known; exact rfl)); apply ds_guardP; exact rfl; exact rfl; exact rfl; all_goals intro hg)))
                          all_goals try (exfalso; omega)
                          all_goals try (exfalso; rw [hho] at hg; cases hg; done)
                          exact ⟨(a + 1, decide (z = x.args[a]'hax), ej), ⟨by dsimp only; omega, f2, f3, fun h => by rw [hm, if_pos (of_decide_eq_true h)], fun h => by rw [hm, if_neg (of_decide_eq_false h)]⟩, ent_ren id ⟨rfl, rfl, rfl, rfl, rfl, rfl, rfl, rfl, rfl, by rw [← hoo]; rfl, rfl, trivial⟩ ⟨rfl, rfl, rfl, rfl, rfl, rfl, trivial⟩ rfl rfl rfl rfl rfl rfl, by show l.terms.length - (a + 1) < l.terms.length - a; omega⟩
                        | none =>
                          rw [hc] at hm hho hoo
                          have hm : matchE e1 l.terms x.args = matchE (ej.set l.terms[a].var.toNat (some (x.args[a]'hax))) (l.terms.drop (a + 1)) (x.args.drop (a + 1)) := hm
                          have hho : (hasE ej)[l.terms[a].var.toNat]'(by rw [hasE_len]; exact hlt) = false := hho
                          repeat' ((fail_if_success (apply dw_stopT 21)); (fail_if_success (apply dw_stopT 25)); (first | (apply ds_evC; exact rfl; (first | (with_reducible exact trivial) | omega); (first | ((with_reducible apply hv_prow); (exact (Int.toNat_of_nonneg (by omega)).symm)) | ((with_reducible apply hv_ldrow); (apply hv_get; (omega)); exact rfl) | ((with_reducible apply hv_row); (exact rfl); (omega)) | (with_reducible exact rfl)); exact rfl; exact rfl; exact rfl) | (apply ds_skip; exact rfl; exact rfl) | apply ds_nil | (apply dt_ev; exact rfl; exact rfl; (first | (with_reducible exact trivial) | omega); (first | ((with_reducible apply hv_row); (exact rfl); (omega)) | (with_reducible exact rfl)); exact rfl; exact rfl; exact rfl; exact rfl) | (apply dt_nil0; exact rfl; exact rfl; exact rfl; exact rfl) | apply dw_seq2 | (apply ds_region; exact rfl) | (apply dw_any; kernel_rfl; kernel_rfl; exact rfl; exact rfl) | apply dw_block | apply dw_skip | apply dw_exit | (apply dw_condT; exact rfl) | (apply dw_condF; exact rfl) | apply thenD_n | apply thenD_e | apply inB_n | (apply inB_e; exact rfl) | (apply ds_newC; exact rfl; (with_reducible exact trivial); exact rfl; exact rfl; exact rfl) | (apply ds_setC; exact rfl; exact rfl; exact rfl; exact rfl) | (apply dw_condP; exact rfl; all_goals intro hg) | (apply dw_cond; exact rfl; all_goals intro hg) | ((fail_if_success (apply ds_known; exact rfl)); apply ds_guardP; exact rfl; exact rfl; exact rfl; all_goals intro hg)))
                          all_goals try (exfalso; omega)
                          all_goals try (exfalso; rw [hho] at hg; cases hg; done)
                          have hpm : l.terms[a].var.toNat < ((outE ej).map encI).length ∧ ∀ y ∈ (outE ej).map encI, y.length = 1 := ⟨by rw [List.length_map, outE_len]; exact hlt, fun y hy => by obtain ⟨z, _, rfl⟩ := List.mem_map.1 hy; rfl⟩
                          have hpk : l.terms[a].var.toNat < ((hasE ej).map encBl).length ∧ ∀ y ∈ (hasE ej).map encBl, y.length = 1 := ⟨by rw [List.length_map, hasE_len]; exact hlt, fun y hy => by obtain ⟨z, _, rfl⟩ := List.mem_map.1 hy; rfl⟩
                          repeat' (first | (apply ds_evC; exact rfl; (first | (with_reducible exact trivial) | omega); (with_reducible exact rfl); exact rfl; exact rfl; exact rfl) | apply ds_nil | (apply dt_ev; exact rfl; exact rfl; (first | (with_reducible exact trivial) | omega); (first | ((with_reducible apply hv_prow); (exact (Int.toNat_of_nonneg (by omega)).symm)) | ((with_reducible apply hv_row); (exact rfl); (omega)) | (with_reducible exact rfl)); exact rfl; exact rfl; exact rfl; exact rfl) | (apply dt_set; exact rfl; exact rfl; (omega); exact rfl; exact rfl; exact rfl; exact rfl) | (apply dt_nil0; exact rfl; exact rfl; exact rfl; exact rfl) | (apply ds_region; exact rfl) | (apply dw_any; kernel_rfl; kernel_rfl; exact rfl; exact rfl) | apply thenD_n | apply inB_n)
                          have o1 := outE_set ej l.terms[a].var.toNat (x.args[a]'hax)
                          have o2 := hasE_set ej l.terms[a].var.toNat (x.args[a]'hax)
                          exact ⟨(a + 1, true, ej.set l.terms[a].var.toNat (some (x.args[a]'hax))), ⟨by dsimp only; omega, by dsimp only; rw [List.length_set]; exact f2, numE_set f3 (numB_iff.2 hyn), fun _ => hm, fun h => by cases h⟩, ent_ren id ⟨rfl, rfl, rfl, rfl, rfl, rfl, rfl, rfl, rfl, rfl, rfl, trivial⟩ ⟨by rw [o2, List.map_set]; rfl, by rw [o1, List.map_set]; rfl, rfl, rfl, rfl, rfl, trivial⟩ rfl rfl rfl rfl rfl rfl, by show l.terms.length - (a + 1) < l.terms.length - a; omega⟩
                    · rw [List.drop_of_length_le (by omega)] at hm
                      have hm : matchE e1 l.terms x.args = some ej := hm
                      have hg0 : gW go l e1 x = go ej := by unfold gW; rw [if_pos hp, hm]
                      rw [hg0] at hstep
                      have wr := hrec ej o2 false (by rw [f2]; exact hok) f3 hok1
                      repeat' ((fail_if_success (apply dw_stopS 27)); (first | (apply ds_evC; exact rfl; (first | (with_reducible exact trivial) | omega); (first | ((with_reducible apply hv_prow); (exact (Int.toNat_of_nonneg (by omega)).symm)) | ((with_reducible apply hv_ldrow); (apply hv_get; (omega)); exact rfl) | ((with_reducible apply hv_row); (exact rfl); (omega)) | (with_reducible exact rfl)); exact rfl; exact rfl; exact rfl) | (apply ds_skip; exact rfl; exact rfl) | apply ds_nil | (apply dt_ev; exact rfl; exact rfl; (first | (with_reducible exact trivial) | omega); (first | ((with_reducible apply hv_prow); (exact (Int.toNat_of_nonneg (by omega)).symm)) | ((with_reducible apply hv_ldrow); (apply hv_get; (omega)); exact rfl) | ((with_reducible apply hv_row); (exact rfl); (omega)) | (with_reducible exact rfl)); exact rfl; exact rfl; exact rfl; exact rfl) | (apply dt_set; exact rfl; exact rfl; (omega); exact rfl; exact rfl; exact rfl; exact rfl) | (apply dt_nil0; exact rfl; exact rfl; exact rfl; exact rfl) | apply dw_seq2 | (apply ds_region; exact rfl) | (apply dw_any; kernel_rfl; kernel_rfl; exact rfl; exact rfl) | apply dw_block | apply dw_skip | apply dw_exit | (apply dw_condT; exact rfl) | (apply dw_condF; exact rfl) | apply thenD_n | apply thenD_e | apply inB_n | (apply inB_e; exact rfl) | (apply ds_newC; exact rfl; (with_reducible exact trivial); exact rfl; exact rfl; exact rfl) | (apply ds_setC; exact rfl; exact rfl; exact rfl; exact rfl) | (apply dw_condP; exact rfl; all_goals intro hg) | (apply dw_cond; exact rfl; all_goals intro hg) | ((fail_if_success (apply ds_known; exact rfl)); apply ds_guardP; exact rfl; exact rfl; exact rfl; all_goals intro hg)))
                      all_goals try (exfalso; omega)
                      refine ds_ent (ent_seal 189 rfl rfl rfl) ?_
                      refine ds_ent (ent_seal 190 rfl rfl rfl) ?_
                      (refine ds_callF id (wr) rfl rfl rfl rfl ⟨rfl, rfl, trivial⟩ rfl rfl rfl rfl rfl rfl ?_ ?_)
                      · rintro k2 res H2 ⟨rfl, rfl, rfl⟩; exact ⟨rfl, rfl⟩
                      rintro k2 res H2 ⟨rfl, rfl, rfl⟩
                      change DS _ _ _ _ _ _ _ _
                      repeat' (first | (apply ds_evC; exact rfl; (first | (with_reducible exact trivial) | omega); (with_reducible exact rfl); exact rfl; exact rfl; exact rfl) | apply ds_nil | (apply ds_region; exact rfl) | apply thenD_n | apply inB_n)
                      exact ⟨k + 1, hkl, ent_ren (fun j => match j with | 1 => 7 | j => j) ⟨rfl, rfl, rfl, rfl, rfl, rfl, trivial⟩ (by rw [hstep]; exact ⟨rfl, rfl, rfl, trivial⟩) rfl rfl rfl rfl rfl rfl, by omega⟩
                · have hg0 : gW go l e1 x = [] := by unfold gW; rw [if_neg hp]
                  rw [hg0, addW_nil _ hok1] at hstep
                  repeat' (first | (apply ds_evC; exact rfl; (first | (with_reducible exact trivial) | omega); (with_reducible exact rfl); exact rfl; exact rfl; exact rfl) | apply ds_nil | apply dw_seq2 | (apply ds_region; exact rfl) | apply dw_skip | apply dw_exit | apply thenD_n | apply thenD_e | (apply inB_e; exact rfl) | (apply ds_bsC; exact rfl; exact rfl; exact rfl; exact rfl) | (apply dw_condP; exact rfl; all_goals intro hg))
                  all_goals try (exfalso; omega)
                  all_goals try (exfalso; exact hg hp)
                  exact ⟨k + 1, hkl, ent_ren id ⟨rfl, rfl, rfl, rfl, rfl, rfl, trivial⟩ (by rw [hstep]; exact ⟨rfl, rfl, rfl, trivial⟩) rfl rfl rfl rfl rfl rfl, by omega⟩
              · rw [hwhole, List.drop_of_length_le (by omega), List.flatMap_nil, addW_nil _ hok1]
                repeat' (first | (apply ds_evC; exact rfl; (first | (with_reducible exact trivial) | omega); (first | ((with_reducible apply hv_row); (exact rfl); (omega)) | (with_reducible exact rfl)); exact rfl; exact rfl; exact rfl) | (apply ds_skip; exact rfl; exact rfl) | apply ds_nil | apply dw_seq2 | (apply ds_region; exact rfl) | apply dw_block | apply dw_skip | apply dw_exit | (apply dw_condT; exact rfl) | (apply dw_condF; exact rfl) | apply thenD_n | apply thenD_e | (apply inB_e; exact rfl) | (apply ds_newC; exact rfl; (with_reducible exact trivial); exact rfl; exact rfl; exact rfl) | (apply ds_setC; exact rfl; exact rfl; exact rfl; exact rfl) | (apply ds_bsC; exact rfl; exact rfl; exact rfl; exact rfl) | (apply dw_condP; exact rfl; all_goals intro hg) | ((fail_if_success (apply ds_known; exact rfl)); apply ds_guardP; exact rfl; exact rfl; exact rfl; all_goals intro hg))
                all_goals try (exfalso; omega)
                all_goals exact ⟨.inr rfl, _, rfl, id, 2, .tup [], fndH r S o2 false, rfl, ⟨rfl, rfl, trivial⟩, rfl, rfl, rfl, rfl, rfl, rfl, rfl, rfl, rfl⟩
          · have hy := yesL_skip hj hk
            repeat' (first | (apply ds_evC; exact rfl; (first | (with_reducible exact trivial) | omega); (first | ((with_reducible apply hv_row); (exact rfl); (omega)) | (with_reducible exact rfl)); exact rfl; exact rfl; exact rfl) | (apply ds_skip; exact rfl; exact rfl) | apply ds_nil | apply dw_seq2 | (apply ds_region; exact rfl) | apply dw_block | apply dw_skip | apply dw_exit | apply dw_ret | (apply dw_condF; exact rfl) | apply thenD_n | apply thenD_e | apply thenD_r | apply inB_n | (apply inB_e; exact rfl) | (apply ds_newC; exact rfl; (with_reducible exact trivial); exact rfl; exact rfl; exact rfl) | (apply ds_setC; exact rfl; exact rfl; exact rfl; exact rfl) | (apply ds_bsC; exact rfl; exact rfl; exact rfl; exact rfl) | (apply ds_tradeC; exact rfl; (omega); exact rfl; exact rfl; exact rfl; exact rfl) | (apply dw_condP; exact rfl; all_goals intro hg) | ((fail_if_success (apply ds_known; exact rfl)); apply ds_guardP; exact rfl; exact rfl; exact rfl; all_goals intro hg))
            all_goals try (exfalso; omega)
            exact ⟨j + 1, ⟨by omega, by omega, g3.trans hy⟩, ent_ren id ⟨rfl, rfl, rfl, rfl, trivial⟩ ⟨rfl, rfl, trivial⟩ rfl rfl rfl rfl rfl rfl, by omega⟩
        · have hy := yesL_end (Nat.le_of_not_lt hj)
          have hfm : ysW S r.body e1 (yesL r.body i) = [outE e1] := by rw [g3, hy]; rfl
          rw [hfm]
          have lout : (out.map encW).length = out.length := List.length_map _
          by_cases h2k : out.length = 2000
          · rw [addW_full _ h2k]
            repeat' (first | (apply ds_evC; exact rfl; (first | (with_reducible exact trivial) | omega); (first | ((with_reducible apply hv_row); (exact rfl); (omega)) | (with_reducible exact rfl)); exact rfl; exact rfl; exact rfl) | (apply ds_skip; exact rfl; exact rfl) | apply ds_nil | apply dw_seq2 | (apply ds_region; exact rfl) | apply dw_block | apply dw_skip | apply dw_exit | apply dw_ret | (apply dw_condF; exact rfl) | apply thenD_n | apply thenD_e | apply thenD_r | apply inB_n | (apply inB_e; exact rfl) | (apply ds_newC; exact rfl; (with_reducible exact trivial); exact rfl; exact rfl; exact rfl) | (apply ds_setC; exact rfl; exact rfl; exact rfl; exact rfl) | (apply ds_bsC; exact rfl; exact rfl; exact rfl; exact rfl) | (apply ds_tradeC; exact rfl; (omega); exact rfl; exact rfl; exact rfl; exact rfl) | (apply dw_condP; exact rfl; all_goals intro hg) | ((fail_if_success (apply ds_known; exact rfl)); apply ds_guardP; exact rfl; exact rfl; exact rfl; all_goals intro hg))
            all_goals try (exfalso; omega)
            exact ⟨.inl rfl, _, rfl, id, 2, .tup [], fndH r S out true, rfl, ⟨rfl, rfl, trivial⟩, rfl, rfl, rfl, rfl, rfl, rfl, rfl, rfl, rfl⟩
          · rw [addW_one _ (by omega)]
            repeat' (first | (apply ds_evC; exact rfl; (first | (with_reducible exact trivial) | omega); (first | ((with_reducible apply hv_row); (exact rfl); (omega)) | (with_reducible exact rfl)); exact rfl; exact rfl; exact rfl) | (apply ds_skip; exact rfl; exact rfl) | apply ds_nil | apply dw_seq2 | (apply ds_region; exact rfl) | apply dw_block | apply dw_skip | apply dw_exit | apply dw_ret | (apply dw_condF; exact rfl) | apply thenD_n | apply thenD_e | apply thenD_r | apply inB_n | (apply inB_e; exact rfl) | (apply ds_newC; exact rfl; (with_reducible exact trivial); exact rfl; exact rfl; exact rfl) | (apply ds_setC; exact rfl; exact rfl; exact rfl; exact rfl) | (apply ds_bsC; exact rfl; exact rfl; exact rfl; exact rfl) | (apply ds_tradeC; exact rfl; (first | omega | (unfold maxLen; simp <;> omega)); exact rfl; exact rfl; exact rfl; exact rfl) | (apply dw_condP; exact rfl; all_goals intro hg) | ((fail_if_success (apply ds_known; exact rfl)); apply ds_guardP; exact rfl; exact rfl; exact rfl; all_goals intro hg))
            all_goals try (exfalso; omega)
            exact ⟨.inl rfl, _, rfl, fun j => match j with | 1 => 2 | j => j, 2, .tup [], fndH r S (out ++ [outE e1]) false, rfl, ⟨rfl, by rw [List.map_append]; rfl, trivial⟩, rfl, rfl, rfl, rfl, rfl, rfl, rfl, rfl, rfl⟩
theorem from_fn (r : Rul) (S : List Fct) (hS : S.length ≤ 4398046511104) : ∀ (n i : Nat), r.body.length - i = n → i ≤ r.body.length → FromOk r S i := by
  intro n
  induction n using Nat.strongRecOn with
  | ind n ih => exact fun i hn hi => from_step r S hS i hi fun j h1 h2 => ih (r.body.length - j) (by omega) j rfl h2
end Go.Proofs.YtapciiffpnociabGreat

/- The program's rule.Raw. Condition: none. -/
namespace Go.Proofs.YtapciiffpnociabGreat
open Go Go.RowKit
def manyW (S : List Fct) (r : Rul) : Bool := decide ((waysL S r.vars.toNat r.body).length ≤ 2000)
def rawW (S : List Fct) (r : Rul) : List (List Int) := if manyW S r then waysL S r.vars.toNat r.body else []
structure RulS (S : List Fct) (r : Rul) : Prop where
  ok : okB S r.vars.toNat r.body
  bd : Bd r.body (List.replicate r.vars.toNat false)
  vars : 0 ≤ r.vars ∧ r.vars ≤ 8
attribute [local irreducible] DW DS DL DQ Ev FnOk FnP thenD inBlockD DT
set_option maxHeartbeats 8000000 in
theorem raw_fn (S : List Fct) (r : Rul) (hS : Strict S) (hS2 : S.length ≤ 4398046511104) (hr : RulS S r) : Fn 96 [elRul r, .d (.slice 2 (S.map encFct))] (fun res => res = .tup [.d (.slice 1 ((rawW S r).map encW)), .d (.bool (manyW S r))]) := by
  refine fnp_enter' _ Tryz.func96 rfl rfl (by kernel_rfl) ?_
  intro O w0 E0 β0
  have hv := hr.vars
  have hnd : S.Nodup := hS.imp fun h he => by subst he; exact lt_irrefl h
  obtain ⟨p1, p2, p3⟩ := ways_perm hnd hr.ok.lit hr.bd
  have w := find_fn r S hS hS2 r.body.length r.body rfl (e0 r.vars.toNat) [] (by rw [show (e0 r.vars.toNat).length = r.vars.toNat from List.length_replicate]; exact hr.ok) (fun v x hx => by
    unfold e0 at hx; rw [List.getElem?_replicate] at hx; split at hx <;> simp at hx) (by rw [hasE_e0]; exact hr.bd) (by simp)
  have hlen : (waysL S r.vars.toNat r.body).length = (findE S r.body.length r.body (e0 r.vars.toNat)).length := ((waysL_perm S r.vars.toNat r.body).trans p1.symm).length_eq
  have hnodup := (p1.nodup_iff).2 p2
  have hperm := p1
  clear p1 p2 p3
  have hfew : fewW (findE S r.body.length r.body (e0 r.vars.toNat)) [] = manyW S r := by unfold fewW manyW; rw [hlen]; simp
  rw [hfew] at w
  have hput : manyW S r = true → putW (findE S r.body.length r.body (e0 r.vars.toNat)) [] = findE S r.body.length r.body (e0 r.vars.toNat) := fun h => by
    unfold manyW at h
    have := of_decide_eq_true h
    unfold putW
    rw [List.nil_append, List.take_of_length_le (by omega)]
  generalize findE S r.body.length r.body (e0 r.vars.toNat) = fw at *
  generalize putW fw [] = pw at *
  repeat' (first | (apply ds_evC; exact rfl; (with_reducible exact trivial); (with_reducible exact rfl); exact rfl; exact rfl; exact rfl) | apply ds_nil | (apply dt_ev; exact rfl; exact rfl; (with_reducible exact trivial); (with_reducible exact rfl); exact rfl; exact rfl; exact rfl; exact rfl) | apply dw_seq2 | (apply ds_region; exact rfl) | (apply dw_any; kernel_rfl; kernel_rfl; exact rfl; exact rfl) | apply thenD_n | (apply ds_newC; exact rfl; (with_reducible exact trivial); exact rfl; exact rfl; exact rfl))
  all_goals try (exfalso; omega)
  refine dt_new rfl rfl rfl ⟨rfl, hv.1, ?_, ?_⟩ rfl rfl rfl rfl rfl ?_
  · show 8 * r.vars.toNat ≤ _; omega
  · unfold maxLen; omega
  repeat' (apply dt_ev; exact rfl; exact rfl; (with_reducible exact trivial); (with_reducible exact rfl); exact rfl; exact rfl; exact rfl; exact rfl)
  refine dt_new rfl rfl rfl ⟨rfl, hv.1, ?_, ?_⟩ rfl rfl rfl rfl rfl ?_
  · show 1 * r.vars.toNat ≤ _; omega
  · unfold maxLen; omega
  repeat' ((fail_if_success (apply dw_stopS 2)); (first | (apply dt_ev; exact rfl; exact rfl; (with_reducible exact trivial); (with_reducible exact rfl); exact rfl; exact rfl; exact rfl; exact rfl) | (apply dt_new; exact rfl; exact rfl; exact rfl; (with_reducible exact trivial); exact rfl; exact rfl; exact rfl; exact rfl; exact rfl) | (apply dt_nil; exact rfl) | apply dw_seq2 | apply thenD_n))
  refine dw_ent (ent_cellrow 10 9 22 1 rfl rfl rfl) ?_
  refine dw_ent (ent_ren (k' := 5) (L' := [(2, .loc 4 0), (6, .loc 0 0)]) (H' := (4, .blk 87 [.d (.int .i64 r.pred), .d (.slice 2 (r.terms.map encTrm)), .d (.int .i64 r.fold), .d (.slice 4 (r.body.map encLtl)), .d (.int .i64 r.vars)]) :: pfH r S (e0 r.vars.toNat) []) (fun j => match j with | 0 => 10 | 1 => 5 | 2 => 8 | 3 => 12 | 4 => 0 | j => j)
    ⟨rfl, rfl, trivial⟩ ⟨rfl, rfl, by rw [outE_e0, List.map_replicate]; rfl, by rw [hasE_e0, List.map_replicate]; rfl, rfl, trivial⟩ rfl rfl rfl rfl rfl rfl) ?_
  repeat' (first | (apply ds_evC; exact rfl; (with_reducible exact trivial); (with_reducible exact rfl); exact rfl; exact rfl; exact rfl) | apply dw_seq2 | (apply ds_region; exact rfl))
  (refine ds_callF id (w) rfl rfl rfl rfl ⟨rfl, rfl, rfl, rfl, trivial⟩ rfl rfl rfl rfl rfl rfl ?_ ?_)
  · rintro k2 res H2 ⟨rfl, rfl, rfl⟩; exact ⟨rfl, rfl⟩
  rintro k2 res H2 ⟨rfl, rfl, rfl⟩
  change DS _ _ _ _ _ _ _ _
  clear w
  unfold rawW
  cases hm : manyW S r with
  | false =>
    rw [if_neg (by simp)]
    repeat' (first | (apply ds_evC; exact rfl; (with_reducible exact trivial); (with_reducible exact rfl); exact rfl; exact rfl; exact rfl) | apply ds_nil | apply dw_seq2 | (apply ds_region; exact rfl) | (apply dw_condT; exact rfl) | apply thenD_n)
    all_goals try (exfalso; omega)
    refine dw_ent (ent_nild 4 1 rfl) ?_
    repeat' (first | apply dw_ret | apply thenD_r)
    exact ⟨.inl rfl, _, rfl, rfl, rfl⟩
  | true =>
    have hp := hput hm
    have hl2 : fw.length ≤ 2000 := by rw [← hlen]; unfold manyW at hm; exact of_decide_eq_true hm
    rw [if_pos rfl]
    subst hp
    repeat' (first | (apply ds_evC; exact rfl; (with_reducible exact trivial); (with_reducible exact rfl); exact rfl; exact rfl; exact rfl) | apply ds_nil | apply dw_seq2 | (apply ds_region; exact rfl) | apply dw_skip | (apply dw_condF; exact rfl) | apply thenD_n)
    all_goals try (exfalso; omega)
    refine ds_sort sortWays_c pw (by kernel_rfl) rfl rfl rfl rfl rfl rfl (by omega) ?_
    intro l' h6 h7
    have hsort : SortW l' := h7.imp fun {a b} h => by rw [ordL_anti]; omega
    have hl' : l' = waysL S r.vars.toNat r.body := waysL_eq hsort (h6.trans hperm)
    have hnd' : l'.Nodup := h6.nodup_iff.2 hnodup
    have w2 := compactW_fn l' hnd' (by rw [h6.length_eq]; omega)
    rw [← hl']
    repeat' (first | (apply ds_evC; exact rfl; (with_reducible exact trivial); (with_reducible exact rfl); exact rfl; exact rfl; exact rfl) | apply ds_nil | apply dw_seq2 | (apply ds_region; exact rfl) | apply thenD_n)
    all_goals try (exfalso; omega)
    refine ds_callF (fun _ => 8) w2 rfl rfl rfl rfl ⟨rfl, trivial⟩ rfl rfl rfl rfl rfl rfl ?_ ?_
    · rintro k2 res H2 ⟨rfl, rfl⟩; exact ⟨rfl, rfl⟩
    rintro k2 res H2 ⟨rfl, rfl⟩
    change DS _ _ _ _ _ _ _ _
    repeat' (first | (apply ds_evC; exact rfl; (with_reducible exact trivial); (with_reducible exact rfl); exact rfl; exact rfl; exact rfl) | apply ds_nil | apply dw_ret | apply thenD_n)
    exact ⟨.inl rfl, _, rfl, rfl, rfl⟩
end Go.Proofs.YtapciiffpnociabGreat

/- The document's lessInts, WaysOf. Condition: none. -/
namespace Go.Proofs.YtapciiffpnociabGreat
open Go Go.RowKit
theorem ordL_nil : ordL [] [] = 0 := rfl
theorem ordL_drop {a b : List Int} (hl : a.length = b.length) {i : Nat} (hi : i < a.length) : ordL (a.drop i) (b.drop i) = if cmpI a[i] (b[i]'(by omega)) = 0 then ordL (a.drop (i + 1)) (b.drop (i + 1)) else cmpI a[i] (b[i]'(by omega)) := by
  rw [List.drop_eq_getElem_cons hi, List.drop_eq_getElem_cons (show i < b.length by omega), ordL]
theorem cmpI_eq0 {a b : Int} : cmpI a b = 0 ↔ a = b := by unfold cmpI; repeat' split <;> omega
attribute [local irreducible] DW DS DL DQ Ev FnOk FnP thenD inBlockD DT
set_option maxHeartbeats 8000000 in
theorem lessInts_fn (a b : List Int) (hl : a.length = b.length) : Fn 101 [.d (.slice 1 (a.map encI)), .d (.slice 1 (b.map encI))] (fun r => r = .d (.bool (decide (ordL a b < 0)))) := by
  refine fnp_enter' _ Tryz.func101 rfl rfl (by kernel_rfl) ?_
  intro O w0 E0 β0
  have la : (a.map encI).length = a.length := List.length_map _
  have lb : (b.map encI).length = b.length := List.length_map _
  refine dw_len (t := 0) rfl (fun hk => ?_)
  repeat' (first | (apply ds_evC; exact rfl; (with_reducible exact trivial); (with_reducible exact rfl); exact rfl; exact rfl; exact rfl) | apply ds_nil | apply dw_seq2 | (apply ds_region; exact rfl) | apply dw_block | apply thenD_n)
  refine ds_loop (ι := Nat) (fun i => ⟨0, [(0, .d (.slice 1 (a.map encI))), (1, .d (.slice 1 (b.map encI))), (5, .d (.int .i64 i))], []⟩)
    (fun i => i ≤ a.length ∧ ordL a b = ordL (a.drop i) (b.drop i)) (fun i => a.length - i) 0 ⟨Nat.zero_le _, rfl⟩ (ent_ren id ⟨rfl, rfl, rfl, trivial⟩ trivial rfl rfl rfl rfl rfl rfl) ?_
  rintro i ⟨g1, g2⟩
  dsimp only at g1 g2 ⊢
  by_cases hi : i < a.length
  · rw [ordL_drop hl hi] at g2
    by_cases he : a[i] = b[i]'(by omega)
    · rw [if_pos (cmpI_eq0.2 he)] at g2
      repeat' (first | (apply ds_evC; exact rfl; (first | (with_reducible exact trivial) | omega); (with_reducible exact rfl); exact rfl; exact rfl; exact rfl) | apply ds_nil | (apply dt_ev; exact rfl; exact rfl; (first | (with_reducible exact trivial) | omega); (first | ((with_reducible apply hv_row); (exact rfl); (omega)) | (with_reducible exact rfl)); exact rfl; exact rfl; exact rfl; exact rfl) | (apply dt_nil0; exact rfl; exact rfl; exact rfl; exact rfl) | apply dw_seq2 | (apply ds_region; exact rfl) | (apply dw_any; kernel_rfl; kernel_rfl; exact rfl; exact rfl) | apply dw_block | apply dw_skip | apply dw_exit | apply dw_ret | apply thenD_n | apply thenD_e | apply thenD_r | apply inB_n | apply inB_r | (apply inB_e; exact rfl) | (apply dw_condP; exact rfl; all_goals intro hg))
      all_goals try (exfalso; omega)
      all_goals try (exfalso; exact hg he)
      exact ⟨i + 1, ⟨hi, g2⟩, ent_ren id ⟨rfl, rfl, rfl, trivial⟩ trivial rfl rfl rfl rfl rfl rfl, by omega⟩
    · rw [if_neg (fun h => he (cmpI_eq0.1 h))] at g2
      rw [g2]
      repeat' (first | (apply ds_evC; exact rfl; (first | (with_reducible exact trivial) | omega); (with_reducible exact rfl); exact rfl; exact rfl; exact rfl) | apply ds_nil | (apply dt_ev; exact rfl; exact rfl; (first | (with_reducible exact trivial) | omega); (first | ((with_reducible apply hv_row); (exact rfl); (omega)) | (with_reducible exact rfl)); exact rfl; exact rfl; exact rfl; exact rfl) | (apply dt_nil0; exact rfl; exact rfl; exact rfl; exact rfl) | apply dw_seq2 | (apply ds_region; exact rfl) | (apply dw_any; kernel_rfl; kernel_rfl; exact rfl; exact rfl) | apply dw_block | apply dw_skip | apply dw_exit | apply dw_ret | apply thenD_n | apply thenD_e | apply thenD_r | apply inB_n | apply inB_r | (apply inB_e; exact rfl) | (apply dw_condP; exact rfl; all_goals intro hg))
      all_goals try (exfalso; omega)
      all_goals try (exfalso; exact hg he)
      exact ret_b rfl (by simp only [cmpI_lt])
  · rw [List.drop_of_length_le (by omega), List.drop_of_length_le (by omega)] at g2
    rw [g2, ordL_nil]
    repeat' (first | (apply ds_evC; exact rfl; (first | (with_reducible exact trivial) | omega); (with_reducible exact rfl); exact rfl; exact rfl; exact rfl) | apply ds_nil | (apply dt_ev; exact rfl; exact rfl; (first | (with_reducible exact trivial) | omega); (first | ((with_reducible apply hv_row); (exact rfl); (omega)) | (with_reducible exact rfl)); exact rfl; exact rfl; exact rfl; exact rfl) | (apply dt_nil0; exact rfl; exact rfl; exact rfl; exact rfl) | apply dw_seq2 | (apply ds_region; exact rfl) | (apply dw_any; kernel_rfl; kernel_rfl; exact rfl; exact rfl) | apply dw_block | apply dw_skip | apply dw_exit | apply dw_ret | apply thenD_n | apply thenD_e | apply thenD_r | apply inB_n | apply inB_r | (apply inB_e; exact rfl) | (apply dw_condP; exact rfl; all_goals intro hg))
    all_goals try (exfalso; omega)
    exact ⟨.inl rfl, _, rfl, rfl, rfl⟩
theorem sortedTo_le {o : List (List Int)} {i j : Nat} (h : sortedTo o i) (hj : j ≤ i) : sortedTo o j := fun p q a b h1 h2 => h p q a b h1 (by omega)
theorem swap_set {o : List (List Int)} {k : Nat} {a b : List Int} : ((o.map encW).set k (encW a)).set (k - 1) (encW b) = (swapW o k a b).map encW := by unfold swapW; rw [List.map_set, List.map_set]
set_option maxHeartbeats 8000000 in
theorem waysOf_fn (l : List Fct) (r : Rul) (hl : l.length ≤ 60) (hr : RulS (setF' l) r) : Fn 39 [elRul r, .d (.slice 2 (l.map encFct))] (fun res => res = .tup [.d (.slice 1 ((rawW (setF' l) r).map encW)), .d (.bool (manyW (setF' l) r))]) := by
  refine fnp_enter' _ Tryz.func39 rfl rfl (by kernel_rfl) ?_
  intro O w0 E0 β0
  have hv := hr.vars
  have hS := (setF_spec l).1
  have w1 := setOf_fn l (by omega)
  have hSl : (setF' l).length ≤ 60 := Nat.le_trans (setF_len l []) hl
  generalize setF' l = S at *
  have hnd : S.Nodup := hS.imp fun h he => by subst he; exact lt_irrefl h
  obtain ⟨_, p2, p3⟩ := ways_perm hnd hr.ok.lit hr.bd
  have w := from_fn r S (by omega) (r.body.length - 0) 0 rfl (Nat.zero_le _) (e0 r.vars.toNat) [] false (by rw [show (e0 r.vars.toNat).length = r.vars.toNat from List.length_replicate]; exact hr.ok) (fun v x hx => by
    unfold e0 at hx; rw [List.getElem?_replicate] at hx; split at hx <;> simp at hx) (by simp)
  rw [show yesL r.body 0 = yesOf r.body from rfl] at w
  have hlen : (waysL S r.vars.toNat r.body).length = (fromE S r.body (yesOf r.body) (e0 r.vars.toNat)).length := (waysL_perm S r.vars.toNat r.body).length_eq
  have hlens : ∀ x ∈ fromE S r.body (yesOf r.body) (e0 r.vars.toNat), x.length = r.vars.toNat := fun x hx => ((p3 x).1 hx).1
  have huniq : ∀ o : List (List Int), SortW o → o.Perm (fromE S r.body (yesOf r.body) (e0 r.vars.toNat)) → o = waysL S r.vars.toNat r.body := fun o h1 h2 => waysL_eq h1 h2
  clear p3
  generalize fromE S r.body (yesOf r.body) (e0 r.vars.toNat) = fw at *
  have hadd : addW fw ([], false) = (fw.take 2000, !manyW S r) := by
    unfold addW manyW
    rw [hlen]
    simp only [Bool.false_eq_true, if_false, List.length_nil, List.nil_append, Nat.sub_zero, Nat.zero_add]
    rw [← decide_not]
    exact congrArg _ (decide_eq_decide.2 (by omega))
  rw [hadd] at w
  repeat' ((fail_if_success (apply dw_stopT 2)); (first | (apply ds_evC; exact rfl; (with_reducible exact trivial); (with_reducible exact rfl); exact rfl; exact rfl; exact rfl) | apply ds_nil | (apply dt_ev; exact rfl; exact rfl; (with_reducible exact trivial); (with_reducible exact rfl); exact rfl; exact rfl; exact rfl; exact rfl) | (apply dt_set; exact rfl; exact rfl; (with_reducible exact trivial); exact rfl; exact rfl; exact rfl; exact rfl) | (apply dt_new; exact rfl; exact rfl; exact rfl; (with_reducible exact trivial); exact rfl; exact rfl; exact rfl; exact rfl; exact rfl) | (apply dt_nil; exact rfl) | apply dw_seq2 | (apply ds_region; exact rfl) | (apply dw_any; kernel_rfl; kernel_rfl; exact rfl; exact rfl) | apply thenD_n | (apply dt_call; exact rfl; exact rfl; apply w1; exact rfl; (exact rfl); exact rfl; exact rfl; exact ⟨_, rfl⟩; rintro _ rfl) | (apply ds_newC; exact rfl; (with_reducible exact trivial); exact rfl; exact rfl; exact rfl)))
  all_goals try (exfalso; omega)
  refine dw_ent (ent_cellrow 5 6 22 1 rfl rfl rfl) ?_
  refine dw_ent (ent_ren (k' := 3) (L' := [(2, .loc 2 0), (6, .loc 0 0)]) (H' := (2, .blk 87 [.d (.int .i64 r.pred), .d (.slice 2 (r.terms.map encTrm)), .d (.int .i64 r.fold), .d (.slice 4 (r.body.map encLtl)), .d (.int .i64 r.vars)]) :: fndH r S [] false) (fun j => match j with | 0 => 5 | 1 => 7 | 2 => 0 | j => j)
    ⟨rfl, rfl, trivial⟩ ⟨rfl, rfl, rfl, trivial⟩ rfl rfl rfl rfl rfl rfl) ?_
  refine dw_tail 6 (by kernel_rfl) (by kernel_rfl) (by kernel_rfl) rfl rfl rfl ?_
  repeat' (apply dt_ev; exact rfl; exact rfl; (with_reducible exact trivial); (with_reducible exact rfl); exact rfl; exact rfl; exact rfl; exact rfl)
  refine dt_new rfl rfl rfl ⟨rfl, hv.1, ?_, ?_⟩ rfl rfl rfl rfl rfl ?_
  · show 8 * r.vars.toNat ≤ _; omega
  · unfold maxLen; omega
  repeat' (apply dt_ev; exact rfl; exact rfl; (with_reducible exact trivial); (with_reducible exact rfl); exact rfl; exact rfl; exact rfl; exact rfl)
  refine dt_new rfl rfl rfl ⟨rfl, hv.1, ?_, ?_⟩ rfl rfl rfl rfl rfl ?_
  · show 1 * r.vars.toNat ≤ _; omega
  · unfold maxLen; omega
  repeat' (apply dt_nil; exact rfl)
  refine ds_ent (ent_seal 15 rfl rfl rfl) ?_
  refine ds_ent (ent_seal 18 rfl rfl rfl) ?_
  have en : List.replicate r.vars.toNat [D.int .i64 0] = (outE (e0 r.vars.toNat)).map encI := by rw [outE_e0, List.map_replicate]; rfl
  have es : List.replicate r.vars.toNat [D.bool false] = (hasE (e0 r.vars.toNat)).map encBl := by rw [hasE_e0, List.map_replicate]; rfl
  rw [← en, ← es] at w
  (refine ds_callF id (w) rfl rfl rfl rfl ⟨rfl, rfl, trivial⟩ rfl rfl rfl rfl rfl rfl ?_ ?_)
  · rintro k2 res H2 ⟨rfl, rfl, rfl⟩; exact ⟨rfl, rfl⟩
  rintro k2 res H2 ⟨rfl, rfl, rfl⟩
  change DS _ _ _ _ _ _ _ _
  clear w en es
  unfold rawW
  cases hm : manyW S r with
  | false =>
    rw [if_neg (by simp)]
    repeat' (first | (apply ds_evC; exact rfl; (with_reducible exact trivial); (with_reducible exact rfl); exact rfl; exact rfl; exact rfl) | apply ds_nil | apply dw_seq2 | (apply ds_region; exact rfl) | (apply dw_condT; exact rfl) | apply thenD_n)
    all_goals try (exfalso; omega)
    refine dw_ent (ent_nild 4 1 rfl) ?_
    repeat' (first | apply dw_ret | apply thenD_r)
    exact ⟨.inl rfl, _, rfl, rfl, rfl⟩
  | true =>
    have hl2 : fw.length ≤ 2000 := by rw [← hlen]; unfold manyW at hm; exact of_decide_eq_true hm
    rw [if_pos rfl, List.take_of_length_le hl2]
    repeat' (first | (apply ds_evC; exact rfl; (with_reducible exact trivial); (with_reducible exact rfl); exact rfl; exact rfl; exact rfl) | apply ds_nil | apply dw_seq2 | (apply ds_region; exact rfl) | apply dw_block | apply dw_skip | (apply dw_condF; exact rfl) | apply thenD_n)
    all_goals try (exfalso; omega)
    refine ds_loop (ι := Nat × List (List Int)) (fun x => ⟨2, [(6, .loc 0 0), (7, .d (.int .i64 x.1))], fndH r S x.2 false⟩)
      (fun x => 1 ≤ x.1 ∧ x.1 ≤ fw.length + 1 ∧ x.2.Perm fw ∧ sortedTo x.2 x.1) (fun x => fw.length + 1 - x.1) (1, fw) ⟨Nat.le_refl _, by dsimp only; omega, .refl _, fun p q _ _ _ _ => by dsimp only at *; omega⟩ (ent_ren (fun j => match j with | 1 => 10 | j => j) ⟨rfl, rfl, trivial⟩ ⟨rfl, rfl, trivial⟩ rfl rfl rfl rfl rfl rfl) ?_
    rintro ⟨i, o⟩ ⟨g1, g2, g3, g4⟩
    dsimp only at g1 g2 g3 g4 ⊢
    have lo : (o.map encW).length = o.length := List.length_map _
    have lof := g3.length_eq
    by_cases hi : i < o.length
    · repeat' (first | (apply ds_evC; exact rfl; (with_reducible exact trivial); (with_reducible exact rfl); exact rfl; exact rfl; exact rfl) | apply ds_nil | apply dw_seq2 | (apply ds_region; exact rfl) | apply dw_block | apply dw_skip | apply dw_exit | apply dw_ret | apply thenD_n | apply thenD_e | (apply inB_e; exact rfl) | (apply dw_condP; exact rfl; all_goals intro hg))
      all_goals try (exfalso; omega)
      refine ds_loop (ι := Nat × List (List Int)) (fun x => ⟨2, [(6, .loc 0 0), (7, .d (.int .i64 i)), (8, .d (.int .i64 x.1))], fndH r S x.2 false⟩)
        (fun x => x.1 ≤ i ∧ x.2.Perm fw ∧ insOk x.2 x.1 i) (fun x => x.1) (i, o) ⟨Nat.le_refl _, g3, sortedTo_ins g4⟩ (ent_ren id ⟨rfl, rfl, rfl, trivial⟩ ⟨rfl, rfl, trivial⟩ rfl rfl rfl rfl rfl rfl) ?_
      clear g3 g4 lo
      rintro ⟨k, o⟩ ⟨f1, f2, f3⟩
      dsimp only at f1 f2 f3 ⊢
      have lo : (o.map encW).length = o.length := List.length_map _
      have lof2 := f2.length_eq
      cases k with
      | zero =>
        repeat' (first | (apply ds_evC; exact rfl; (first | (with_reducible exact trivial) | omega); (with_reducible exact rfl); exact rfl; exact rfl; exact rfl) | apply ds_nil | (apply dt_ev; exact rfl; exact rfl; (with_reducible exact trivial); (with_reducible exact rfl); exact rfl; exact rfl; exact rfl; exact rfl) | (apply dt_skipD; exact rfl; exact rfl; exact rfl) | (apply dt_nil0; exact rfl; exact rfl; exact rfl; exact rfl) | apply dw_seq2 | (apply ds_region; exact rfl) | (apply dw_any; kernel_rfl; kernel_rfl; exact rfl; exact rfl) | apply dw_exit | (apply dw_condF; exact rfl) | apply thenD_n | apply thenD_e | apply inB_n | (apply inB_e; exact rfl))
        all_goals try (exfalso; omega)
        exact ⟨(i + 1, o), ⟨by dsimp only; omega, by dsimp only; omega, f2, fun p q a b h1 h2 => insOk_done f3 (.inl rfl) p q a b h1 (by dsimp only at h2; omega)⟩, ent_ren id ⟨rfl, rfl, trivial⟩ ⟨rfl, rfl, trivial⟩ rfl rfl rfl rfl rfl rfl, by show fw.length + 1 - (i + 1) < fw.length + 1 - i; omega⟩
      | succ j =>
        have hj1 : j + 1 < o.length := by omega
        have hj0 : j < o.length := by omega
        have e1 : o[j + 1]? = some o[j + 1] := List.getElem?_eq_getElem hj1
        have e0 : o[j]? = some o[j] := List.getElem?_eq_getElem hj0
        have w3 := lessInts_fn o[j + 1] o[j] ((hlens _ (f2.mem_iff.1 (List.getElem_mem hj1))).trans (hlens _ (f2.mem_iff.1 (List.getElem_mem hj0))).symm)
        have hpm : j + 1 < (o.map encW).length ∧ ∀ y ∈ o.map encW, y.length = 1 := rowOk hj1 fun _ => rfl
        have hpk : j < ((o.map encW).set (j + 1) [D.slice 1 (o[j].map encI)]).length ∧ ∀ y ∈ (o.map encW).set (j + 1) [D.slice 1 (o[j].map encI)], y.length = 1 := ⟨by rw [List.length_set]; omega, fun y hy => by
          rcases List.mem_or_eq_of_mem_set hy with h | h
          · exact hpm.2 y h
          · rw [h]; rfl⟩
        cases hb : decide (ordL o[j + 1] o[j] < 0) with
        | false =>
          rw [hb] at w3
          repeat' (first | (apply ds_evC; exact rfl; (first | (with_reducible exact trivial) | omega); (with_reducible exact rfl); exact rfl; exact rfl; exact rfl) | apply ds_nil | (apply dt_ev; exact rfl; exact rfl; (first | (with_reducible exact trivial) | omega); (first | ((with_reducible apply hv_prow); (first | exact nat_sub_1 _ | exact nat_add_1 _)) | ((with_reducible apply hv_ldrow); (apply hv_get; (omega)); exact rfl) | (with_reducible exact rfl)); exact rfl; exact rfl; exact rfl; exact rfl) | (apply dt_skipD; exact rfl; exact rfl; exact rfl) | (apply dt_nil0; exact rfl; exact rfl; exact rfl; exact rfl) | apply dw_seq2 | (apply ds_region; exact rfl) | (apply dw_any; kernel_rfl; kernel_rfl; exact rfl; exact rfl) | apply dw_exit | (apply dw_condF; exact rfl) | apply thenD_n | apply thenD_e | apply inB_n | (apply inB_e; exact rfl) | (apply dt_call; exact rfl; exact rfl; apply w3; exact rfl; (exact rfl); exact rfl; exact rfl; exact ⟨_, rfl⟩; rintro _ rfl) | ((fail_if_success (apply dt_known; exact rfl)); apply dt_guardP; exact rfl; exact rfl; exact rfl; all_goals intro hg))
          all_goals try (exfalso; omega)
          exact ⟨(i + 1, o), ⟨by dsimp only; omega, by dsimp only; omega, f2, fun p q a b h1 h2 => insOk_done f3 (.inr ⟨_, _, Nat.succ_pos j, e0, e1, of_decide_eq_false hb⟩) p q a b h1 (by dsimp only at h2; omega)⟩, ent_ren id ⟨rfl, rfl, trivial⟩ ⟨rfl, rfl, trivial⟩ rfl rfl rfl rfl rfl rfl, by show fw.length + 1 - (i + 1) < fw.length + 1 - i; omega⟩
        | true =>
          rw [hb] at w3
          repeat' (first | (apply ds_evC; exact rfl; (first | (with_reducible exact trivial) | omega); (with_reducible exact rfl); exact rfl; exact rfl; exact rfl) | apply ds_nil | (apply dt_ev; exact rfl; exact rfl; (first | (with_reducible exact trivial) | omega); (first | ((with_reducible apply hv_prow); (first | exact nat_sub_1 _ | exact nat_add_1 _)) | ((with_reducible apply hv_ldrow); (apply hv_get; (omega)); exact rfl) | (with_reducible exact rfl)); exact rfl; exact rfl; exact rfl; exact rfl) | (apply dt_skipD; exact rfl; exact rfl; exact rfl) | (apply dt_set; exact rfl; exact rfl; (omega); exact rfl; exact rfl; exact rfl; exact rfl) | (apply dt_nil0; exact rfl; exact rfl; exact rfl; exact rfl) | apply dw_seq2 | (apply ds_region; exact rfl) | (apply dw_any; kernel_rfl; kernel_rfl; exact rfl; exact rfl) | apply dw_block | apply dw_skip | apply dw_exit | (apply dw_condT; exact rfl) | (apply dw_condF; exact rfl) | apply thenD_n | apply thenD_e | apply inB_n | (apply inB_e; exact rfl) | (apply dt_call; exact rfl; exact rfl; apply w3; exact rfl; (exact rfl); exact rfl; exact rfl; exact ⟨_, rfl⟩; rintro _ rfl) | ((fail_if_success (apply dt_known; exact rfl)); apply dt_guardP; exact rfl; exact rfl; exact rfl; all_goals intro hg))
          all_goals try (exfalso; omega)
          have hsw := swap_set (o := o) (k := j + 1) (a := o[j]) (b := o[j + 1])
          exact ⟨(j, swapW o (j + 1) o[j] o[j + 1]), ⟨by dsimp only; omega, (swapW_perm (Nat.succ_pos j) e0 e1).trans f2, insOk_swap (Nat.succ_pos j) hj1 f1 e0 e1 (of_decide_eq_true hb) f3⟩, ent_ren id ⟨rfl, rfl, congrArg (fun z => SV.d (D.int .i64 z)) (nat_sub_1 j), trivial⟩ ⟨rfl, by rw [← hsw]; rfl, trivial⟩ rfl rfl rfl rfl rfl rfl, Nat.lt_succ_self j⟩
    · have hall := huniq o (sortedTo_all (sortedTo_le g4 (by omega))) g3
      rw [← hall]
      repeat' (first | (apply ds_evC; exact rfl; (with_reducible exact trivial); (with_reducible exact rfl); exact rfl; exact rfl; exact rfl) | apply ds_nil | apply dw_seq2 | (apply ds_region; exact rfl) | apply dw_block | apply dw_skip | apply dw_exit | apply thenD_n | apply thenD_e | (apply inB_e; exact rfl) | (apply dw_condP; exact rfl; all_goals intro hg))
      all_goals try (exfalso; omega)
      refine dw_ent (ent_seal 4 rfl rfl rfl) ?_
      repeat' (apply dw_ret)
      exact ⟨.inl rfl, _, rfl, rfl, rfl⟩
end Go.Proofs.YtapciiffpnociabGreat
