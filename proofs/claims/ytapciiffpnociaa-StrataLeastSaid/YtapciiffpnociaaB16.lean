/- Several texts in one: StrI StrG StrH. Condition: none. -/
import Derived.Test.YtapciiffpnociaaB15

/- Plain words: what is needed is the same, both ways; focus twice is focus once. Condition: none. -/
namespace Go.Proofs.Ytapciiffpnociaa

theorem setB_getD (out : List Bool) (i j : Nat) : (out.set i true).getD j false = if i = j ∧ i < out.length then true else out.getD j false := by
  simp only [List.getD, List.getElem?_set]
  by_cases h : i = j
  · subst h
    by_cases hl : i < out.length
    · simp [hl]
    · simp [hl]
  · simp [h]
theorem setB_up (out : List Bool) (i : Nat) : leB out (out.set i true) := by
  refine ⟨by simp, fun j h => ?_⟩
  rw [setB_getD]
  split
  · rfl
  · exact h
/-- What is closed under the rules. -/
def Clo (l : List Rul) (C : List Bool) : Prop := ∀ r ∈ l, C.getD r.pred.toNat false = true → ∀ x ∈ r.body, hangsB x = true → C.getD x.pred.toNat false = true

/-! The document's. -/
theorem dLits_up (b : List Ltl) (out : List Bool) : leB out (b.foldl dLit out) := ⟨(dLits_len b out).symm, fun _ h => dLits_keep b out h⟩
theorem dRule_up (out : List Bool) (r : Rul) : leB out (dRule out r) := by
  unfold dRule
  split
  · exact dLits_up _ _
  · exact leB.refl _
theorem dRound_up : ∀ (l : List Rul) (out : List Bool), leB out (dRound l out)
  | [], _ => leB.refl _
  | r :: l, out => (dRule_up out r).trans (dRound_up l (dRule out r))
theorem dRound_rest : ∀ {l : List Rul} {out : List Bool}, dRound l out = out → ∀ r ∈ l, dRule out r = out
  | r :: l, out, h, r', hr => by
    have h1 : dRound l (dRule out r) = out := h
    have h2 : dRule out r = out := (by have := dRound_up l (dRule out r); rw [h1] at this; exact this : leB (dRule out r) out).anti (dRule_up out r)
    rw [h2] at h1
    rcases List.mem_cons.1 hr with rfl | hr
    · exact h2
    · exact dRound_rest h1 r' hr
theorem dLits_has : ∀ (b : List Ltl) (out : List Bool) (x : Ltl), x ∈ b → x.kind ≤ 2 → x.pred.toNat < out.length → (b.foldl dLit out).getD x.pred.toNat false = true
  | y :: b, out, x, hx, hk, hl => by
    rw [List.foldl_cons]
    rcases List.mem_cons.1 hx with rfl | hx
    · refine dLits_keep b _ ?_
      rw [show dLit out x = out.set x.pred.toNat true from if_pos hk, setB_getD, if_pos ⟨rfl, hl⟩]
    · exact dLits_has b _ x hx hk (by rw [dLit_len]; exact hl)
theorem rest_clo {p : Prg} (h : PrgOk p) {out : List Bool} (hl : out.length = p.arity.length) (hr : dRound p.rules out = out) : Clo p.rules out := by
  intro r hm hp x hx hh
  have h1 := dRound_rest hr r hm
  rw [dRule, if_pos hp] at h1
  have hq := ((h.each r hm).lits x hx).pred hh
  have hk : x.kind ≤ 2 := by
    refine Classical.byContradiction fun hn => ?_
    have := (hangs_kind ((h.each r hm).lits x hx).kind.1).1 (by omega)
    rw [hh] at this; cases this
  have := dLits_has r.body out x hx hk (by omega)
  rwa [h1] at this
theorem count_lt : ∀ {a b : List Bool}, leB a b → a ≠ b → a.count true < b.count true
  | [], [], _, h => absurd rfl h
  | x :: a, y :: b, h, hne => by
    have ht : leB a b := ⟨by have := h.1; simpa using this, fun i hi => by have := h.2 (i + 1); simpa using this (by simpa using hi)⟩
    have h0 : x = true → y = true := fun hx => by have := h.2 0; simpa using this (by simpa using hx)
    have hle : a.count true ≤ b.count true := by
      by_cases e : a = b
      · rw [e]; exact Nat.le_refl _
      · exact Nat.le_of_lt (count_lt ht e)
    by_cases e : a = b
    · subst e
      have hxy : x ≠ y := fun e => hne (by rw [e])
      cases x <;> cases y <;> simp_all
    · have := count_lt ht e
      rw [List.count_cons, List.count_cons]
      cases x <;> cases y <;> simp_all <;> omega
  | [], _ :: _, h, _ => by have := h.1; simp at this
  | _ :: _, [], h, _ => by have := h.1; simp at this
theorem dIter_succ (l : List Rul) (k : Nat) (out : List Bool) : dIter l (k + 1) out = dRound l (dIter l k out) := rfl
theorem dIter_count (l : List Rul) (out : List Bool) (h1 : 0 < out.count true) : ∀ k, dRound l (dIter l k out) = dIter l k out ∨ k < (dIter l k out).count true
  | 0 => .inr h1
  | k + 1 => by
    rcases dIter_count l out h1 k with h | h
    · left; rw [dIter_succ, h, h]
    · by_cases e : dIter l k out = dRound l (dIter l k out)
      · left; rw [dIter_succ, ← e, ← e]
      · right
        have := count_lt (dRound_up l (dIter l k out)) e
        rw [dIter_succ]
        omega
theorem dIter_up (l : List Rul) (out : List Bool) : ∀ k, leB out (dIter l k out)
  | 0 => leB.refl _
  | k + 1 => (dIter_up l out k).trans (dRound_up l _)
abbrev one (n : Nat) (pred : Int) : List Bool := (List.replicate n false).set pred.toNat true
theorem one_has {n : Nat} {pred : Int} (h : 0 ≤ pred ∧ pred < n) : (one n pred).getD pred.toNat false = true := by
  rw [setB_getD, if_pos ⟨rfl, by simp; omega⟩]
theorem one_only {n : Nat} {pred : Int} {i : Nat} (h : (one n pred).getD i false = true) : i = pred.toNat := by
  rw [setB_getD] at h
  split at h
  · rename_i h1; exact h1.1.symm
  · simp only [List.getD, List.getElem?_replicate] at h
    split at h <;> cases h
theorem count_pos {a : List Bool} {i : Nat} (h : a.getD i false = true) : 0 < a.count true := by
  rw [List.count_pos_iff]
  by_cases hi : i < a.length
  · rw [List.getD, List.getElem?_eq_getElem hi] at h
    have : a[i] = true := h
    rw [← this]
    exact List.getElem_mem hi
  · rw [List.getD, List.getElem?_eq_none (by omega)] at h; cases h
theorem doc_clo {p : Prg} {pred : Int} (h : PrgOk p) (hp : 0 ≤ pred ∧ pred < p.arity.length) : Clo p.rules (docNeeds p pred) ∧ (docNeeds p pred).getD pred.toNat false = true := by
  refine ⟨rest_clo h (docNeeds_len p pred) ?_, (dIter_up p.rules _ _).2 _ (one_has hp)⟩
  rcases dIter_count p.rules (one p.arity.length pred) (count_pos (one_has hp)) p.arity.length with h1 | h1
  · exact h1
  · have h2 := List.count_le_length (a := true) (l := dIter p.rules p.arity.length (one p.arity.length pred))
    have h3 : (dIter p.rules p.arity.length (one p.arity.length pred)).length = p.arity.length := docNeeds_len p pred
    omega
theorem dLits_below {C : List Bool} : ∀ (b : List Ltl) (out : List Bool), (∀ x ∈ b, x.kind ≤ 2 → C.getD x.pred.toNat false = true) → (∀ i, out.getD i false = true → C.getD i false = true) → ∀ i, (b.foldl dLit out).getD i false = true → C.getD i false = true
  | [], _, _, h => h
  | x :: b, out, hb, h => by
    refine dLits_below b (dLit out x) (fun y hy => hb y (List.mem_cons_of_mem _ hy)) ?_
    intro i hi
    unfold dLit at hi
    split at hi
    · rename_i hk
      rw [setB_getD] at hi
      split at hi
      · rename_i h1; rw [← h1.1]; exact hb x List.mem_cons_self hk
      · exact h i hi
    · exact h i hi
theorem kind_hangs {x : Ltl} (h1 : 1 ≤ x.kind) (h2 : x.kind ≤ 2) : hangsB x = true := by
  cases h : hangsB x with
  | true => rfl
  | false => have := (hangs_kind h1).2 h; omega
theorem dRound_below {n : Nat} {C : List Bool} : ∀ (l : List Rul) (out : List Bool), (∀ r ∈ l, RulOk n r) → Clo l C → (∀ i, out.getD i false = true → C.getD i false = true) → ∀ i, (dRound l out).getD i false = true → C.getD i false = true
  | [], _, _, _, h => h
  | r :: l, out, hk, hc, h => by
    refine dRound_below l (dRule out r) (fun y hy => hk y (List.mem_cons_of_mem _ hy)) (fun y hy => hc y (List.mem_cons_of_mem _ hy)) ?_
    unfold dRule
    split
    · rename_i hp
      exact dLits_below _ _ (fun x hx h2 => hc r List.mem_cons_self (h _ hp) x hx (kind_hangs ((hk r List.mem_cons_self).lits x hx).kind.1 h2)) h
    · exact h
theorem dIter_below {n : Nat} {C : List Bool} (l : List Rul) (out : List Bool) (hk : ∀ r ∈ l, RulOk n r) (hc : Clo l C) (h : ∀ i, out.getD i false = true → C.getD i false = true) : ∀ k i, (dIter l k out).getD i false = true → C.getD i false = true
  | 0 => h
  | k + 1 => dRound_below l _ hk hc (dIter_below l out hk hc h k)
theorem doc_least {p : Prg} {pred : Int} (h : PrgOk p) {C : List Bool} (hc : Clo p.rules C) (hp : C.getD pred.toNat false = true) (i : Nat) : (docNeeds p pred).getD i false = true → C.getD i false = true :=
  dIter_below p.rules _ h.each hc (fun j hj => by rw [one_only hj]; exact hp) _ i

/-! The program's. -/
structure Nst (a b : List Bool × List Int) : Prop where
  up : leB a.1 b.1
  keep : ∀ v ∈ a.2, v ∈ b.2
  new : ∀ i : Int, 0 ≤ i → b.1.getD i.toNat false = true → a.1.getD i.toNat false = true ∨ i ∈ b.2
theorem Nst.refl (a : List Bool × List Int) : Nst a a := ⟨leB.refl _, fun _ h => h, fun _ _ h => .inl h⟩
theorem Nst.trans {a b c : List Bool × List Int} (h : Nst a b) (g : Nst b c) : Nst a c :=
  ⟨h.up.trans g.up, fun v hv => g.keep v (h.keep v hv), fun i hi hc => (g.new i hi hc).elim (fun hb => (h.new i hi hb).imp id (g.keep i)) .inr⟩
theorem nLit_st (a : List Bool × List Int) {x : Ltl} (hx : 0 ≤ x.pred) : Nst a (nLit a x) := by
  unfold nLit
  split
  · exact Nst.refl _
  · refine ⟨setB_up _ _, fun v hv => List.mem_append.2 (.inl hv), fun i hi h => ?_⟩
    dsimp only at h ⊢
    rw [setB_getD] at h
    split at h
    · rename_i h1
      right
      have : i = x.pred := by omega
      rw [this]
      exact List.mem_append.2 (.inr (List.mem_singleton.2 rfl))
    · exact .inl h
theorem nLits_st : ∀ (b : List Ltl) (a : List Bool × List Int), (∀ x ∈ b, 0 ≤ x.pred) → Nst a (b.foldl nLit a)
  | [], _, _ => Nst.refl _
  | x :: b, a, h => (nLit_st a (h x List.mem_cons_self)).trans (nLits_st b _ fun y hy => h y (List.mem_cons_of_mem _ hy))
theorem nLits_has : ∀ (b : List Ltl) (a : List Bool × List Int), (∀ x ∈ b, 0 ≤ x.pred) → ∀ x ∈ b, x.pred.toNat < a.1.length → (b.foldl nLit a).1.getD x.pred.toNat false = true
  | y :: b, a, h, x, hx, hl => by
    rw [List.foldl_cons]
    have hb : ∀ z ∈ b, 0 ≤ z.pred := fun z hz => h z (List.mem_cons_of_mem _ hz)
    rcases List.mem_cons.1 hx with rfl | hx
    · refine (nLits_st b _ hb).up.2 _ ?_
      unfold nLit
      split
      · assumption
      · rw [setB_getD, if_pos ⟨rfl, hl⟩]
    · exact nLits_has b _ hb x hx (by rw [nLit_len]; exact hl)
theorem nRule_st {N : Nat} {l : List Rul} (hp : predsOk N l) {r : Rul} (hr : r ∈ l) (n : Int) (a : List Bool × List Int) : Nst a (nRule n a r) := by
  unfold nRule
  split
  · exact nLits_st _ _ fun x hx => ((hp r hr).2 x (List.mem_filter.1 hx).1 (List.mem_filter.1 hx).2).1
  · exact Nst.refl _
theorem nRules_st {N : Nat} {l : List Rul} (hp : predsOk N l) (n : Int) : ∀ (m : List Rul) (a : List Bool × List Int), (∀ r ∈ m, r ∈ l) → Nst a (m.foldl (nRule n) a)
  | [], _, _ => Nst.refl _
  | r :: m, a, h => (nRule_st hp (h r List.mem_cons_self) n a).trans (nRules_st hp n m _ fun y hy => h y (List.mem_cons_of_mem _ hy))
theorem nRules_has {N : Nat} {l : List Rul} (hp : predsOk N l) (n : Int) : ∀ (m : List Rul) (a : List Bool × List Int), (∀ r ∈ m, r ∈ l) → a.1.length = N → ∀ r ∈ m, r.pred = n → ∀ x ∈ r.body, hangsB x = true → (m.foldl (nRule n) a).1.getD x.pred.toNat false = true
  | r' :: m, a, h, hl, r, hr, hn, x, hx, hh => by
    rw [List.foldl_cons]
    have hm : ∀ r ∈ m, r ∈ l := fun y hy => h y (List.mem_cons_of_mem _ hy)
    rcases List.mem_cons.1 hr with rfl | hr
    · refine (nRules_st hp n m _ hm).up.2 _ ?_
      have hq := hp r (h r List.mem_cons_self)
      unfold nRule
      rw [if_pos hn]
      exact nLits_has _ _ (fun y hy => (hq.2 y (List.mem_filter.1 hy).1 (List.mem_filter.1 hy).2).1) x (List.mem_filter.2 ⟨hx, hh⟩) (by have := hq.2 x hx hh; omega)
    · exact nRules_has hp n m _ hm (by rw [nRule_len]; exact hl) r hr hn x hx hh
def Donesh (l : List Rul) (a : List Bool × List Int) : Prop := ∀ r ∈ l, a.1.getD r.pred.toNat false = true → r.pred ∉ a.2 → ∀ x ∈ r.body, hangsB x = true → a.1.getD x.pred.toNat false = true
theorem Ns_lits {N : Nat} : ∀ (b : List Ltl) {m : Nat} {a : List Bool × List Int}, Ns N m a → (∀ x ∈ b, 0 ≤ x.pred ∧ x.pred < N) → Ns N m (b.foldl nLit a)
  | [], _, _, h, _ => h
  | x :: b, _, _, h, hb => Ns_lits b (h.step (hb x List.mem_cons_self)) fun y hy => hb y (List.mem_cons_of_mem _ hy)
theorem Ns_rules {N : Nat} {l : List Rul} (hp : predsOk N l) (n : Int) : ∀ (m : List Rul) {k : Nat} {a : List Bool × List Int}, (∀ r ∈ m, r ∈ l) → Ns N k a → Ns N k (m.foldl (nRule n) a)
  | [], _, _, _, h => h
  | r :: m, k, a, hm, h => by
    refine Ns_rules hp n m (fun y hy => hm y (List.mem_cons_of_mem _ hy)) ?_
    unfold nRule
    split
    · exact Ns_lits _ h fun x hx => (hp r (hm r List.mem_cons_self)).2 x (List.mem_filter.1 hx).1 (List.mem_filter.1 hx).2
    · exact h
theorem nIter_clo {N : Nat} {l : List Rul} (hp : predsOk N l) : ∀ (m : Nat) (a : List Bool × List Int), Ns N m a → Donesh l a → Clo l (nIter l m a) ∧ leB a.1 (nIter l m a)
  | 0, (out, []), _, hd => ⟨fun r hr h => hd r hr h (by simp), leB.refl _⟩
  | 0, (out, n :: left), h, _ => by have := h.2.1; simp only [List.length_cons] at this; omega
  | m + 1, (out, []), _, hd => ⟨fun r hr h => hd r hr h (by simp), leB.refl _⟩
  | m + 1, (out, n :: left), h, hd => by
    have hs : Ns N m (out, left) := ⟨h.1, by have := h.2.1; simp only [List.length_cons] at this ⊢; omega, fun v hv => h.2.2 v (List.mem_cons_of_mem _ hv)⟩
    have hst := nRules_st hp n l (out, left) fun _ h => h
    have ih := nIter_clo hp m (l.foldl (nRule n) (out, left)) (Ns_rules hp n l (fun _ h => h) hs) ?_
    · exact ⟨ih.1, hst.up.trans ih.2⟩
    · intro r hr h1 h2 x hx hh
      rcases hst.new r.pred (hp r hr).1.1 h1 with h3 | h3
      · by_cases hn : r.pred = n
        · exact nRules_has hp n l (out, left) (fun _ h => h) h.1 r hr hn x hx hh
        · refine hst.up.2 _ (hd r hr h3 (fun hc => ?_) x hx hh)
          rcases List.mem_cons.1 hc with hc | hc
          · exact hn hc
          · exact h2 (hst.keep _ hc)
      · exact absurd h3 h2
/-- .. and no more than what is closed. -/
def Bel (C : List Bool) (a : List Bool × List Int) : Prop := (∀ i, a.1.getD i false = true → C.getD i false = true) ∧ ∀ v ∈ a.2, C.getD v.toNat false = true
theorem nLits_bel {C : List Bool} : ∀ (b : List Ltl) (a : List Bool × List Int), (∀ x ∈ b, C.getD x.pred.toNat false = true) → Bel C a → Bel C (b.foldl nLit a)
  | [], _, _, h => h
  | x :: b, a, hb, h => by
    refine nLits_bel b _ (fun y hy => hb y (List.mem_cons_of_mem _ hy)) ?_
    have hx := hb x List.mem_cons_self
    unfold nLit
    split
    · exact h
    · refine ⟨fun i hi => ?_, fun v hv => ?_⟩
      · dsimp only at hi
        rw [setB_getD] at hi
        split at hi
        · rename_i h1; rw [← h1.1]; exact hx
        · exact h.1 i hi
      · rcases List.mem_append.1 hv with hv | hv
        · exact h.2 v hv
        · rw [List.mem_singleton.1 hv]; exact hx
theorem nRules_bel {C : List Bool} {l : List Rul} (hc : Clo l C) {n : Int} (hn : C.getD n.toNat false = true) : ∀ (m : List Rul) (a : List Bool × List Int), (∀ r ∈ m, r ∈ l) → Bel C a → Bel C (m.foldl (nRule n) a)
  | [], _, _, h => h
  | r :: m, a, hm, h => by
    refine nRules_bel hc hn m _ (fun y hy => hm y (List.mem_cons_of_mem _ hy)) ?_
    unfold nRule
    split
    · rename_i hr
      exact nLits_bel _ _ (fun x hx => hc r (hm r List.mem_cons_self) (by rw [hr]; exact hn) x (List.mem_filter.1 hx).1 (List.mem_filter.1 hx).2) h
    · exact h
theorem nIter_bel {C : List Bool} {l : List Rul} (hc : Clo l C) : ∀ (m : Nat) (a : List Bool × List Int), Bel C a → ∀ i, (nIter l m a).getD i false = true → C.getD i false = true
  | 0, _, h => h.1
  | _ + 1, (_, []), h => h.1
  | m + 1, (out, n :: left), h => nIter_bel hc m _ (nRules_bel hc (h.2 n List.mem_cons_self) l (out, left) (fun _ h => h) ⟨h.1, fun v hv => h.2 v (List.mem_cons_of_mem _ hv)⟩)
theorem needs_same {p : Prg} {pred : Int} (h : PrgOk p) (hp : 0 ≤ pred ∧ pred < p.arity.length) : needsL p pred = docNeeds p pred := by
  have hq := predsOk_of h
  have hns : Ns p.arity.length (2 * p.arity.length + 1) (one p.arity.length pred, [pred]) := by
    refine ⟨by simp, ?_, fun v hv => by rw [List.mem_singleton.1 hv]; exact hp⟩
    have : (one p.arity.length pred).count false ≤ (one p.arity.length pred).length := List.count_le_length
    simp only [List.length_set, List.length_replicate, List.length_singleton] at this ⊢
    omega
  have h1 := nIter_clo hq _ _ hns fun r hr h1 h2 => absurd (by have := one_only h1; have := (hq r hr).1.1; rw [show r.pred = pred by omega]; exact List.mem_singleton.2 rfl) h2
  have hin : (needsL p pred).getD pred.toNat false = true := h1.2.2 _ (one_has hp)
  have hd := doc_clo h hp
  refine leB.anti ⟨by rw [needsL_len, docNeeds_len], nIter_bel hd.1 _ _ ⟨fun i hi => by rw [one_only hi]; exact hd.2, fun v hv => by rw [List.mem_singleton.1 hv]; exact hd.2⟩⟩ ⟨by rw [needsL_len, docNeeds_len], fun i hi => doc_least h h1.1 hin i hi⟩

/-! Focus twice is focus once. -/
theorem sub_clo {l m : List Rul} {C : List Bool} (h : ∀ r ∈ m, r ∈ l) (hc : Clo l C) : Clo m C := fun r hr => hc r (h r hr)
theorem firstL_sub {α : Type} {f : α → Int} {l m : List α} (h : ∀ x ∈ m, x ∈ l) (h0 : firstL f l = 0) : firstL f m = 0 := z0_firstL fun x hx => firstL_z0 h0 x (h x hx)
theorem focusL_mem {need : List Bool} {l : List Rul} {r : Rul} : r ∈ focusL need l ↔ r ∈ l ∧ need.getD r.pred.toNat false = true := by unfold focusL; rw [List.mem_filter]
theorem focus_progE {nameB : ByteArray → Bool} {p : Prg} (h : progE nameB p = 0) (need : List Bool) : progE nameB ⟨p.arity, p.names, focusL need p.rules⟩ = 0 := by
  have hf : firstL (ruleE p.arity) p.rules = 0 ∧ ¬ (10 < p.arity.length ∨ 12 < p.rules.length) ∧ p.names.length = p.arity.length ∧ firstI (nameE nameB p) 0 p.names.length = 0 := by
    unfold progE at h
    split at h; · cases h
    rename_i h1
    split at h; · cases h
    rename_i h2
    split at h; · rename_i h3; exact absurd h h3
    rename_i h3
    exact ⟨h, h1, by omega, Classical.byContradiction fun hn => h3 hn⟩
  obtain ⟨h1, h2, h3, h4⟩ := hf
  have hlen : (focusL need p.rules).length ≤ p.rules.length := List.length_filter_le _ _
  have h5 : firstI (nameE nameB ⟨p.arity, p.names, focusL need p.rules⟩) 0 p.names.length = 0 := h4
  unfold progE
  rw [if_neg (by dsimp only; omega), if_neg (by dsimp only; omega), if_neg (by dsimp only; rw [h5]; simp)]
  exact firstL_sub (fun r hr => (focusL_mem.1 hr).1) h1
theorem focus_twice {p : Prg} {pred : Int} (h : readyE p pred = 0) : readyE (focusP p pred) pred = 0 ∧ focusP (focusP p pred) pred = focusP p pred := by
  obtain ⟨g1, g2⟩ := readyE_ok h
  have hq : focusP p pred = ⟨p.arity, p.names, focusL (needsL p pred) p.rules⟩ := if_pos h
  have hok := progE_ok g1
  have hz := focus_progE g1 (needsL p pred)
  rw [hq]
  generalize hqq : (⟨p.arity, p.names, focusL (needsL p pred) p.rules⟩ : Prg) = q at hz
  have qa : q.arity = p.arity := by rw [← hqq]
  have qn : q.names = p.names := by rw [← hqq]
  have qr : q.rules = focusL (needsL p pred) p.rules := by rw [← hqq]
  have hokq := progE_ok hz
  have g2q : 0 ≤ pred ∧ pred < q.arity.length := by rw [qa]; exact g2
  have hrq : readyE q pred = 0 := by
    unfold readyE
    rw [if_neg (by rw [hz]; simp), if_pos g2q]
  refine ⟨hrq, ?_⟩
  have hsame : needsL q pred = needsL p pred := by
    rw [needs_same hok g2, needs_same hokq g2q]
    have cp := doc_clo hok g2
    have cq := doc_clo hokq g2q
    have hsub : ∀ r ∈ q.rules, r ∈ p.rules := fun r hr => (focusL_mem.1 (qr ▸ hr)).1
    have hle : ∀ i, (docNeeds q pred).getD i false = true → (docNeeds p pred).getD i false = true := doc_least hokq (sub_clo hsub cp.1) cp.2
    refine leB.anti ⟨by rw [docNeeds_len, docNeeds_len, qa], hle⟩ ⟨by rw [docNeeds_len, docNeeds_len, qa], doc_least hok ?_ cq.2⟩
    intro r hr h1 x hx hh
    exact cq.1 r (by rw [qr]; exact focusL_mem.2 ⟨hr, by rw [needs_same hok g2]; exact hle _ h1⟩) h1 x hx hh
  unfold focusP
  rw [if_pos hrq, hsame, qa, qn, qr, ← hqq]
  have : focusL (needsL p pred) (focusL (needsL p pred) p.rules) = focusL (needsL p pred) p.rules := by
    unfold focusL
    rw [List.filter_filter]
    congr 1
    funext r
    simp
  rw [this]
end Go.Proofs.Ytapciiffpnociaa

/- The document's levels and needs. Condition: none. -/
namespace Go.Proofs.Ytapciiffpnociaa
open Go Go.RowKit
attribute [local irreducible] DW DS DL DQ Ev FnOk FnP thenD inBlockD DWr

abbrev dlL (n : Nat) (rose : Bool) : Sl := [(1, .loc 0 0), (4, .row 1), (5, .d (.bool rose)), (6, .d (.int .i64 n))]
abbrev dlH (p : Prg) (lv : List Int) : Hp := [(0, prgBk p), (1, .row 3 1 (lv.map encI))]

set_option maxHeartbeats 8000000 in
theorem levelsOf_fn (p : Prg) (hok : PrgOk p) : Fn 32 [elPrg p] (fun res => res = .tup [.d (.slice 1 ((docLv p).map encI)), .d (.bool (docOk p))]) := by
  refine fnp_enter' _ Try.func32 rfl rfl (by kernel_rfl) ?_
  intro O w0 E0 β0
  have la : (p.arity.map encI).length = p.arity.length := List.length_map _
  have lr : (p.rules.map encRul).length = p.rules.length := List.length_map _
  have h10 := hok.preds
  have h12 := hok.rules
  repeat' (first | (apply ds_evC; exact rfl; (with_reducible exact trivial); (with_reducible exact rfl); exact rfl; exact rfl; exact rfl) | apply ds_nil | apply dw_seq2 | (apply ds_region; exact rfl) | apply thenD_n | (apply ds_newC; exact rfl; (with_reducible exact trivial); exact rfl; exact rfl; exact rfl))
  refine ds_mk ((zeros p.arity.length).map encI) rfl rfl (by rw [la]) rfl rfl rfl rfl rfl rfl (by show 8 * _ ≤ _; omega) (by unfold maxLen; omega) (by unfold zeros; rw [List.map_replicate]; rfl) rfl rfl ?_
  repeat' (first | (apply ds_evC; exact rfl; (with_reducible exact trivial); (with_reducible exact rfl); exact rfl; exact rfl; exact rfl) | apply ds_nil | apply dw_seq2 | (apply ds_region; exact rfl) | apply dw_block | apply thenD_n)
  refine ds_loop (ι := Nat × List Int × Bool) (fun x => ⟨2, dlL x.1 x.2.2, dlH p x.2.1⟩)
    (fun x => x.1 ≤ p.arity.length + 1 ∧ x.2.1 = lvIter p.rules x.1 (zeros p.arity.length) ∧ x.2.1.length = p.arity.length ∧ (∀ v ∈ x.2.1, 0 ≤ v ∧ v ≤ x.1 * 48) ∧ ∀ m, x.1 = m + 1 → x.2.2 = !decide (lvIter p.rules (m + 1) (zeros p.arity.length) = lvIter p.rules m (zeros p.arity.length)))
    (fun x => p.arity.length + 1 - x.1) (0, zeros p.arity.length, false) ⟨Nat.zero_le _, rfl, by simp [zeros], fun v hv => by rw [List.eq_of_mem_replicate hv]; constructor <;> simp, fun m h => by cases h⟩
    (ent_ren id ⟨rfl, rfl, rfl, rfl, trivial⟩ ⟨rfl, rfl, trivial⟩ rfl rfl rfl rfl rfl rfl) ?_
  rintro ⟨n, lv0, rose⟩ ⟨g1, g2, g3, g4, g5⟩
  dsimp only at g1 g2 g3 g4 g5 ⊢
  by_cases hn : n < p.arity.length + 1
  · repeat' (first | (apply ds_evC; exact rfl; (with_reducible exact trivial); (with_reducible exact rfl); exact rfl; exact rfl; exact rfl) | apply ds_nil | apply dw_seq2 | (apply ds_region; exact rfl) | apply dw_block | apply dw_skip | apply dw_exit | apply dw_ret | apply thenD_n | apply thenD_e | (apply inB_e; exact rfl) | (apply dw_condP; exact rfl; all_goals intro hg))
    all_goals try (exfalso; omega)
    refine ds_loop (ι := Nat × List Int × Bool) (fun x => ⟨2, (7, .d (.int .i64 x.1)) :: dlL n x.2.2, dlH p x.2.1⟩)
      (fun x => x.1 ≤ p.rules.length ∧ lvRound p.rules lv0 = lvRound (p.rules.drop x.1) x.2.1 ∧ RdL lv0 x.2.1 x.2.2 (n * 48 + x.1 * 4)) (fun x => p.rules.length - x.1)
      (0, lv0, false) ⟨Nat.zero_le _, rfl, RdL.refl (fun v hv => by have := g4 v hv; omega)⟩ (ent_ren id ⟨rfl, rfl, rfl, rfl, rfl, trivial⟩ ⟨rfl, rfl, trivial⟩ rfl rfl rfl rfl rfl rfl) ?_
    rintro ⟨i, lv1, rose1⟩ ⟨f1, f2, f3⟩
    dsimp only at f1 f2 f3 ⊢
    by_cases hi : i < p.rules.length
    · have hm := List.getElem_mem hi
      have hrk := hok.each _ hm
      rw [List.drop_eq_getElem_cons hi] at f2
      repeat' (first | (apply ds_evC; exact rfl; (first | (with_reducible exact trivial) | omega); (first | ((with_reducible apply hv_row); (exact rfl); (omega)) | (with_reducible exact rfl)); exact rfl; exact rfl; exact rfl) | apply ds_nil | apply dw_seq2 | (apply ds_region; exact rfl) | apply dw_block | apply dw_skip | apply dw_exit | apply thenD_n | apply thenD_e | apply inB_n | (apply inB_e; exact rfl) | (apply ds_newC; exact rfl; (with_reducible exact trivial); exact rfl; exact rfl; exact rfl) | (apply ds_setC; exact rfl; exact rfl; exact rfl; exact rfl) | (apply dw_condP; exact rfl; all_goals intro hg))
      all_goals try (exfalso; omega)
      generalize p.rules[i] = r at hrk f2 ⊢
      have hp1 := hrk.pred
      have hb4 := hrk.body
      have hlt := hrk.lits
      have lb : (r.body.map encLtl).length = r.body.length := List.length_map _
      have f2 : lvRound p.rules lv0 = lvRound (p.rules.drop (i + 1)) (r.body.foldl (lvLit r.fold r.pred) lv1) := f2
      refine ds_loop (ι := Nat × List Int × Bool) (fun x => ⟨3, (9, .d (.int .i64 x.1)) :: (8, .loc 2 0) :: (7, .d (.int .i64 i)) :: dlL n x.2.2, (2, ruleB r) :: dlH p x.2.1⟩)
        (fun x => x.1 ≤ r.body.length ∧ lvRound p.rules lv0 = lvRound (p.rules.drop (i + 1)) ((r.body.drop x.1).foldl (lvLit r.fold r.pred) x.2.1) ∧ RdL lv0 x.2.1 x.2.2 (n * 48 + i * 4 + x.1)) (fun x => r.body.length - x.1)
        (0, lv1, rose1) ⟨Nat.zero_le _, f2, f3.more (by simp)⟩ (ent_ren id ⟨rfl, rfl, rfl, rfl, rfl, rfl, rfl, trivial⟩ ⟨rfl, rfl, rfl, trivial⟩ rfl rfl rfl rfl rfl rfl) ?_
      clear f2 f3
      rintro ⟨k, lv2, rose2⟩ ⟨e1, e2, e3⟩
      dsimp only at e1 e2 e3 ⊢
      have l2 : (lv2.map encI).length = lv2.length := List.length_map _
      have hl2 : lv2.length = lv0.length := e3.1.1.symm
      by_cases hk : k < r.body.length
      · have hxm := List.getElem_mem hk
        obtain ⟨⟨k1, k2⟩, kp⟩ := hlt _ hxm
        rw [List.drop_eq_getElem_cons hk, List.foldl_cons] at e2
        by_cases hkind : 2 < r.body[k].kind
        · rw [show lvLit r.fold r.pred lv2 r.body[k] = lv2 from if_pos hkind] at e2
          repeat' (first | (apply ds_evC; exact rfl; (first | (with_reducible exact trivial) | omega); (first | ((with_reducible apply hv_prow); (exact (Int.toNat_of_nonneg (by omega)).symm)) | ((with_reducible apply hv_ldrow); (apply hv_get; (omega)); exact rfl) | ((with_reducible apply hv_row); (exact rfl); (omega)) | (with_reducible exact rfl)); exact rfl; exact rfl; exact rfl) | (apply ds_skip; exact rfl; exact rfl) | apply ds_nil | (apply ds_stP; exact rfl; exact rfl; (apply hv_get; (omega)); exact rfl; exact rfl; (exact hv_set rfl); exact rfl; exact rfl; exact rfl; exact rfl; exact rfl; exact rfl) | apply dw_seq2 | (apply ds_region; exact rfl) | apply dw_block | apply dw_skip | apply dw_exit | (apply dw_condT; exact rfl) | apply thenD_n | apply thenD_e | apply inB_n | (apply inB_e; exact rfl) | (apply ds_newC; exact rfl; (with_reducible exact trivial); exact rfl; exact rfl; exact rfl) | (apply ds_setC; exact rfl; exact rfl; exact rfl; exact rfl) | (apply dw_condP; exact rfl; all_goals intro hg) | ((fail_if_success (apply ds_known; exact rfl)); apply ds_guardP; exact rfl; exact rfl; exact rfl; all_goals intro hg))
          all_goals try (exfalso; omega)
          exact ⟨(k + 1, lv2, rose2), ⟨by dsimp only; omega, e2, e3.more (by omega)⟩, ent_ren id ⟨rfl, rfl, rfl, rfl, rfl, rfl, rfl, trivial⟩ ⟨rfl, rfl, rfl, trivial⟩ rfl rfl rfl rfl rfl rfl, by show r.body.length - (k + 1) < r.body.length - k; omega⟩
        · have hh : hangsB r.body[k] = true := by
            have h12 : r.body[k].kind = 1 ∨ r.body[k].kind = 2 := by omega
            unfold hangsB
            rcases h12 with h | h <;> simp [h]
          obtain ⟨q1, q2⟩ := kp hh
          have hA := e3.2.2.2 (lv2[r.body[k].pred.toNat]'(by omega)) (List.getElem_mem _)
          have hlit := lvLit_if (f := r.fold) (pr := r.pred) (lv := lv2) hkind (by omega) (by omega)
          have hset := fun v => e3.set (i := r.pred.toNat) (v := v) (by omega)
          have hNf : liftN r.fold r.body[k] = if r.body[k].kind = 2 ∨ r.fold ≠ 0 then 1 else 0 := rfl
          have hfold := hrk.fold
          repeat' (first | (apply ds_evC; exact rfl; (first | (with_reducible exact trivial) | omega); (first | ((with_reducible apply hv_prow); (exact (Int.toNat_of_nonneg (by omega)).symm)) | ((with_reducible apply hv_ldrow); (apply hv_get; (omega)); exact rfl) | ((with_reducible apply hv_row); (exact rfl); (omega)) | (with_reducible exact rfl)); exact rfl; exact rfl; exact rfl) | (apply ds_skip; exact rfl; exact rfl) | apply ds_nil | (apply ds_stP; exact rfl; exact rfl; (apply hv_get; (omega)); exact rfl; exact rfl; (exact hv_set rfl); exact rfl; exact rfl; exact rfl; exact rfl; exact rfl; exact rfl) | apply dw_seq2 | (apply ds_region; exact rfl) | apply dw_block | apply dw_skip | apply dw_exit | (apply dw_condT; exact rfl) | apply thenD_n | apply thenD_e | apply inB_n | (apply inB_e; exact rfl) | (apply ds_newC; exact rfl; (with_reducible exact trivial); exact rfl; exact rfl; exact rfl) | (apply ds_setC; exact rfl; exact rfl; exact rfl; exact rfl) | (apply dw_condP; exact rfl; all_goals intro hg) | ((fail_if_success (apply ds_known; exact rfl)); apply ds_guardP; exact rfl; exact rfl; exact rfl; all_goals intro hg))
          all_goals try (exfalso; omega)
          all_goals first
            | (have hL : liftN r.fold r.body[k] = 1 := by rw [hNf, if_pos (by omega)]
               rw [hlit, hL, if_pos (by omega)] at e2
               exact ⟨(k + 1, _, true), ⟨by dsimp only; omega, e2, (hset _ (by omega) (by omega)).more (by omega)⟩, ent_ren id ⟨rfl, rfl, rfl, rfl, rfl, rfl, rfl, trivial⟩ ⟨rfl, rfl, rfl, trivial⟩ rfl rfl rfl rfl rfl rfl, by show r.body.length - (k + 1) < r.body.length - k; omega⟩)
            | (have hL : liftN r.fold r.body[k] = 1 := by rw [hNf, if_pos (by omega)]
               rw [hlit, hL, if_neg (by omega)] at e2
               exact ⟨(k + 1, lv2, rose2), ⟨by dsimp only; omega, e2, e3.more (by omega)⟩, ent_ren id ⟨rfl, rfl, rfl, rfl, rfl, rfl, rfl, trivial⟩ ⟨rfl, rfl, rfl, trivial⟩ rfl rfl rfl rfl rfl rfl, by show r.body.length - (k + 1) < r.body.length - k; omega⟩)
            | (have hL : liftN r.fold r.body[k] = 0 := by rw [hNf, if_neg (by omega)]
               rw [hlit, hL, Int.add_zero, if_pos (by omega)] at e2
               exact ⟨(k + 1, _, true), ⟨by dsimp only; omega, e2, (hset _ (by omega) (by omega)).more (by omega)⟩, ent_ren id ⟨rfl, rfl, rfl, rfl, rfl, rfl, rfl, trivial⟩ ⟨rfl, rfl, rfl, trivial⟩ rfl rfl rfl rfl rfl rfl, by show r.body.length - (k + 1) < r.body.length - k; omega⟩)
            | (have hL : liftN r.fold r.body[k] = 0 := by rw [hNf, if_neg (by omega)]
               rw [hlit, hL, Int.add_zero, if_neg (by omega)] at e2
               exact ⟨(k + 1, lv2, rose2), ⟨by dsimp only; omega, e2, e3.more (by omega)⟩, ent_ren id ⟨rfl, rfl, rfl, rfl, rfl, rfl, rfl, trivial⟩ ⟨rfl, rfl, rfl, trivial⟩ rfl rfl rfl rfl rfl rfl, by show r.body.length - (k + 1) < r.body.length - k; omega⟩)
      · rw [show r.body.drop k = [] from List.drop_of_length_le (by omega)] at e2
        repeat' (first | (apply ds_evC; exact rfl; (first | (with_reducible exact trivial) | omega); (first | ((with_reducible apply hv_prow); (exact (Int.toNat_of_nonneg (by omega)).symm)) | ((with_reducible apply hv_ldrow); (apply hv_get; (omega)); exact rfl) | ((with_reducible apply hv_row); (exact rfl); (omega)) | (with_reducible exact rfl)); exact rfl; exact rfl; exact rfl) | (apply ds_skip; exact rfl; exact rfl) | apply ds_nil | (apply ds_stP; exact rfl; exact rfl; (apply hv_get; (omega)); exact rfl; exact rfl; (exact hv_set rfl); exact rfl; exact rfl; exact rfl; exact rfl; exact rfl; exact rfl) | apply dw_seq2 | (apply ds_region; exact rfl) | apply dw_block | apply dw_skip | apply dw_exit | (apply dw_condT; exact rfl) | apply thenD_n | apply thenD_e | apply inB_n | (apply inB_e; exact rfl) | (apply ds_newC; exact rfl; (with_reducible exact trivial); exact rfl; exact rfl; exact rfl) | (apply ds_setC; exact rfl; exact rfl; exact rfl; exact rfl) | (apply dw_condP; exact rfl; all_goals intro hg) | ((fail_if_success (apply ds_known; exact rfl)); apply ds_guardP; exact rfl; exact rfl; exact rfl; all_goals intro hg))
        all_goals try (exfalso; omega)
        exact ⟨(i + 1, lv2, rose2), ⟨by dsimp only; omega, e2, e3.more (by omega)⟩, ent_ren id ⟨rfl, rfl, rfl, rfl, rfl, trivial⟩ ⟨rfl, rfl, trivial⟩ rfl rfl rfl rfl rfl rfl, by show p.rules.length - (i + 1) < p.rules.length - i; omega⟩
    · rw [List.drop_of_length_le (by omega)] at f2
      have f2 : lvRound p.rules lv0 = lv1 := f2
      repeat' (first | (apply ds_evC; exact rfl; (first | (with_reducible exact trivial) | omega); (first | ((with_reducible apply hv_row); (exact rfl); (omega)) | (with_reducible exact rfl)); exact rfl; exact rfl; exact rfl) | apply ds_nil | apply dw_seq2 | (apply ds_region; exact rfl) | apply dw_block | apply dw_skip | apply dw_exit | apply thenD_n | apply thenD_e | apply inB_n | (apply inB_e; exact rfl) | (apply ds_newC; exact rfl; (with_reducible exact trivial); exact rfl; exact rfl; exact rfl) | (apply ds_setC; exact rfl; exact rfl; exact rfl; exact rfl) | (apply dw_condP; exact rfl; all_goals intro hg))
      all_goals try (exfalso; omega)
      have hsucc := lvIter_succ p.rules n (zeros p.arity.length)
      rw [← g2, f2] at hsucc
      refine ⟨(n + 1, lv1, rose1), ⟨by dsimp only; omega, hsucc.symm, by dsimp only; rw [← f3.1.1]; exact g3, fun v hv => by have := f3.2.2.2 v hv; dsimp only; omega, fun m hm => ?_⟩, ent_ren id ⟨rfl, rfl, rfl, rfl, trivial⟩ ⟨rfl, rfl, trivial⟩ rfl rfl rfl rfl rfl rfl, by show p.arity.length + 1 - (n + 1) < p.arity.length + 1 - n; omega⟩
      cases hm
      dsimp only
      rw [hsucc, ← g2]
      cases rose1 with
      | true => rw [decide_eq_false (f3.2.2.1 rfl)]; rfl
      | false => rw [decide_eq_true (f3.2.1 rfl)]; rfl
  · have hne : n = p.arity.length + 1 := by omega
    subst hne
    have hro := g5 _ rfl
    repeat' (first | (apply ds_evC; exact rfl; (with_reducible exact trivial); (with_reducible exact rfl); exact rfl; exact rfl; exact rfl) | apply ds_nil | apply dw_seq2 | (apply ds_region; exact rfl) | apply dw_block | apply dw_skip | apply dw_exit | apply thenD_n | apply thenD_e | (apply inB_e; exact rfl) | (apply dw_condP; exact rfl; all_goals intro hg))
    all_goals try (exfalso; omega)
    refine dw_ent (ent_seal 2 rfl rfl rfl) ?_
    repeat' (apply dw_ret)
    have hd : docOk p = !rose := by
      rw [hro, Bool.not_not, lvIter_succ]
      rfl
    refine ret_2 rfl ⟨by rw [g2]; rfl, by rw [hd]⟩
end Go.Proofs.Ytapciiffpnociaa

/- The document's NeedsOf, FocusOf. Condition: none. -/
namespace Go.Proofs.Ytapciiffpnociaa
open Go Go.RowKit
attribute [local irreducible] DW DS DL DQ Ev FnOk FnP thenD inBlockD DWr

abbrev dnL (n : Nat) : Sl := [(2, .loc 0 0), (5, .row 1), (6, .d (.int .i64 n))]
abbrev dnH (p : Prg) (out : List Bool) : Hp := [(0, prgBk p), (1, .row 4 1 (out.map encBl))]

set_option maxHeartbeats 8000000 in
theorem needsOf_fn (p : Prg) (pred : Int) (hok : PrgOk p) (hpr : 0 ≤ pred ∧ pred < p.arity.length) : Fn 33 [elPrg p, .d (.int .i64 pred)] (fun res => res = .d (.slice 1 ((docNeeds p pred).map encBl))) := by
  refine fnp_enter' _ Try.func33 rfl rfl (by kernel_rfl) ?_
  intro O w0 E0 β0
  have la : (p.arity.map encI).length = p.arity.length := List.length_map _
  have lr : (p.rules.map encRul).length = p.rules.length := List.length_map _
  have h10 := hok.preds
  have h12 := hok.rules
  repeat' (first | (apply ds_evC; exact rfl; (with_reducible exact trivial); (with_reducible exact rfl); exact rfl; exact rfl; exact rfl) | apply ds_nil | apply dw_seq2 | (apply ds_region; exact rfl) | apply thenD_n | (apply ds_newC; exact rfl; (with_reducible exact trivial); exact rfl; exact rfl; exact rfl))
  refine ds_mk ((List.replicate p.arity.length false).map encBl) rfl rfl (by rw [la]) rfl rfl rfl rfl rfl rfl (by show 1 * _ ≤ _; omega) (by unfold maxLen; omega) (by rw [List.map_replicate]; rfl) rfl rfl ?_
  have lf : ((List.replicate p.arity.length false).map encBl).length = p.arity.length := by simp
  have lf2 : (List.replicate p.arity.length false).length = p.arity.length := by simp
  repeat' (first | (apply ds_evC; exact rfl; (first | (with_reducible exact trivial) | omega); (first | ((with_reducible apply hv_prow); (exact (Int.toNat_of_nonneg (by omega)).symm)) | (with_reducible exact rfl)); exact rfl; exact rfl; exact rfl) | apply ds_nil | (apply ds_stP; exact rfl; exact rfl; (apply hv_get; (omega)); exact rfl; exact rfl; (exact hv_set rfl); exact rfl; exact rfl; exact rfl; exact rfl; exact rfl; exact rfl) | apply dw_seq2 | (apply ds_region; exact rfl) | apply dw_block | apply thenD_n)
  refine ds_loop (ι := Nat × List Bool) (fun x => ⟨2, dnL x.1, dnH p x.2⟩)
    (fun x => x.1 ≤ p.arity.length ∧ x.2 = dIter p.rules x.1 ((List.replicate p.arity.length false).set pred.toNat true)) (fun x => p.arity.length - x.1)
    (0, (List.replicate p.arity.length false).set pred.toNat true) ⟨Nat.zero_le _, rfl⟩ (ent_ren id ⟨rfl, rfl, rfl, trivial⟩ ⟨rfl, rfl, trivial⟩ rfl rfl rfl rfl rfl rfl) ?_
  rintro ⟨n, out0⟩ ⟨g1, g2⟩
  dsimp only at g1 g2 ⊢
  have hl0 : out0.length = p.arity.length := by rw [g2, dIter_len]; simp
  have lo0 : (out0.map encBl).length = out0.length := List.length_map _
  by_cases hn : n < p.arity.length
  · repeat' (first | (apply ds_evC; exact rfl; (with_reducible exact trivial); (with_reducible exact rfl); exact rfl; exact rfl; exact rfl) | apply ds_nil | apply dw_seq2 | (apply ds_region; exact rfl) | apply dw_block | apply dw_skip | apply dw_exit | apply dw_ret | apply thenD_n | apply thenD_e | (apply inB_e; exact rfl) | (apply dw_condP; exact rfl; all_goals intro hg))
    all_goals try (exfalso; omega)
    refine ds_loop (ι := Nat × List Bool) (fun x => ⟨2, (7, .d (.int .i64 x.1)) :: dnL n, dnH p x.2⟩)
      (fun x => x.1 ≤ p.rules.length ∧ dRound p.rules out0 = dRound (p.rules.drop x.1) x.2 ∧ x.2.length = p.arity.length) (fun x => p.rules.length - x.1)
      (0, out0) ⟨Nat.zero_le _, rfl, hl0⟩ (ent_ren id ⟨rfl, rfl, rfl, rfl, trivial⟩ ⟨rfl, rfl, trivial⟩ rfl rfl rfl rfl rfl rfl) ?_
    rintro ⟨i, out1⟩ ⟨f1, f2, f3⟩
    dsimp only at f1 f2 f3 ⊢
    by_cases hi : i < p.rules.length
    · have hm := List.getElem_mem hi
      have hrk := hok.each _ hm
      rw [List.drop_eq_getElem_cons hi] at f2
      have f2 : dRound p.rules out0 = dRound (p.rules.drop (i + 1)) (dRule out1 p.rules[i]) := f2
      repeat' (first | (apply ds_evC; exact rfl; (first | (with_reducible exact trivial) | omega); (first | ((with_reducible apply hv_row); (exact rfl); (omega)) | (with_reducible exact rfl)); exact rfl; exact rfl; exact rfl) | apply ds_nil | apply dw_seq2 | (apply ds_region; exact rfl) | apply dw_block | apply dw_skip | apply dw_exit | apply thenD_n | apply thenD_e | apply inB_n | (apply inB_e; exact rfl) | (apply ds_newC; exact rfl; (with_reducible exact trivial); exact rfl; exact rfl; exact rfl) | (apply ds_setC; exact rfl; exact rfl; exact rfl; exact rfl) | (apply dw_condP; exact rfl; all_goals intro hg))
      all_goals try (exfalso; omega)
      generalize p.rules[i] = r at hrk f2 ⊢
      have hp1 := hrk.pred
      have hlt := hrk.lits
      have hb4 := hrk.body
      have lb : (r.body.map encLtl).length = r.body.length := List.length_map _
      refine ds_loop (ι := Nat × List Bool) (fun x => ⟨3, (9, .d (.int .i64 x.1)) :: (8, .loc 2 0) :: (7, .d (.int .i64 i)) :: dnL n, (2, ruleB r) :: dnH p x.2⟩)
        (fun x => x.1 ≤ r.body.length ∧ x.2.length = p.arity.length ∧ (if x.2.getD r.pred.toNat false then dRound p.rules out0 = dRound (p.rules.drop (i + 1)) ((r.body.drop x.1).foldl dLit x.2) else dRound p.rules out0 = dRound (p.rules.drop (i + 1)) x.2)) (fun x => r.body.length - x.1)
        (0, out1) ⟨Nat.zero_le _, f3, by
          dsimp only
          unfold dRule at f2
          split
          · rename_i h; rw [if_pos h] at f2; exact f2
          · rename_i h; rw [if_neg h] at f2; exact f2⟩ (ent_ren id ⟨rfl, rfl, rfl, rfl, rfl, rfl, trivial⟩ ⟨rfl, rfl, rfl, trivial⟩ rfl rfl rfl rfl rfl rfl) ?_
      clear f2 f3
      rintro ⟨k, out2⟩ ⟨e1, e2, e3⟩
      dsimp only at e1 e2 e3 ⊢
      have l2 : (out2.map encBl).length = out2.length := List.length_map _
      have hgd : out2.getD r.pred.toNat false = out2[r.pred.toNat]'(by omega) := by rw [List.getD, List.getElem?_eq_getElem (by omega)]; rfl
      rw [hgd] at e3
      have leave : ((out2[r.pred.toNat]'(by omega)) = false ∨ r.body.length ≤ k) → dRound p.rules out0 = dRound (p.rules.drop (i + 1)) out2 := by
        rintro (h | h)
        · rw [h] at e3; exact e3
        · split at e3
          · rw [show r.body.drop k = [] from List.drop_of_length_le h] at e3; exact e3
          · exact e3
      by_cases hk : k < r.body.length
      · have hxm := List.getElem_mem hk
        obtain ⟨⟨k1, k2⟩, kp⟩ := hlt _ hxm
        cases hob : out2[r.pred.toNat]'(by omega) with
        | false =>
          have hl := leave (.inl hob)
          repeat' (first | (apply ds_evC; exact rfl; (first | (with_reducible exact trivial) | omega); (first | ((with_reducible apply hv_prow); (exact (Int.toNat_of_nonneg (by omega)).symm)) | ((with_reducible apply hv_ldrow); (apply hv_get; (omega)); exact rfl) | ((with_reducible apply hv_row); (exact rfl); (omega)) | (with_reducible exact rfl)); exact rfl; exact rfl; exact rfl) | (apply ds_skip; exact rfl; exact rfl) | apply ds_nil | apply dw_seq2 | (apply ds_region; exact rfl) | apply dw_block | apply dw_skip | apply dw_exit | (apply dw_condF; exact rfl) | apply thenD_n | apply thenD_e | apply inB_n | (apply inB_e; exact rfl) | (apply dw_condP; exact rfl; all_goals intro hg) | (apply dw_cond; exact rfl; all_goals intro hg) | ((fail_if_success (apply ds_known; exact rfl)); apply ds_guardP; exact rfl; exact rfl; exact rfl; all_goals intro hg))
          all_goals try (exfalso; omega)
          all_goals first
            | (exact Bool.noConfusion (hg.symm.trans hob)) | (exfalso; rename_i hX; exact Bool.noConfusion (hX.symm.trans hob))
            | exact ⟨(i + 1, out2), ⟨by dsimp only; omega, hl, e2⟩, ent_ren id ⟨rfl, rfl, rfl, rfl, trivial⟩ ⟨rfl, rfl, trivial⟩ rfl rfl rfl rfl rfl rfl, by show p.rules.length - (i + 1) < p.rules.length - i; omega⟩
        | true =>
          rw [hob, if_pos rfl, List.drop_eq_getElem_cons hk, List.foldl_cons] at e3
          have hkeep : (dLit out2 r.body[k]).getD r.pred.toNat false = true := dLits_keep [r.body[k]] out2 (by rw [hgd, hob])
          by_cases hkind : r.body[k].kind ≤ 2
          · have hh : hangsB r.body[k] = true := by
              have h12 : r.body[k].kind = 1 ∨ r.body[k].kind = 2 := by omega
              unfold hangsB
              rcases h12 with h | h <;> simp [h]
            obtain ⟨q1, q2⟩ := kp hh
            rw [show dLit out2 r.body[k] = out2.set r.body[k].pred.toNat true from if_pos hkind] at e3 hkeep
            repeat' (first | (apply ds_evC; exact rfl; (first | (with_reducible exact trivial) | omega); (first | ((with_reducible apply hv_prow); (exact (Int.toNat_of_nonneg (by omega)).symm)) | ((with_reducible apply hv_ldrow); (apply hv_get; (omega)); exact rfl) | ((with_reducible apply hv_row); (exact rfl); (omega)) | (with_reducible exact rfl)); exact rfl; exact rfl; exact rfl) | (apply ds_skip; exact rfl; exact rfl) | apply ds_nil | (apply ds_stP; exact rfl; exact rfl; (apply hv_get; (omega)); exact rfl; exact rfl; (exact hv_set rfl); exact rfl; exact rfl; exact rfl; exact rfl; exact rfl; exact rfl) | apply dw_seq2 | (apply ds_region; exact rfl) | apply dw_block | apply dw_skip | apply dw_exit | (apply dw_condF; exact rfl) | apply thenD_n | apply thenD_e | apply inB_n | (apply inB_e; exact rfl) | (apply dw_condP; exact rfl; all_goals intro hg) | (apply dw_cond; exact rfl; all_goals intro hg) | ((fail_if_success (apply ds_known; exact rfl)); apply ds_guardP; exact rfl; exact rfl; exact rfl; all_goals intro hg))
            all_goals try (exfalso; omega)
            all_goals first
              | (exact Bool.noConfusion (hg.symm.trans hob)) | (exfalso; rename_i hX; exact Bool.noConfusion (hX.symm.trans hob))
              | exact ⟨(k + 1, out2.set r.body[k].pred.toNat true), ⟨by dsimp only; omega, by simpa using e2, by dsimp only; rw [hkeep, if_pos rfl]; exact e3⟩, ent_ren id ⟨rfl, rfl, rfl, rfl, rfl, rfl, trivial⟩ ⟨rfl, rfl, rfl, trivial⟩ rfl rfl rfl rfl rfl rfl, by show r.body.length - (k + 1) < r.body.length - k; omega⟩
          · rw [show dLit out2 r.body[k] = out2 from if_neg hkind] at e3 hkeep
            repeat' (first | (apply ds_evC; exact rfl; (first | (with_reducible exact trivial) | omega); (first | ((with_reducible apply hv_prow); (exact (Int.toNat_of_nonneg (by omega)).symm)) | ((with_reducible apply hv_ldrow); (apply hv_get; (omega)); exact rfl) | ((with_reducible apply hv_row); (exact rfl); (omega)) | (with_reducible exact rfl)); exact rfl; exact rfl; exact rfl) | (apply ds_skip; exact rfl; exact rfl) | apply ds_nil | (apply ds_stP; exact rfl; exact rfl; (apply hv_get; (omega)); exact rfl; exact rfl; (exact hv_set rfl); exact rfl; exact rfl; exact rfl; exact rfl; exact rfl; exact rfl) | apply dw_seq2 | (apply ds_region; exact rfl) | apply dw_block | apply dw_skip | apply dw_exit | (apply dw_condF; exact rfl) | apply thenD_n | apply thenD_e | apply inB_n | (apply inB_e; exact rfl) | (apply dw_condP; exact rfl; all_goals intro hg) | (apply dw_cond; exact rfl; all_goals intro hg) | ((fail_if_success (apply ds_known; exact rfl)); apply ds_guardP; exact rfl; exact rfl; exact rfl; all_goals intro hg))
            all_goals try (exfalso; omega)
            all_goals first
              | (exact Bool.noConfusion (hg.symm.trans hob)) | (exfalso; rename_i hX; exact Bool.noConfusion (hX.symm.trans hob))
              | exact ⟨(k + 1, out2), ⟨by dsimp only; omega, e2, by dsimp only; rw [hkeep, if_pos rfl]; exact e3⟩, ent_ren id ⟨rfl, rfl, rfl, rfl, rfl, rfl, trivial⟩ ⟨rfl, rfl, rfl, trivial⟩ rfl rfl rfl rfl rfl rfl, by show r.body.length - (k + 1) < r.body.length - k; omega⟩
      · have hl := leave (.inr (by omega))
        repeat' (first | (apply ds_evC; exact rfl; (first | (with_reducible exact trivial) | omega); (first | ((with_reducible apply hv_prow); (exact (Int.toNat_of_nonneg (by omega)).symm)) | ((with_reducible apply hv_ldrow); (apply hv_get; (omega)); exact rfl) | ((with_reducible apply hv_row); (exact rfl); (omega)) | (with_reducible exact rfl)); exact rfl; exact rfl; exact rfl) | (apply ds_skip; exact rfl; exact rfl) | apply ds_nil | (apply ds_stP; exact rfl; exact rfl; (apply hv_get; (omega)); exact rfl; exact rfl; (exact hv_set rfl); exact rfl; exact rfl; exact rfl; exact rfl; exact rfl; exact rfl) | apply dw_seq2 | (apply ds_region; exact rfl) | apply dw_block | apply dw_skip | apply dw_exit | (apply dw_condF; exact rfl) | apply thenD_n | apply thenD_e | apply inB_n | (apply inB_e; exact rfl) | (apply dw_condP; exact rfl; all_goals intro hg) | (apply dw_cond; exact rfl; all_goals intro hg) | ((fail_if_success (apply ds_known; exact rfl)); apply ds_guardP; exact rfl; exact rfl; exact rfl; all_goals intro hg))
        all_goals try (exfalso; omega)
        all_goals exact ⟨(i + 1, out2), ⟨by dsimp only; omega, hl, e2⟩, ent_ren id ⟨rfl, rfl, rfl, rfl, trivial⟩ ⟨rfl, rfl, trivial⟩ rfl rfl rfl rfl rfl rfl, by show p.rules.length - (i + 1) < p.rules.length - i; omega⟩
    · rw [List.drop_of_length_le (by omega)] at f2
      have f2 : dRound p.rules out0 = out1 := f2
      repeat' (first | (apply ds_evC; exact rfl; (first | (with_reducible exact trivial) | omega); (first | ((with_reducible apply hv_row); (exact rfl); (omega)) | (with_reducible exact rfl)); exact rfl; exact rfl; exact rfl) | apply ds_nil | apply dw_seq2 | (apply ds_region; exact rfl) | apply dw_block | apply dw_skip | apply dw_exit | apply thenD_n | apply thenD_e | apply inB_n | (apply inB_e; exact rfl) | (apply ds_newC; exact rfl; (with_reducible exact trivial); exact rfl; exact rfl; exact rfl) | (apply ds_setC; exact rfl; exact rfl; exact rfl; exact rfl) | (apply dw_condP; exact rfl; all_goals intro hg))
      all_goals try (exfalso; omega)
      exact ⟨(n + 1, out1), ⟨by dsimp only; omega, by dsimp only; rw [← f2, g2]; rfl⟩, ent_ren id ⟨rfl, rfl, rfl, trivial⟩ ⟨rfl, rfl, trivial⟩ rfl rfl rfl rfl rfl rfl, by show p.arity.length - (n + 1) < p.arity.length - n; omega⟩
  · have hne : n = p.arity.length := by omega
    subst hne
    repeat' (first | (apply ds_evC; exact rfl; (with_reducible exact trivial); (with_reducible exact rfl); exact rfl; exact rfl; exact rfl) | apply ds_nil | apply dw_seq2 | (apply ds_region; exact rfl) | apply dw_block | apply dw_skip | apply dw_exit | apply thenD_n | apply thenD_e | (apply inB_e; exact rfl) | (apply dw_condP; exact rfl; all_goals intro hg))
    all_goals try (exfalso; omega)
    refine dw_ent (ent_seal 4 rfl rfl rfl) ?_
    repeat' (apply dw_ret)
    exact ⟨.inl rfl, _, rfl, rfl, by rw [g2]; rfl⟩

set_option maxHeartbeats 8000000 in
theorem focusOf_fn (p : Prg) (pred : Int) (hok : PrgOk p) (hpr : 0 ≤ pred ∧ pred < p.arity.length) : Fn 34 [elPrg p, .d (.int .i64 pred)] (fun res => res = elPrg ⟨p.arity, p.names, focusL (docNeeds p pred) p.rules⟩) := by
  refine fnp_enter' _ Try.func34 rfl rfl (by kernel_rfl) ?_
  intro O w0 E0 β0
  have hr := needsOf_fn p pred hok hpr
  have hnl := docNeeds_len p pred
  generalize docNeeds p pred = need at hr hnl ⊢
  have ln : (need.map encBl).length = need.length := List.length_map _
  have lr : (p.rules.map encRul).length = p.rules.length := List.length_map _
  have hlen := hok.rules
  repeat' (first | (apply ds_evC; exact rfl; (with_reducible exact trivial); (with_reducible exact rfl); exact rfl; exact rfl; exact rfl) | apply ds_nil | apply dw_seq2 | (apply ds_region; exact rfl) | apply dw_block | apply thenD_n | (apply ds_call; exact rfl; exact rfl; apply hr; exact rfl; (exact rfl); exact rfl; rintro _ rfl) | (apply ds_newC; exact rfl; (with_reducible exact trivial); exact rfl; exact rfl; exact rfl) | (apply ds_setC; exact rfl; exact rfl; exact rfl; exact rfl))
  refine dw_ent (ent_cellrow 2 2 143 5 rfl rfl rfl) ?_
  refine ds_loop (ι := Nat × List Rul) (fun x => ⟨4, [(2, .loc 0 0), (4, .loc 1 0), (5, .d (.slice 1 (need.map encBl))), (6, .loc 2 0), (7, .d (.int .i64 x.1))],
      [(0, prgBk p), (1, .blk 52 [.nils, .nils, .nils]), (2, .blk 52 [.d (.slice 1 (p.arity.map encI)), .d (.slice 1 (p.names.map encT)), .row 3]), (3, .row 143 5 (x.2.map encRul))]⟩)
    (fun x => x.1 ≤ p.rules.length ∧ x.2 = focusL need (p.rules.take x.1)) (fun x => p.rules.length - x.1) (0, []) ⟨Nat.zero_le _, rfl⟩ (ent_ren id ⟨rfl, rfl, rfl, rfl, rfl, trivial⟩ ⟨rfl, rfl, rfl, rfl, trivial⟩ rfl rfl rfl rfl rfl rfl) ?_
  clear hr
  rintro ⟨i, o⟩ ⟨f1, f2⟩
  dsimp only at f1 f2 ⊢
  have lo : (o.map encRul).length = o.length := List.length_map _
  have hol : o.length ≤ i := by rw [f2]; unfold focusL; have := List.length_filter_le (fun r : Rul => need.getD r.pred.toNat false) (p.rules.take i); rw [List.length_take] at this; omega
  by_cases hi : i < p.rules.length
  · have hm := List.getElem_mem hi
    have hp1 := (hok.each _ hm).pred
    have hgd : need.getD p.rules[i].pred.toNat false = need[p.rules[i].pred.toNat]'(by omega) := by rw [List.getD, List.getElem?_eq_getElem (by omega)]; rfl
    have hstep : focusL need (p.rules.take (i + 1)) = o ++ (if need[p.rules[i].pred.toNat]'(by omega) then [p.rules[i]] else []) := by
      rw [List.take_succ_eq_append_getElem hi, f2]
      unfold focusL
      rw [List.filter_append]
      congr 1
      simp only [List.filter_cons, List.filter_nil, hgd]
    cases hb : need[p.rules[i].pred.toNat]'(by omega) with
    | true =>
      rw [hb, if_pos rfl] at hstep
      repeat' (first | (apply ds_evC; exact rfl; (first | (with_reducible exact trivial) | omega); (first | ((with_reducible apply hv_row); (first | exact rfl | exact (Int.toNat_of_nonneg (by omega)).symm); (omega)) | (with_reducible exact rfl)); exact rfl; exact rfl; exact rfl) | apply ds_nil | (apply dt_ev; exact rfl; exact rfl; (first | (with_reducible exact trivial) | omega); (first | ((with_reducible apply hv_row); (exact rfl); (omega)) | (with_reducible exact rfl)); exact rfl; exact rfl; exact rfl; exact rfl) | (apply dt_set; exact rfl; exact rfl; (with_reducible exact trivial); exact rfl; exact rfl; exact rfl; exact rfl) | (apply dt_trade; exact rfl; exact rfl; exact rfl; (unfold maxLen; simp <;> omega); exact rfl; exact rfl; exact rfl; exact rfl; exact rfl; exact rfl) | (apply dt_nil; exact rfl) | apply dw_seq2 | (apply ds_region; exact rfl) | (apply dw_any; kernel_rfl; kernel_rfl; exact rfl; exact rfl) | apply dw_block | apply dw_skip | apply dw_exit | apply dw_ret | apply thenD_n | apply thenD_e | apply inB_n | (apply inB_e; exact rfl) | (apply ds_setC; exact rfl; exact rfl; exact rfl; exact rfl) | (apply dw_condP; exact rfl; all_goals intro hg) | (apply dw_cond; exact rfl; all_goals intro hg))
      all_goals try (exfalso; omega)
      all_goals first
        | (exfalso; rw [hb] at hg; cases hg; done)
        | exact ⟨(i + 1, o ++ [p.rules[i]]), ⟨by dsimp only; omega, hstep.symm⟩, ent_ren (fun j => match j with | 3 => 12 | j => j) ⟨rfl, rfl, rfl, rfl, rfl, trivial⟩ ⟨rfl, rfl, rfl, by rw [List.map_append]; rfl, trivial⟩ rfl rfl rfl rfl rfl rfl, by show p.rules.length - (i + 1) < p.rules.length - i; omega⟩
    | false =>
      rw [hb, if_neg (by simp), List.append_nil] at hstep
      repeat' (first | (apply ds_evC; exact rfl; (first | (with_reducible exact trivial) | omega); (first | ((with_reducible apply hv_row); (first | exact rfl | exact (Int.toNat_of_nonneg (by omega)).symm); (omega)) | (with_reducible exact rfl)); exact rfl; exact rfl; exact rfl) | apply ds_nil | (apply dt_ev; exact rfl; exact rfl; (first | (with_reducible exact trivial) | omega); (first | ((with_reducible apply hv_row); (exact rfl); (omega)) | (with_reducible exact rfl)); exact rfl; exact rfl; exact rfl; exact rfl) | (apply dt_set; exact rfl; exact rfl; (with_reducible exact trivial); exact rfl; exact rfl; exact rfl; exact rfl) | (apply dt_trade; exact rfl; exact rfl; exact rfl; (unfold maxLen; simp <;> omega); exact rfl; exact rfl; exact rfl; exact rfl; exact rfl; exact rfl) | (apply dt_nil; exact rfl) | apply dw_seq2 | (apply ds_region; exact rfl) | (apply dw_any; kernel_rfl; kernel_rfl; exact rfl; exact rfl) | apply dw_block | apply dw_skip | apply dw_exit | apply dw_ret | apply thenD_n | apply thenD_e | apply inB_n | (apply inB_e; exact rfl) | (apply ds_setC; exact rfl; exact rfl; exact rfl; exact rfl) | (apply dw_condP; exact rfl; all_goals intro hg) | (apply dw_cond; exact rfl; all_goals intro hg))
      all_goals try (exfalso; omega)
      all_goals first
        | (exfalso; rw [hb] at hg; cases hg; done)
        | exact ⟨(i + 1, o), ⟨by dsimp only; omega, hstep.symm⟩, ent_ren id ⟨rfl, rfl, rfl, rfl, rfl, trivial⟩ ⟨rfl, rfl, rfl, rfl, trivial⟩ rfl rfl rfl rfl rfl rfl, by show p.rules.length - (i + 1) < p.rules.length - i; omega⟩
  · rw [List.take_of_length_le (by omega)] at f2
    repeat' (first | (apply ds_evC; exact rfl; (first | (with_reducible exact trivial) | omega); (first | ((with_reducible apply hv_row); (first | exact rfl | exact (Int.toNat_of_nonneg (by omega)).symm); (omega)) | (with_reducible exact rfl)); exact rfl; exact rfl; exact rfl) | apply ds_nil | (apply dt_ev; exact rfl; exact rfl; (first | (with_reducible exact trivial) | omega); (first | ((with_reducible apply hv_row); (exact rfl); (omega)) | (with_reducible exact rfl)); exact rfl; exact rfl; exact rfl; exact rfl) | (apply dt_set; exact rfl; exact rfl; (with_reducible exact trivial); exact rfl; exact rfl; exact rfl; exact rfl) | (apply dt_trade; exact rfl; exact rfl; exact rfl; (omega); exact rfl; exact rfl; exact rfl; exact rfl; exact rfl; exact rfl) | (apply dt_nil; exact rfl) | apply dw_seq2 | (apply ds_region; exact rfl) | (apply dw_any; kernel_rfl; kernel_rfl; exact rfl; exact rfl) | apply dw_block | apply dw_skip | apply dw_exit | apply thenD_n | apply thenD_e | apply inB_n | (apply inB_e; exact rfl) | (apply ds_setC; exact rfl; exact rfl; exact rfl; exact rfl) | (apply dw_condP; exact rfl; all_goals intro hg) | (apply dw_cond; exact rfl; all_goals intro hg))
    all_goals try (exfalso; omega)
    refine dw_ent (ent_cellseal 1 2 3 rfl rfl rfl rfl rfl) ?_
    repeat' (apply dw_ret)
    exact ⟨.inl rfl, _, rfl, rfl, by rw [f2]; rfl⟩
end Go.Proofs.Ytapciiffpnociaa
