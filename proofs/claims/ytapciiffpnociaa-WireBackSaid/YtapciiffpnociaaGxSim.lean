/- A plain logic over the walk: a region that draws its order: whatever order is drawn. No program is named here. Condition: none. -/
import Derived.Test.YtapciiffpnociaaGxReg
namespace Go.Proofs.Ytapciiffpnociaa
open Go Go.RowKit

def enumO : Nat → List Oper → List (Nat × Oper)
  | _, [] => []
  | i, o :: l => (i, o) :: enumO (i + 1) l
theorem enumO_mem : ∀ (l : List Oper) (b : Nat) (q : Nat × Oper), q ∈ enumO b l ↔ b ≤ q.1 ∧ l[q.1 - b]? = some q.2
  | [], b, q => by simp [enumO]
  | o :: l, b, q => by
    simp only [enumO, List.mem_cons, enumO_mem l (b + 1) q]
    constructor
    · rintro (rfl | ⟨h1, h2⟩)
      · exact ⟨Nat.le_refl _, by simp⟩
      · refine ⟨by omega, ?_⟩
        rw [show q.1 - b = (q.1 - (b + 1)) + 1 by omega]
        simpa using h2
    · rintro ⟨h1, h2⟩
      by_cases h : q.1 = b
      · left
        rw [h, Nat.sub_self] at h2
        simp at h2
        exact Prod.ext h h2.symm
      · right
        refine ⟨by omega, ?_⟩
        rw [show q.1 - b = (q.1 - (b + 1)) + 1 by omega] at h2
        simpa using h2
theorem enumO_sorted : ∀ (l : List Oper) (b : Nat), (enumO b l).Pairwise (fun p q => p.1 < q.1)
  | [], _ => .nil
  | o :: l, b => by
    refine List.pairwise_cons.2 ⟨fun q hq => ?_, enumO_sorted l (b + 1)⟩
    have := ((enumO_mem l (b + 1) q).1 hq).1
    show b < q.1
    omega

def regDownB (l : List Oper) : Bool := (enumO 0 l).all fun q => q.2.after.toList.all fun e => !Region.binds .any e || Nat.blt e.on q.1
def regPairB (l : List Oper) : Bool := (enumO 0 l).all fun q => (enumO 0 l).all fun r => Nat.ble q.1 r.1 || (edgeB l q.1 r.1 || apartO l r.2 q.2)
def reachB (l : List Oper) : Nat → Nat → Nat → Bool
  | 0, _, _ => false
  | n + 1, i, j => match nthOp l i with
    | none => false
    | some o => o.after.toList.any fun e => Region.binds .any e && (Nat.beq e.on j || (Nat.blt j e.on && reachB l n e.on j))
def regCallB (l : List Oper) : Bool := (enumO 0 l).all fun q => !isCall q.2 || (enumO 0 l).all fun r => Nat.ble q.1 r.1 || (!isCall r.2 || reachB l l.length q.1 r.1)
/-- Does every order come to the same? -/
def regAnyB (l : List Oper) : Bool := regDownB l && (regPairB l && regCallB l)

theorem edgeB_spec {l : List Oper} {i j : Nat} : edgeB l i j = true ↔ ∃ o, l[i]? = some o ∧ ∃ e ∈ o.after, Region.binds .any e = true ∧ e.on = j := by
  unfold edgeB
  rw [nthOp_eq]
  cases h : l[i]? with
  | none => simp
  | some o =>
    simp only [List.any_eq_true, Bool.and_eq_true, Array.mem_toList_iff, Option.some.injEq, exists_eq_left']
    constructor
    · rintro ⟨e, h1, h2, h3⟩; exact ⟨e, h1, h2, Nat.eq_of_beq_eq_true h3⟩
    · rintro ⟨e, h1, h2, h3⟩; exact ⟨e, h1, h2, by rw [h3]; exact Nat.beq_refl j⟩

section
variable {Γ : Ctx} {l : List Oper} {κ : Nat}

structure Going (l : List Oper) (listed : Array Bool) (rem : List (Nat × Oper)) : Prop where
  size : listed.size = l.length
  closed : ∀ j o, l[j]? = some o → listed.getD j false = true → ∀ e ∈ o.after, Region.binds .any e = true → listed.getD e.on false = true
  left : ∀ q, q ∈ rem ↔ l[q.1]? = some q.2 ∧ listed.getD q.1 true = false
  sorted : rem.Pairwise (fun p q => p.1 < q.1)

theorem getD_flip {listed : Array Bool} {j : Nat} (hj : j < listed.size) : listed.getD j true = listed.getD j false := by simp [hj]

theorem lt_of_some {o : Oper} {j : Nat} (h : l[j]? = some o) : j < l.length := (List.getElem?_eq_some_iff.1 h).1

theorem Going.rest {listed : Array Bool} {rem pre post : List (Nat × Oper)} {i : Nat} {o : Oper} (g : Going l listed rem) (hr : i ∈ Region.ready .any l.toArray listed) (he : rem = pre ++ (i, o) :: post) (hi : l[i]? = some o) : Going l (listed.setIfInBounds i true) (pre ++ post) where
  size := by simp [g.size]
  closed j oj hj hl e he' hb := by
    have key : ∀ x, listed.getD x false = true → (listed.setIfInBounds i true).getD x false = true := by
      intro x hx
      by_cases hix : i = x
      · subst hix
        have : i < listed.size := by rw [g.size]; exact lt_of_some hi
        simp [this]
      · rw [getD_set_ne false hix]; exact hx
    by_cases hij : i = j
    · subst hij
      obtain ⟨_, o', ho', hall⟩ := mem_ready.1 hr
      have ho2 : l[i]? = some o' := by simpa using ho'
      rw [hj] at ho2
      cases ho2
      exact key _ (hall e he' hb)
    · rw [getD_set_ne false hij] at hl
      exact key _ (g.closed j oj hj hl e he' hb)
  left q := by
    have hs := g.sorted
    rw [he] at hs
    have hne : ∀ q ∈ pre ++ post, q.1 ≠ i := by
      intro q hq hqi
      rw [List.pairwise_append] at hs
      obtain ⟨_, h2, h3⟩ := hs
      rcases List.mem_append.1 hq with h | h
      · have := h3 q h (i, o) (List.mem_cons_self ..); simp at this; omega
      · have := (List.pairwise_cons.1 h2).1 q h; simp at this; omega
    constructor
    · intro hq
      have h1 : q ∈ rem := by rw [he]; rcases List.mem_append.1 hq with h | h <;> simp [h]
      obtain ⟨a, b⟩ := (g.left q).1 h1
      exact ⟨a, by rw [getD_set_ne true (Ne.symm (hne q hq))]; exact b⟩
    · rintro ⟨a, b⟩
      have hqi : i ≠ q.1 := by
        intro h
        have : i < listed.size := by rw [g.size]; exact lt_of_some hi
        rw [← h] at b
        simp [this] at b
      rw [getD_set_ne true hqi] at b
      have h1 := (g.left q).2 ⟨a, b⟩
      rw [he] at h1
      simp only [List.mem_append, List.mem_cons] at h1 ⊢
      rcases h1 with h | h | h
      · exact .inl h
      · exact absurd (by rw [h]) hqi
      · exact .inr h
  sorted := by
    have hs := g.sorted
    rw [he] at hs
    exact hs.sublist (List.Sublist.append (List.Sublist.refl _) (List.sublist_cons_self _ _))

theorem reach_done {listed : Array Bool} {rem : List (Nat × Oper)} (g : Going l listed rem) {j : Nat} : ∀ (n i : Nat) (oi : Oper), reachB l n i j = true → l[i]? = some oi →
    (∀ e ∈ oi.after, Region.binds .any e = true → listed.getD e.on false = true) → listed.getD j false = true
  | 0, _, _, h, _, _ => by cases h
  | n + 1, i, oi, h, hi, hall => by
    unfold reachB at h
    rw [nthOp_eq, hi] at h
    simp only [List.any_eq_true, Bool.and_eq_true, Bool.or_eq_true, Array.mem_toList_iff] at h
    obtain ⟨e, hea, heb, he⟩ := h
    have hl := hall e hea heb
    rcases he with he | ⟨_, he⟩
    · rw [← Nat.eq_of_beq_eq_true he]; exact hl
    · cases ho : l[e.on]? with
      | none =>
        have h1 : ¬ e.on < listed.size := by rw [g.size]; intro h; rw [List.getElem?_eq_getElem h] at ho; cases ho
        rw [Array.getD_eq_getD_getElem?, Array.getElem?_eq_none (by omega)] at hl
        cases hl
      | some o' => exact reach_done g n e.on o' he ho (g.closed e.on o' ho hl)
theorem calls_done {listed : Array Bool} {rem : List (Nat × Oper)} (g : Going l listed rem) (hc : regCallB l = true) {j : Nat} {oj : Oper} (hj : l[j]? = some oj) (hcj : isCall oj = true)
    (i : Nat) (oi : Oper) (hi : l[i]? = some oi) (hci : isCall oi = true) (hji : j < i) (hall : ∀ e ∈ oi.after, Region.binds .any e = true → listed.getD e.on false = true) : listed.getD j false = true := by
  unfold regCallB at hc
  rw [List.all_eq_true] at hc
  have h1 := hc (i, oi) ((enumO_mem l 0 (i, oi)).2 ⟨Nat.zero_le _, by simpa using hi⟩)
  simp only [hci, Bool.not_true, Bool.false_or, List.all_eq_true] at h1
  have h2 := h1 (j, oj) ((enumO_mem l 0 (j, oj)).2 ⟨Nat.zero_le _, by simpa using hj⟩)
  have hnb : Nat.ble i j = false := by
    cases hb : Nat.ble i j with
    | false => rfl
    | true => have := Nat.le_of_ble_eq_true hb; omega
  simp only [hnb, Bool.false_or, hcj, Bool.not_true] at h2
  exact reach_done g l.length i oi h2 hi hall

theorem any_sim (hB : regAnyB l = true) {K : FS → Prop} {Q : Exit → Act → World → Prop} (hQ : ∀ s e a w, K s → Rep Γ (lo (κ + l.length)) s e a w → Q .normal a w) :
    ∀ (fuel : Nat) (listed : Array Bool) (a : Act) (w : World) (s : FS) (e : Env) (D : Nat → Prop) (rem : List (Nat × Oper)) (lg : Log), Going l listed rem → rem.length = fuel → Rep Γ D s e a w →
      (∀ x, D x → x < κ + l.length ∧ ∀ j, x = κ + j → listed.getD j false = true) → DR Γ l κ rem lg K s → wpAny Γ.P .any l.toArray Q fuel listed a w := by
  simp only [regAnyB, Bool.and_eq_true] at hB
  obtain ⟨hdown, hpair, hcall⟩ := hB
  have down : ∀ j o, l[j]? = some o → ∀ e ∈ o.after, Region.binds .any e = true → e.on < j := by
    intro j o hj e he hb
    unfold regDownB at hdown
    rw [List.all_eq_true] at hdown
    have h1 := hdown (j, o) ((enumO_mem l 0 (j, o)).2 ⟨Nat.zero_le _, by simpa using hj⟩)
    rw [List.all_eq_true] at h1
    have h2 := h1 e (by simpa using he)
    simp only [hb, Bool.not_true, Bool.false_or] at h2
    exact Nat.le_of_ble_eq_true h2
  intro fuel
  induction fuel with
  | zero =>
    intro listed a w s e D rem lg g hlen hr hD hd
    have hrem : rem = [] := List.eq_nil_of_length_eq_zero hlen
    subst hrem
    refine ⟨?_, ?_⟩
    · apply List.eq_nil_iff_forall_not_mem.2
      intro j hj
      obtain ⟨h1, o, ho, _⟩ := mem_ready.1 hj
      have := (g.left (j, o)).2 ⟨by simpa using ho, h1⟩
      simp at this
    · cases hd with
      | nil hk =>
        obtain ⟨L, H, m, hs⟩ := hr
        obtain ⟨e', m'⟩ := m.widenTo (k' := lo (κ + l.length)) fun x hx => (hD x hx).1
        exact hQ s e' a w hk ⟨L, H, m', hs⟩
  | succ fuel ih =>
    intro listed a w s e D rem lg g hlen hr hD hd
    refine ⟨fun h0 => ?_, fun i hi => ?_⟩
    · exfalso
      cases rem with
      | nil => simp at hlen
      | cons q rem' =>
        obtain ⟨h1, h2⟩ := (g.left q).1 (List.mem_cons_self ..)
        have : q.1 ∈ Region.ready .any l.toArray listed := by
          refine mem_ready.2 ⟨h2, q.2, by simpa using h1, fun e' he hb => ?_⟩
          have hlt := down q.1 q.2 h1 e' he hb
          have hln : e'.on < listed.size := by rw [g.size]; have := lt_of_some h1; omega
          cases hx : listed.getD e'.on false with
          | true => rfl
          | false =>
            exfalso
            have hx' : listed.getD e'.on true = false := (getD_flip hln).trans hx
            have hlen' : e'.on < l.length := by rw [← g.size]; exact hln
            have hm := (g.left (e'.on, l[e'.on])).2 ⟨by simp [hlen'], hx'⟩
            rcases List.mem_cons.1 hm with h | h
            · have : e'.on = q.1 := by rw [← h]
              omega
            · have := (List.pairwise_cons.1 g.sorted).1 _ h
              simp at this
              omega
        rw [h0] at this
        simp at this
    · obtain ⟨h1, o, ho, hall⟩ := mem_ready.1 hi
      have hio : l[i]? = some o := by simpa using ho
      obtain ⟨pre, post, hre⟩ := List.append_of_mem ((g.left (i, o)).2 ⟨hio, h1⟩)
      have g' := g.rest hi hre hio
      have hpull : DR Γ l κ ((i, o) :: (pre ++ post)) lg K s := by
        refine DR.pull pre lg s (fun q hq => ?_) (hre ▸ hd)
        have hqr : q ∈ rem := by rw [hre]; exact List.mem_append_left _ hq
        obtain ⟨hq1, hq2⟩ := (g.left q).1 hqr
        have hqi : q.1 < i := by
          have hs := g.sorted
          rw [hre, List.pairwise_append] at hs
          have := hs.2.2 q hq (i, o) (List.mem_cons_self ..)
          simpa using this
        have hqs : q.1 < listed.size := by rw [g.size]; exact lt_of_some hq1
        have hq2' : listed.getD q.1 false = false := (getD_flip hqs).symm.trans hq2
        have e1 : edgeB l i q.1 = false := by
          cases hx : edgeB l i q.1 with
          | false => rfl
          | true =>
            obtain ⟨o', ho', e', he', hb', hon⟩ := edgeB_spec.1 hx
            rw [hio] at ho'
            cases ho'
            have := hall e' he' hb'
            rw [hon, hq2'] at this
            cases this
        have e2 : edgeB l q.1 i = false := by
          cases hx : edgeB l q.1 i with
          | false => rfl
          | true =>
            obtain ⟨o', ho', e', he', hb', hon⟩ := edgeB_spec.1 hx
            have := down q.1 o' ho' e' he' hb'
            omega
        refine ⟨e1, e2, ?_, fun hcq => ?_⟩
        · unfold regPairB at hpair
          rw [List.all_eq_true] at hpair
          have p1 := hpair (i, o) ((enumO_mem l 0 (i, o)).2 ⟨Nat.zero_le _, by simpa using hio⟩)
          rw [List.all_eq_true] at p1
          have p2 := p1 q ((enumO_mem l 0 q).2 ⟨Nat.zero_le _, by simpa using hq1⟩)
          have hnb : Nat.ble i q.1 = false := by
            cases hb : Nat.ble i q.1 with
            | false => rfl
            | true => have := Nat.le_of_ble_eq_true hb; omega
          simp only [hnb, Bool.false_or, e1] at p2
          exact p2
        · cases hci : isCall o with
          | false => rfl
          | true =>
            have := calls_done g hcall hq1 hcq i o hio hci hqi hall
            rw [hq2'] at this
            cases this
      cases hpull with
      | cons c S rd wr hm hl hne hn hk =>
        have hz : ¬ D (κ + i) := by
          intro hx
          have := (hD _ hx).2 i rfl
          have hin : i < listed.size := by rw [g.size]; exact lt_of_some hio
          rw [← getD_flip hin, h1] at this
          cases this
        refine Mv.sound hm hr hz hio Q _ fun v u a' w' e' hv hr' => ?_
        refine ih (listed.setIfInBounds i true) a' w' _ e' _ (pre ++ post) _ g' ?_ hr' (fun x hx => ?_) (hk v u hv)
        · rw [hre] at hlen
          simp only [List.length_append, List.length_cons] at hlen ⊢
          omega
        · have hin : i < listed.size := by rw [g.size]; exact lt_of_some hio
          rcases hx with hx | hx
          · refine ⟨(hD x hx).1, fun j hj => ?_⟩
            have := (hD x hx).2 j hj
            by_cases hij : i = j
            · subst hij; simp [hin]
            · rw [getD_set_ne false hij]; exact this
          · subst hx
            refine ⟨by have := lt_of_some hio; omega, fun j hj => ?_⟩
            have : i = j := by omega
            subst this
            simp [hin]

/-- The end of a region: the state as lists. -/
def endK (Γ : Ctx) (m : Nat) (Q : Next') : FS → Prop := fun s => ∀ e a w, Rep Γ (lo m) s e a w → ∃ (k' : Nat) (L' : Sl) (H' : Hp) (e' : Env), Models Γ k' L' H' e' a w ∧ Q k' L' H'

theorem dw_region_any {id k : Nat} {L : Sl} {H : Hp} {Q : Post} (hm : Γ.P.follows .mixedOrders = true) (hB : regAnyB l = true) (h : DR Γ l k (enumO 0 l) [] (endK Γ (k + l.length) (Q .normal)) (ofL L H)) : DW Γ (.region id l.toArray true) Q k L H := by
  intro e a w m
  refine wp_region_any hm ?_
  have m0 := m.below (w' := { w with drawn := w.drawn + 1 }) ((Below.refl _ _).drew)
  have hg : Going l (Array.replicate l.length false) (enumO 0 l) := by
    refine ⟨by simp, fun j o hj hl => ?_, fun q => ?_, enumO_sorted l 0⟩
    · have hlt := lt_of_some hj
      simp [hlt] at hl
    · rw [enumO_mem l 0 q]
      simp only [Nat.zero_le, Nat.sub_zero, true_and]
      constructor
      · intro hq; exact ⟨hq, by have := lt_of_some hq; simp [this]⟩
      · exact fun h => h.1
  have hlen : (enumO 0 l).length = l.toArray.size := by
    have : ∀ (l : List Oper) b, (enumO b l).length = l.length := by
      intro l
      induction l with
      | nil => intro b; rfl
      | cons o l ih => intro b; simp [enumO, ih]
    simp [this]
  refine any_sim hB (K := endK Γ (k + l.length) (Q .normal)) (Q := lift Γ Q) (fun s e a w hk hr => ?_) _ _ a _ (ofL L H) e (lo k) (enumO 0 l) [] (by simpa using hg) hlen ⟨L, H, m0, rfl⟩ (fun x hx => ⟨Nat.lt_of_lt_of_le hx (Nat.le_add_right _ _), fun j hj => ?_⟩) h
  · obtain ⟨k', L', H', e', m', hq⟩ := hk e a w hr
    exact ⟨k', L', H', e', m', hq⟩
  · have : x < k := hx
    omega
end
end Go.Proofs.Ytapciiffpnociaa
