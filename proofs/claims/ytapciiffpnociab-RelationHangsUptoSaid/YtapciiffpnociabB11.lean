/- Several texts in one: GxSrt RelS GxWin GxVew. Condition: none. -/
import Derived.Test.YtapciiffpnociabB10
import Derived.Shelf.SlSortCmp.NoneTotal
import Derived.Test.YtapciiffpnociabB01
import Derived.Test.YtapciiffpnociabB09

/- Own rows that the library sorts. Condition: none. -/
namespace Go.Proofs.Ytapciiffpnociab
open Go Go.RowKit Go.Sort Go.Shelf

section
variable {β : Type}
/-- An element as it lies: what it is, and the values of its cells. -/
structure Held (X : Nat → Prop) (w : World) (es : Nat) (enc : β → List D) where
  x : β
  vs : List Value
  len : vs.length = es
  one : ∀ v ∈ vs, v.oneCell' = true
  rep : ∀ j (hj : j < (enc x).length), ∃ v, vs[j]? = some v ∧ RepC X w v (enc x)[j]

theorem flatK_toList {α : Type} [Inhabited α] (enc : α → List Value) (k : Nat) (hk : ∀ x, (enc x).length = k) (d : Array α) (t : Nat) (ht : t < d.size * k) :
    (flatK enc k d).toList[t]? = (enc (d[t / k]'(Nat.div_lt_of_lt_mul (by rw [Nat.mul_comm]; exact ht))))[t % k]? := by
  have h0 : 0 < k := Nat.pos_of_ne_zero fun h => by subst h; simp at ht
  have h1 : t / k < d.size := Nat.div_lt_of_lt_mul (by rw [Nat.mul_comm]; exact ht)
  have h2 : t % k < (enc d[t / k]).length := by rw [hk]; exact Nat.mod_lt _ h0
  rw [Array.getElem?_toList, Array.getElem?_eq_getElem (by simpa using ht), List.getElem?_eq_getElem h2]
  simp only [flatK, Array.getElem_map, Array.getElem_range]
  rw [getElem!_pos d _ h1, getElem!_pos (enc d[t / k]) _ h2]

theorem sortK_heap {α : Type} [Inhabited α] {w : World} {g n : Nat} {os : Array Obj} {cur : Array Value} {e : TypeId} {fr : Nat × Nat} (enc : α → List Value) (k : Nat) (d : Array α) (hb : w.heap[g]? = some (.cells cur e fr)) :
    (sortWorldK enc k w g 0 n d os).heap[g]? = some (.cells (putCells id 0 (flatK enc k d) cur) e fr) := by
  have hg : g < w.heap.size := (Array.getElem?_eq_some_iff.1 hb).1
  unfold sortWorldK putRowK
  rw [heap_grow_old _ _ (by simpa using hg)]
  simp [putRow, mapBlock, Sort.ahead, Array.getElem?_modify, hb, onCells]
theorem sortK_other {α : Type} [Inhabited α] {w : World} {g n : Nat} {os : Array Obj} (enc : α → List Value) (k : Nat) (d : Array α) {b : Nat} (hb : b < w.heap.size) (hne : b ≠ g) :
    (sortWorldK enc k w g 0 n d os).heap[b]? = w.heap[b]? := by
  unfold sortWorldK putRowK
  rw [heap_grow_old _ _ (by simpa using hb)]
  have : g ≠ b := fun h => hne h.symm
  simp [putRow, mapBlock, Sort.ahead, Array.getElem?_modify, this]
theorem sortK_size {α : Type} [Inhabited α] {w : World} {g n : Nat} {os : Array Obj} (enc : α → List Value) (k : Nat) (d : Array α) : w.heap.size ≤ (sortWorldK enc k w g 0 n d os).heap.size := by
  unfold sortWorldK putRowK
  simp
theorem sortK_rest {α : Type} [Inhabited α] {w : World} {g n : Nat} {os : Array Obj} (enc : α → List Value) (k : Nat) (d : Array α) : (sortWorldK enc k w g 0 n d os).os = w.os ∧ (sortWorldK enc k w g 0 n d os).tape = w.tape ∧ (sortWorldK enc k w g 0 n d os).output = w.output := ⟨rfl, rfl, rfl⟩

theorem take_putCellsK (cur F : Array Value) (h : F.size ≤ cur.size) : (putCells id 0 F cur).toList.take F.size = F.toList := by
  apply List.ext_getElem?
  intro j
  by_cases hj : j < F.size
  · rw [List.getElem?_take_of_lt hj, Array.getElem?_toList, Array.getElem?_toList]
    simp [putCells, hj, show j < cur.size by omega]
  · rw [List.getElem?_take_eq_none (by omega), List.getElem?_eq_none (by simp; omega)]

/-- A world that has grown and drawn, as an equation. -/
theorem grown_eq {W w' : World} (hos : w'.os = W.os) (ht : w'.tape = W.tape) (ho : w'.output = W.output) (hd : W.drawn ≤ w'.drawn) (hs : W.heap.size ≤ w'.heap.size) (hb : ∀ b, b < W.heap.size → w'.heap[b]? = W.heap[b]?) :
    ∃ q os', w' = grow (W.drewN q) os' := by
  refine ⟨w'.drawn - W.drawn, w'.heap.extract W.heap.size, ?_⟩
  obtain ⟨heap, tape, drawn, os, output⟩ := w'
  simp only at hos ht ho hd hs hb
  subst hos; subst ht; subst ho
  unfold grow World.drewN
  simp only [World.mk.injEq, true_and, and_true]
  refine ⟨?_, by omega⟩
  apply Array.ext_getElem?
  intro i
  rw [Array.getElem?_append]
  split
  · rename_i h; exact hb i h
  · rename_i h
    rw [Array.getElem?_extract]
    split
    · congr 1; omega
    · rw [Array.getElem?_eq_none (by omega)]

theorem flatten_get {α γ : Type} {f : α → List γ} {k : Nat} (hk : ∀ x, (f x).length = k) : ∀ (d : List α) (i j : Nat) (hi : i < d.length), j < k → (d.map f).flatten[i * k + j]? = (f (d[i]'hi))[j]?
  | [], _, _, hi, _ => by simp at hi
  | x :: d, 0, j, _, hj => by
    rw [List.map_cons, List.flatten_cons, Nat.zero_mul, Nat.zero_add, List.getElem?_append_left (by rw [hk]; exact hj)]; rfl
  | x :: d, i + 1, j, hi, hj => by
    have h1 : (i + 1) * k + j = k + (i * k + j) := by rw [Nat.add_mul]; omega
    rw [List.map_cons, List.flatten_cons, h1, List.getElem?_append_right (by rw [hk]; omega), hk, Nat.add_sub_cancel_left, flatten_get hk d i j (by simpa using hi) hj]; rfl
theorem flatten_len {α γ : Type} {f : α → List γ} {k : Nat} (hk : ∀ x, (f x).length = k) : ∀ (d : List α), (d.map f).flatten.length = d.length * k
  | [] => by simp
  | x :: d => by rw [List.map_cons, List.flatten_cons, List.length_append, hk, flatten_len hk d, List.length_cons, Nat.add_mul]; omega
theorem flatK_list {α : Type} [Inhabited α] (enc : α → List Value) (k : Nat) (hk : ∀ x, (enc x).length = k) (d : Array α) : (flatK enc k d).toList = (d.toList.map enc).flatten := by
  apply List.ext_getElem?
  intro t
  by_cases ht : t < d.size * k
  · have h0 : 0 < k := Nat.pos_of_ne_zero fun h => by subst h; simp at ht
    have h1 : t / k < d.size := Nat.div_lt_of_lt_mul (by rw [Nat.mul_comm]; exact ht)
    rw [flatK_toList enc k hk d t ht]
    have h2 := flatten_get hk d.toList (t / k) (t % k) (by simpa using h1) (Nat.mod_lt _ h0)
    rw [Nat.div_add_mod'] at h2
    rw [h2]
    simp
  · rw [List.getElem?_eq_none (by simp; omega), List.getElem?_eq_none (by rw [flatten_len hk]; simp; omega)]

theorem held_of {X : Nat → Prop} {w : World} {es : Nat} {enc : β → List D} (hes : ∀ x, (enc x).length = es) : ∀ (l : List β) (us : List Value), us.length = l.length * es → (∀ v ∈ us, v.oneCell' = true) →
    (∀ i (hi : i < l.length) j (hj : j < (enc l[i]).length), ∃ v, us[i * es + j]? = some v ∧ RepC X w v ((enc l[i])[j]'hj)) → ∃ d : List (Held X w es enc), d.map Held.x = l ∧ (d.map Held.vs).flatten = us
  | [], us, h, _, _ => ⟨[], rfl, by simp at h; subst h; rfl⟩
  | x :: l, us, h, h1, h2 => by
    have hl : us.length = es + l.length * es := by rw [h, List.length_cons, Nat.add_mul]; omega
    obtain ⟨d, g1, g2⟩ := held_of (X := X) (w := w) hes l (us.drop es) (by rw [List.length_drop]; omega) (fun v hv => h1 v (List.mem_of_mem_drop hv)) (fun i hi j hj => by
      obtain ⟨v, q1, q2⟩ := h2 (i + 1) (by simpa using hi) j (by simpa using hj)
      refine ⟨v, ?_, q2⟩
      rw [List.getElem?_drop, ← q1]
      congr 1
      rw [Nat.add_mul]; omega)
    refine ⟨⟨x, us.take es, by rw [List.length_take]; omega, fun v hv => h1 v (List.mem_of_mem_take hv), fun j hj => ?_⟩ :: d, by rw [List.map_cons, g1], by rw [List.map_cons, List.flatten_cons, g2, List.take_append_drop]⟩
    obtain ⟨v, q1, q2⟩ := h2 0 (by simp) j (by simpa using hj)
    refine ⟨v, ?_, q2⟩
    rw [List.getElem?_take, if_pos (by rw [← hes x]; exact hj)]
    simpa using q1

theorem lowL_d : ∀ (ds : List D), SV.lowL 0 (ds.map .d) = true
  | [] => rfl
  | d :: ds => by simp [SV.lowL, SV.low, lowL_d ds]
theorem agg_low (ds : List D) : SV.lowL 0 (ds.map .d) = true := lowL_d ds
theorem relL_d {X : Nat → Prop} {e : Env} {w : World} : ∀ (ds : List D) (vs : List Value), vs.length = ds.length → (∀ j (hj : j < ds.length), ∃ v, vs[j]? = some v ∧ RepC X w v ds[j]) → RelL X e w (ds.map .d) vs
  | [], [], _, _ => trivial
  | [], _ :: _, h, _ => by simp at h
  | _ :: _, [], h, _ => by simp at h
  | d :: ds, v :: vs, h, hr => ⟨by obtain ⟨v', h1, h2⟩ := hr 0 (by simp); cases h1; exact h2, relL_d ds vs (by simpa using h) fun j hj => by
      obtain ⟨v', h1, h2⟩ := hr (j + 1) (by simpa using hj); exact ⟨v', by simpa using h1, by simpa using h2⟩⟩

variable {P : Program} {τ : List (Nat × TI)} {τok : TabOk P τ} {ρ : Ren}

/-- slices.SortFunc over an own row of elements of more than one cell; the comparison is a function that only looks. -/
theorem sort_rowK (L : SlLaysF0.n6 P ρ) (es : Nat) (aE : ∀ w, (isAgg (ρ.t 24)).run P w = .ok true w) (zE : ∀ w, (Go.sizeOf (ρ.t 24)).run P w = .ok es w) (enc : β → List D) (hes : ∀ x, (enc x).length = es) (cf : β → β → Int) (hO : SWO (ltOf cf)) (g : Nat)
    (hc : ∀ a b, FnP true P τ τok g [.agg ((enc a).map .d), .agg ((enc b).map .d)] (fun r => r = .d (.int .i64 (cf a b)))) (te : TypeId) (l : List β) (hl : l.length < 4611686018427387904)
    {X : Nat → Prop} {e : Env} {w : World} {i : Nat} (hXo : ∀ c, HB.owned e (i, .row te es (l.map enc)) = some c → X c) (hXl : ∀ b, X b → b < w.heap.size) (hrow : HRel X e w (i, .row te es (l.map enc))) :
    Calls P (ρ.f 6) #[e.η i, .func (.func g) #[] #[]] w fun en w' => en = .returned (.tuple #[]) ∧ w.heap.size ≤ w'.heap.size ∧ w'.os = w.os ∧ w'.tape = w.tape ∧ w'.output = w.output ∧
      (∀ c, c < w.heap.size → HB.owned e (i, .row te es (l.map enc)) ≠ some c → w'.heap[c]? = w.heap[c]?) ∧ ∃ l' : List β, l'.Perm l ∧ l'.Pairwise (fun a b => cf b a ≥ 0) ∧ HRel X e w' (i, .row te es (l'.map enc)) := by
  obtain ⟨us, hown, hlen, hone2, hrep⟩ := hrow
  by_cases hne : l = []
  · subst hne
    obtain ⟨p, cap, hv⟩ : ∃ p cap, e.η i = .slice p 0 cap := by
      rcases hown.2 with ⟨hv, _⟩ | ⟨gb, cap, cur, hv, _⟩
      · exact ⟨_, _, hv⟩
      · exact ⟨_, _, hv⟩
    rw [hv]
    refine (AnyF.slices_SortFunc_none { L with } p cap _ w).mono ?_
    rintro en w' ⟨rfl, rfl⟩
    exact ⟨rfl, Nat.le_refl _, rfl, rfl, rfl, fun _ _ _ => rfl, [], .refl _, .nil, us, hown, hlen, hone2, hrep⟩
  · have hpos : 0 < l.length := List.length_pos_iff.2 hne
    have lm : (l.map enc).length = l.length := List.length_map _
    obtain ⟨hul, hcase⟩ := hown
    rw [lm] at hul hcase
    rcases hcase with ⟨_, h⟩ | ⟨gb, cap, cur, hv, _, hblk, hnc, hcm, hcs, htk⟩
    · omega
    have hgb : gb < w.heap.size := (Array.getElem?_eq_some_iff.1 hblk).1
    have howned : ∀ (m : List (List D)), HB.owned e (i, .row te es m) = some gb := fun m => by simp [HB.owned, hv, Value.ownBlock]
    have hXg : X gb := hXo gb (howned _)
    obtain ⟨d, d1, d2⟩ := held_of (X := X) (w := w) (enc := enc) hes l us hul hone2 (fun i hi j hj => by
      obtain ⟨v, q1, q2⟩ := hrep i (by rw [lm]; exact hi) j (by simpa using hj)
      exact ⟨v, q1, by simpa using q2⟩)
    have hdl : d.length = l.length := by rw [← d1, List.length_map]
    haveI : Inhabited (Held X w es enc) := ⟨d[0]'(by omega)⟩
    have hkv : ∀ x : Held X w es enc, x.vs.length = es := fun x => x.len
    have hF : (flatK Held.vs es d.toArray).toList = us := by rw [flatK_list _ _ hkv, ← d2]
    have hHold : HoldsK (Held.vs (X := X) (w := w) (es := es) (enc := enc)) es w gb 0 d.toArray := by
      intro t ht
      have ht' : t < l.length * es := by simpa [hdl] using ht
      have hc1 : cur[t]? = us[t]? := by
        rw [← htk, List.getElem?_take, if_pos ht', Array.getElem?_toList]
      refine ⟨?_, by simp [World.frozen?, hblk]⟩
      simp only [World.cell?, hblk, Nat.zero_add]
      simp only [Option.isSome_none, Bool.false_eq_true, if_false]
      rw [hc1, ← hF, Array.getElem?_toList, Array.getElem?_eq_getElem ht, getElem!_pos _ t ht]
      rfl
    have hcmp : CmpLays P g #[] (Held.vs (X := X) (w := w) (es := es) (enc := enc)) es (fun x y => cf x.x y.x) gb 0 d.toArray.size w := by
      intro m os dk hdk x y
      generalize hW : sortWorldK Held.vs es w gb 0 m dk os = W
      have hWs : w.heap.size ≤ W.heap.size := hW ▸ sortK_size _ _ _
      have hWb : ∀ b, b < w.heap.size → ¬ X b → W.heap[b]? = w.heap[b]? := fun b hb hx => hW ▸ sortK_other _ _ _ hb fun h => hx (h ▸ hXg)
      have hXW : ∀ b, X b → b < W.heap.size := fun b hb => Nat.lt_of_lt_of_le (hXl b hb) hWs
      have hel : ∀ z : Held X w es enc, RelL X e W ((enc z.x).map .d) z.vs := fun z => relL_d _ _ (by rw [z.len, hes]) fun j hj => by
        obtain ⟨v, q1, q2⟩ := z.rep j hj
        exact ⟨v, q1, RepC.keep hWs hWb (fun _ _ h => h) q2⟩
      have hk := (hc x.x y.x).2 X (e.ren id 0) W [.agg x.vs.toArray, .agg y.vs.toArray] ⟨fun _ => Iff.rfl, by simp, by simp, by simp [ownedL], by simp [ownedL], rfl, rfl, rfl, fun _ => Nat.le_refl _, Nat.le_refl _, fun _ _ _ => rfl, fun b hb => ⟨hXW b hb, by simp [ownedL]⟩, fun j hj => absurd hj (Nat.not_lt_zero j), fun j hj => absurd hj (Nat.not_lt_zero j)⟩ ?_
      · refine hk.mono ?_
        rintro en w' ⟨k', r, H', e', v, ⟨rfl, hlr, rfl⟩, rfl, hH2, hrel⟩
        refine ⟨?_, grown_eq hH2.os hH2.tape hH2.output (hH2.drawn rfl) hH2.size fun b hb => hH2.block b hb (by simp [ownedL])⟩
        cases hrel
        rfl
      · have hXX : ∀ b, Ctx.X ⟨P, τ, τok, X, W, fun b => b ∈ ownedL (e.ren id 0) [], 0, 0, (e.ren id 0).β, none, noPan, true, true⟩ (e.ren id 0) [] b ↔ X b := fun b => by unfold Ctx.X; simp [ownedL]
        refine RelL.keep (Nat.le_refl _) (fun _ _ _ => rfl) (fun b _ h => (hXX b).1 h) _ _ (X := X) (w := W) ?_
        exact ⟨⟨x.vs, rfl, RelL.env _ _ (lowL_d _) (hel x)⟩, ⟨y.vs, rfl, RelL.env _ _ (lowL_d _) (hel y)⟩, trivial⟩
    have hOα : SWO (ltOf fun x y : Held X w es enc => cf x.x y.x) := ⟨fun x => hO.irrefl x.x, fun x y z => hO.trans x.x y.x z.x, fun x y z => hO.ntrans x.x y.x z.x⟩
    have eg : ∀ args w, (callFunc g args).run P w = .ok (.enter g args) w := run_call ((if h : l.length = 0 then by omega else (hc (l[0]'hpos) (l[0]'hpos)).1))
    have hs := AnyQ.slices_SortFunc L es aE zE (Held.vs (X := X) (w := w) (es := es) (enc := enc)) hkv (fun x => x.one) (fun x y => cf x.x y.x) hOα g #[] gb 0 cap d.toArray w eg hcmp hHold hgb (by simpa [hdl] using hl)
    have hsz : d.toArray.size = l.length := by simpa using hdl
    rw [hsz] at hs
    rw [hv]
    refine hs.mono ?_
    rintro en w' ⟨rfl, d', m, os, hp, hso, rfl⟩
    have hd's : d'.size = l.length := hp.1.trans hsz
    have hperm : d'.toList.Perm d := by
      have := hp.2.2
      rwa [show d'.extract 0 l.length = d' by rw [← hd's]; simp, show d.toArray.extract 0 l.length = d.toArray by rw [← hsz]; simp] at this
    refine ⟨rfl, sortK_size _ _ _, rfl, rfl, rfl, fun c hc hne => sortK_other _ _ _ hc fun h => hne (by rw [howned, h]), d'.toList.map Held.x, d1 ▸ hperm.map _, ?_, ?_⟩
    · rw [List.pairwise_map, List.pairwise_iff_getElem]
      intro i j hi hj hij
      have h1 := hso i j (Nat.zero_le _) hij (by simpa [hd's] using hj)
      rw [getElem!_pos d' i (by simpa using hi), getElem!_pos d' j (by simpa using hj)] at h1
      have h2 : ¬ cf d'[j].x d'[i].x < 0 := of_decide_eq_false h1
      simp only [Array.getElem_toList]
      omega
    · have hl' : (d'.toList.map Held.x).length = l.length := by simp [hd's]
      have hFs : (flatK Held.vs es d').size = l.length * es := by rw [size_flatK, hd's]
      have hFl : (flatK Held.vs es d').toList = (d'.toList.map Held.vs).flatten := flatK_list _ _ hkv _
      refine ⟨(d'.toList.map Held.vs).flatten, ⟨?_, .inr ⟨gb, cap, _, hv ▸ ?_, Nat.zero_le _, sortK_heap _ _ _ hblk, ?_, hcm, by simp [putCells, hcs], ?_⟩⟩, ?_, ?_, ?_⟩
      · rw [flatten_len hkv]; simp
      · simp [hd's]
      · simp [hd's]; exact hnc
      · rw [List.length_map, hl', ← hFs, take_putCellsK _ _ (by rw [hFs, hcs]; exact Nat.mul_le_mul_right _ hnc), hFl]
      · intro i hi; simp [hes]
      · intro v hvm
        obtain ⟨u, hu, hvu⟩ := List.mem_flatten.1 hvm
        obtain ⟨x, _, rfl⟩ := List.mem_map.1 hu
        exact x.one v hvu
      · intro i hi j hj
        have hi' : i < d'.toList.length := by simpa using hi
        have hj' : j < es := by simpa [hes] using hj
        obtain ⟨v, q1, q2⟩ := (d'.toList[i]).rep j (by rw [hes]; exact hj')
        refine ⟨v, by rw [flatten_get hkv d'.toList i j hi' hj']; exact q1, ?_⟩
        have q3 : RepC X w v (((d'.toList.map Held.x).map enc)[i][j]) := by simpa using q2
        exact RepC.keep (sortK_size _ _ _) (fun b hb hx => sortK_other _ _ _ hb fun h => hx (h ▸ hXg)) (fun b _ h => h) q3

/-- What a sort of an own row does. -/
def SortC (P : Program) (f g : FuncId) (te es : Nat) (enc : β → List D) (cf : β → β → Int) : Prop :=
  ∀ (l : List β), l.length < 4611686018427387904 → ∀ (X : Nat → Prop) (e : Env) (w : World) (i : Nat), (∀ c, HB.owned e (i, .row te es (l.map enc)) = some c → X c) → (∀ b, X b → b < w.heap.size) → HRel X e w (i, .row te es (l.map enc)) →
    Calls P f #[e.η i, .func (.func g) #[] #[]] w fun en w' => en = .returned (.tuple #[]) ∧ w.heap.size ≤ w'.heap.size ∧ w'.os = w.os ∧ w'.tape = w.tape ∧ w'.output = w.output ∧
      (∀ c, c < w.heap.size → HB.owned e (i, .row te es (l.map enc)) ≠ some c → w'.heap[c]? = w.heap[c]?) ∧ ∃ l' : List β, l'.Perm l ∧ l'.Pairwise (fun a b => cf b a ≥ 0) ∧ HRel X e w' (i, .row te es (l'.map enc))
end

section
variable {Γ : Ctx} {k : Nat} {L : Sl} {H : Hp} {K : Next'} {ops : List Oper} {rest : List Oper} {β : Type}
theorem ds_sort [NoDr Γ] {f g0 : FuncId} {te es : Nat} {enc : β → List D} {cf : β → β → Int} (hS : SortC Γ.P f g0 te es enc cf) (l : List β) {d i : Nat} {x y : Operand} {ts : Array TypeId} {ty : TypeId} {pos : String} {af : Array Edge} {g : Option (Nat × Bool)}
    (hcall : callable Γ.P f = true) (hx : opSV L x = .row i) (hH : Hp.get H i = some (.row te es (l.map enc))) (hy : opSV L y = .fn g0 []) (hyo : opOkB y = true) (hw : wantedSV ops L g = some true) (hd : Nat.blt d Γ.n = true) (hl : l.length < 4611686018427387904)
    (hk : ∀ l' : List β, l'.Perm l → l'.Pairwise (fun a b => cf b a ≥ 0) → DS false Γ ops rest K k ((d, .tup []) :: L) (Hp.set H i (.row te es (l'.map enc)))) :
    DS false Γ ops (⟨some d, .call { callee := .value (.func f), args := #[x, y], argTypes := ts }, ty, pos, af, g⟩ :: rest) K k L H := by
  refine dl_run hw fun e a w m => ?_
  unfold Oper.wp
  have hrun := run_callOp hcall a [x, y] ts (some d) ty pos af g w
  rw [show #[x, y] = [x, y].toArray from rfl, hrun, Oper.upon_enter]
  obtain ⟨hdom, hv, _⟩ := evT m hx (cSV_row · _)
  have hr := m.op y (opOkB_spec hyo)
  rw [hy] at hr
  obtain ⟨us, hu, hus⟩ := hr
  cases us with
  | cons u us => exact hus.elim
  | nil =>
    have hmem := Hp.mem_of hH
    have hown : ∀ c, HB.owned e (i, .row te es (l.map enc)) = some c → Γ.X e H c := fun c hc => .inr (List.mem_filterMap.2 ⟨_, hmem, hc⟩)
    have hXl : ∀ b, Γ.X e H b → b < w.heap.size := fun b hb => hb.elim (fun h => Nat.lt_of_lt_of_le (m.obound b h).1 m.size) (m.lt b)
    have hs := hS l hl (Γ.X e H) e w i hown hXl (m.heap _ hmem).2
    simp only [List.map_cons, List.map_nil, hv, hu]
    refine hs.mono ?_
    rintro en w' ⟨rfl, h1, h2, h3, h4, h5, l', h6, h7, h8⟩
    exact ⟨k, _, _, e, (m.turn (b' := .row te es (l'.map enc)) hH h1 h2 h3 h4 NoDr.any h5 rfl h8).put (s := .tup []) (Nat.le_of_ble_eq_true hd) ⟨[], rfl, trivial⟩, hk l' h6 h7⟩
end
end Go.Proofs.Ytapciiffpnociab

/- Facts are sorted by the library. Condition: none. -/
namespace Go.Proofs.Ytapciiffpnociab
open Go Go.RowKit
theorem sortFacts_c : SortC Try.prog 28 10 25 2 encFct ordF := fun l hl _ _ _ _ h1 h2 h3 =>
  sort_rowK (ρ := Try.sortFacts_ren) Try.sortFacts 2 Try.isAgg25 Try.sizeOf25 encFct (fun _ => rfl) ordF swoF 10 (fun a b => orderF_fnD true a b) 25 l hl h1 h2 h3
end Go.Proofs.Ytapciiffpnociab

/- A plain logic over the walk: slices over owned blocks. No program is named here. Condition: none. -/
namespace Go.Proofs.Ytapciiffpnociab
open Go Go.RowKit

/-- The cells of elements. -/
def flatD (xs : List (List D)) : List SV := xs.flatten.map .d
theorem flatD_len {es : Nat} : ∀ {xs : List (List D)}, (∀ x ∈ xs, x.length = es) → (flatD xs).length = xs.length * es
  | [], _ => by simp [flatD]
  | x :: xs, h => by
    have h1 := flatD_len (xs := xs) fun y hy => h y (List.mem_cons_of_mem _ hy)
    have h2 := h x (List.mem_cons_self ..)
    simp only [flatD, List.flatten_cons, List.map_append, List.length_append, List.length_map, List.length_cons, Nat.add_mul] at h1 ⊢
    omega
theorem flat_rel {X e w es} : ∀ (xs : List (List D)) (us : List Value), us.length = xs.length * es → (∀ i (hi : i < xs.length), (xs[i]'hi).length = es) →
    (∀ i (hi : i < xs.length) j (hj : j < (xs[i]'hi).length), ∃ v, us[i * es + j]? = some v ∧ RepC X w v ((xs[i]'hi)[j]'hj)) → RelL X e w (flatD xs) us
  | [], us, hl, _, _ => by
    have : us = [] := List.eq_nil_of_length_eq_zero (by simpa using hl)
    subst this
    exact trivial
  | x :: xs, us, hl, he, hr => by
    have hx := he 0 (by simp)
    simp only [List.getElem_cons_zero] at hx
    have hl' : us.length = xs.length * es + es := by rw [hl, List.length_cons, Nat.add_mul]; omega
    rw [show us = us.take es ++ us.drop es from (List.take_append_drop es us).symm]
    unfold flatD
    rw [List.flatten_cons, List.map_append]
    refine RelL.append _ _ _ _ (RelL.mk _ _ (by simp; omega) fun j s v hs hv => ?_) (flat_rel (es := es) xs (us.drop es) (by simp; omega) (fun i hi => he (i + 1) (by simpa using hi)) fun i hi j hj => ?_)
    · rw [List.getElem?_map] at hs
      cases hxj : x[j]? with
      | none => rw [hxj] at hs; cases hs
      | some d =>
        rw [hxj] at hs
        simp only [Option.map_some, Option.some.injEq] at hs
        subst hs
        obtain ⟨hj, hd⟩ := List.getElem?_eq_some_iff.1 hxj
        obtain ⟨u, h1, h2⟩ := hr 0 (by simp) j (by simpa using hj)
        rw [Nat.zero_mul, Nat.zero_add] at h1
        rw [List.getElem?_take, if_pos (by omega), h1] at hv
        cases hv
        have : (x :: xs)[0] = x := rfl
        simp only [List.getElem_cons_zero, hd] at h2
        exact h2
    · obtain ⟨u, h1, h2⟩ := hr (i + 1) (by simpa using hi) j hj
      refine ⟨u, ?_, h2⟩
      rw [List.getElem?_drop, ← h1]
      congr 1
      rw [Nat.add_mul]; omega

mutual
theorem SV.ren_low0 (ρ : Nat → Nat) : ∀ (s : SV), s.low 0 = true → s.ren ρ = s
  | .junk, _ => rfl
  | .d _, _ => rfl
  | .nils, _ => rfl
  | .pd _, _ => rfl
  | .loc _ _, h => by simp [SV.low, Nat.blt] at h
  | .row _, h => by simp [SV.low, Nat.blt] at h
  | .prow _ _ _ _, h => by simp [SV.low, Nat.blt] at h
  | .sl _ _ _ _, h => by simp [SV.low, Nat.blt] at h
  | .rsl _ _ _ _, h => by simp [SV.low, Nat.blt] at h
  | .fn f caps, h => by simp only [SV.ren, SV.renL_low0 ρ caps h]
  | .agg ss, h => by simp only [SV.ren, SV.renL_low0 ρ ss h]
  | .tup ss, h => by simp only [SV.ren, SV.renL_low0 ρ ss h]
  | .val _, _ => rfl
theorem SV.renL_low0 (ρ : Nat → Nat) : ∀ (ss : List SV), SV.lowL 0 ss = true → SV.renL ρ ss = ss
  | [], _ => rfl
  | s :: ss, h => by
    simp only [SV.lowL, Bool.and_eq_true] at h
    simp only [SV.renL, SV.ren_low0 ρ s h.1, SV.renL_low0 ρ ss h.2]
end
mutual
theorem SV.low_mono (k : Nat) : ∀ (s : SV), s.low 0 = true → s.low k = true
  | .junk, _ => rfl
  | .d _, _ => rfl
  | .nils, _ => rfl
  | .pd _, _ => rfl
  | .loc _ _, h => by simp [SV.low, Nat.blt] at h
  | .row _, h => by simp [SV.low, Nat.blt] at h
  | .prow _ _ _ _, h => by simp [SV.low, Nat.blt] at h
  | .sl _ _ _ _, h => by simp [SV.low, Nat.blt] at h
  | .rsl _ _ _ _, h => by simp [SV.low, Nat.blt] at h
  | .fn f caps, h => SV.lowL_mono k caps h
  | .agg ss, h => SV.lowL_mono k ss h
  | .tup ss, h => SV.lowL_mono k ss h
  | .val _, _ => rfl
theorem SV.lowL_mono (k : Nat) : ∀ (ss : List SV), SV.lowL 0 ss = true → SV.lowL k ss = true
  | [], _ => rfl
  | s :: ss, h => by
    simp only [SV.lowL, Bool.and_eq_true] at h ⊢
    exact ⟨SV.low_mono k s h.1, SV.lowL_mono k ss h.2⟩
end
/-- A block without names in it, under other names. -/
theorem blk_ren {ρ : Nat → Nat} {ty : TypeId} {cs : List SV} (h : SV.lowL 0 cs = true) : some (HB.blk ty cs) = some ((HB.blk ty cs).ren ρ) := by
  simp only [HB.ren, SV.renL_low0 ρ cs h]
theorem lowL_app {k : Nat} : ∀ {a b : List SV}, SV.lowL k a = true → SV.lowL k b = true → SV.lowL k (a ++ b) = true
  | [], _, _, h => h
  | s :: a, b, h, g => by
    simp only [SV.lowL, List.cons_append, Bool.and_eq_true] at h ⊢
    exact ⟨h.1, lowL_app h.2 g⟩
theorem lowL_take {k : Nat} : ∀ {a : List SV} (n : Nat), SV.lowL k a = true → SV.lowL k (a.take n) = true
  | _, 0, _ => rfl
  | [], _ + 1, _ => rfl
  | s :: a, n + 1, h => by
    simp only [SV.lowL, List.take_succ_cons, Bool.and_eq_true] at h ⊢
    exact ⟨h.1, lowL_take n h.2⟩
theorem lowL_drop {k : Nat} : ∀ {a : List SV} (n : Nat), SV.lowL k a = true → SV.lowL k (a.drop n) = true
  | _, 0, h => h
  | [], _ + 1, _ => rfl
  | s :: a, n + 1, h => by
    simp only [SV.lowL, List.drop_succ_cons, Bool.and_eq_true] at h ⊢
    exact lowL_drop n h.2
theorem lowL_junk {k : Nat} : ∀ (n : Nat), SV.lowL k (List.replicate n .junk) = true
  | 0 => rfl
  | n + 1 => by
    rw [List.replicate_succ]
    simp only [SV.lowL, Bool.and_eq_true]
    exact ⟨rfl, lowL_junk n⟩
theorem lowL_splice {k : Nat} {a b : List SV} {o : Nat} (h : SV.lowL k a = true) (g : SV.lowL k b = true) : SV.lowL k (splice a o b) = true := lowL_app (lowL_app (lowL_take _ h) g) (lowL_drop _ h)

section
variable {P : Program} (w : World)
theorem run_append_room_at (t ty e : TypeId) (i : TypeInfo) (ht : P.underlying t = some (.slice e)) (hi : P.info? e = some i)
    (g o sLen sCap : Nat) (tb : TypeId) (cur : Array Value) (hg : w.heap[g]? = some (.cells cur tb (0, 0)))
    (a : Addr) (m c : Nat) (news : List Value) (hl : news.length = m * i.size) (hnews : ∀ j u, news[j]? = some u → w.cell? (a.add j) = some u) (h1 : ∀ u ∈ news, u.oneCell' = true)
    (hroom : sLen + m ≤ sCap) (hfit : o + sLen * i.size + news.length ≤ cur.size) :
    (Builtin.append_ #[t, t] ty #[.slice (some ⟨g, o, none⟩) sLen sCap, .slice (some a) m c]).run P w =
      .ok (.slice (some ⟨g, o, none⟩) (sLen + m) sCap) (w.setRow g (cur.toList.take (o + sLen * i.size) ++ news ++ cur.toList.drop (o + sLen * i.size + news.length)).toArray) := by
  have hf := run_firstCells_some (P := P) w i.size m a m c news hl hnews
  have hst := run_storeCells_at P g (o + sLen * i.size) tb news 0 cur w hg (by simpa using hfit) h1
  simp only [Nat.add_zero] at hst
  simp [Builtin.append_, run_underlying ht, sizeOf, typeInfo, hi, Builtin.lenOf, hroom, hf, Addr.add_lit, hst]
end

theorem zeroCells_mem {z : Array Value} {n : Nat} {v : Value} (h : v ∈ (Builtin.zeroCells z n).toList) : v ∈ z.toList := by
  unfold Builtin.zeroCells at h
  simp only [Array.toList_map, Array.toList_range, List.mem_map, List.mem_range] at h
  obtain ⟨i, hi, rfl⟩ := h
  have hpos : 0 < z.size := by
    rcases Nat.eq_zero_or_pos z.size with h0 | h0
    · rw [h0, Nat.mul_zero] at hi; omega
    · exact h0
  have := Nat.mod_lt i hpos
  simp [this]

theorem junk_rel {X e w} : ∀ (n : Nat) (vs : List Value), vs.length = n → RelL X e w (List.replicate n .junk) vs
  | 0, [], _ => trivial
  | n + 1, [], h => by simp at h
  | 0, _ :: _, h => by simp at h
  | n + 1, v :: vs, h => ⟨trivial, junk_rel n vs (by simpa using h)⟩

section
variable {Γ : Ctx} {k : Nat} {L : Sl} {H : Hp} {K : Next'} {ops : List Oper} {rest : List Oper} {t t' ty : TypeId} {x y : Operand}

/-- A slice that is written out: in an owned block. -/
theorem ds_bs_sl {d te es len : Nat} {pos : String} {af : Array Edge} {g : Option (Nat × Bool)} {ps : List (Nat × Operand)} {cs' : List SV} (ht : Γ.sh t = .slice te) (hkn : (Γ.sh te).known = true) (hes : Γ.cells te = es) (hpos : Nat.blt 0 es = true) (hz : zeroOk (tiGet Γ.τ te).zero = true) (hzl : Nat.beq (tiGet Γ.τ te).zero.length (Γ.cells te) = true) (hok : partsOk ps = true)
    (hlen : Nat.ble (len * es) 16777216 = true) (hf : fillSV (fun i => some (i * es, es)) (initSV (zeroSV Γ.τ te) (len * es)) (partsSV L ps) = some cs') (hw : wantedSV ops L g = some true) (hd : Nat.blt d Γ.n = true)
    (hk : DS false Γ ops rest K (k + 1) ((d, .sl k 0 len len) :: L) ((k, .blk te cs') :: H))   : DS false Γ ops (⟨some d, .buildSlice t len ps.toArray, ty, pos, af, g⟩ :: rest) K k L H := by
  refine dl_run hw fun e a w m => ?_
  obtain ⟨vs', f2, f3, hrun⟩ := run_buildSlice (ty := ty) ht hkn hes hpos hz hzl hok hlen hf m
  unfold Oper.wp
  rw [hrun]
  have m2 := (m.alloc (lo_not k) te f2 f3).cast (with1_lo k)
  rw [Array.toArray_toList] at m2
  have hlm : len ≤ maxLen := by
    have h1 := Nat.le_of_ble_eq_true hlen
    have h2 := Nat.le_of_ble_eq_true hpos
    have : len ≤ len * es := Nat.le_mul_of_pos_right _ h2
    unfold maxLen; omega
  refine ⟨_, _, _, _, m2.put (s := .sl k 0 len len) (Nat.le_of_ble_eq_true hd) ⟨.inr rfl, Nat.le_refl _, hlm, 0, ?_, fun _ => rfl⟩, hk⟩
  show _ = Value.slice (some ⟨(e.bind k w.heap.size).β k, 0, none⟩) len len
  rw [show (e.bind k w.heap.size).β k = w.heap.size from if_pos rfl]

/-- An append to a slice over an owned block: in it, or in a new one. -/
theorem ds_append_sl {d te t2 i off n cap es : Nat} {cs : List SV} {ys : List (List D)} {pos : String} {af : Array Edge} {g : Option (Nat × Bool)}
    (ht : Γ.sh t = .slice te) (hkn : (Γ.sh te).known = true) (hes : Γ.cells te = es) (hpos : Nat.blt 0 es = true) (hz : Nat.beq (tiGet Γ.τ te).zero.length (Γ.cells te) = true) (hzo : zeroOk (tiGet Γ.τ te).zero = true)
    (hx : opSV L x = .sl i off n cap) (hH : Hp.get H i = some (.blk te cs)) (hfit : off + cap * es ≤ cs.length) (hy : opSV L y = .d (.slice es ys)) (hne : ys ≠ []) (hw : wantedSV ops L g = some true) (hd : Nat.blt d Γ.n = true)
    (hroom : (n + ys.length) * (tiGet Γ.τ te).bytes ≤ 140737488355328) (h63 : n + ys.length ≤ maxLen)
    (hk1 : n + ys.length ≤ cap → DS false Γ ops rest K k ((d, .sl i off (n + ys.length) cap) :: L) (Hp.set H i (.blk te (splice cs (off + n * es) (flatD ys)))))
    (hk2 : ∀ cap', cap < n + ys.length → n + ys.length ≤ cap' → cap' ≤ maxLen → DS false Γ ops rest K (k + 1) ((d, .sl k 0 (n + ys.length) cap') :: L) ((k, .blk te ((cs.drop off).take (n * es) ++ flatD ys ++ List.replicate ((cap' - (n + ys.length)) * es) .junk)) :: H)) :
    DS false Γ ops (⟨some d, .call { callee := .builtin .append, args := #[x, y], argTypes := #[t, t] }, t2, pos, af, g⟩ :: rest) K k L H := by
  refine dl_run hw fun e a w m => ?_
  obtain ⟨inf, zv, hi, hzz, hs, hb, hzc⟩ := Ctx.info (Sh.known_ne hkn)
  have hut := Ctx.slice ht
  obtain ⟨hdom, hnc, hcm, o', hvx, ho'⟩ := evT m hx (cSV_sl · _ _ _ _)
  have hry := evT m hy (cSV_slice · _ _)
  obtain ⟨vs, hh, hcs, hone⟩ := (m.heap _ (Hp.mem_of hH)).2
  have hvl := RelL.length _ _ hcs
  have hsz : inf.size = es := by rw [hs, hes]
  have hpos' := Nat.le_of_ble_eq_true hpos
  obtain ⟨ao, capy, hvy, _, _, hnone⟩ := hry.slice_inv
  cases ao with
  | none => exact absurd (hnone rfl) hne
  | some ad =>
    have hr := hry
    rw [hvy] at hr
    obtain ⟨_, hye, us, u1, u2, u3, u4⟩ := sliceAddr hr
    have hyl : 0 < ys.length := List.length_pos_iff.2 hne
    have huflat : RelL (Γ.X e H) e w (flatD ys) us := flat_rel ys us u1 hye u4
    have hul := RelL.length _ _ huflat
    by_cases hcap : n + ys.length ≤ cap
    · have hoo : o' = off := ho' (by omega)
      subst hoo
      have hfit2 : o' + n * inf.size + us.length ≤ vs.toArray.size := by
        rw [u1, hsz, List.size_toArray, ← hvl, Nat.add_assoc, ← Nat.add_mul]
        exact Nat.le_trans (Nat.add_le_add_left (Nat.mul_le_mul_right _ hcap) _) hfit
      have hrun := run_append_room_at (P := Γ.P) w t t2 te inf hut hi (e.β i) o' n cap te vs.toArray hh ad ys.length capy us (by rw [hsz]; exact u1) u2 u3 hcap hfit2
      have hop : (execOp a.eval ⟨some d, .call { callee := .builtin .append, args := #[x, y], argTypes := #[t, t] }, t2, pos, af, g⟩).run Γ.P w = .ok (.value (.slice (some ⟨e.β i, o', none⟩) (n + ys.length) cap)) (w.setRow (e.β i) (vs.toArray.toList.take (o' + n * inf.size) ++ us ++ vs.toArray.toList.drop (o' + n * inf.size + us.length)).toArray) := by
        simp only [execOp, resolve, invoke, builtin, Sem.run_bind, Sem.run_pure, Result.andThen_ok, List.map_toArray, List.map_cons, List.map_nil, hvx, hvy, hrun]
      unfold Oper.wp
      rw [hop]
      have m2 : Models Γ (lo k) L (Hp.set H i (.blk te (splice cs (o' + n * es) (flatD ys)))) e a (w.setRow (e.β i) (vs.toArray.toList.take (o' + n * inf.size) ++ us ++ vs.toArray.toList.drop (o' + n * inf.size + us.length)).toArray) := by
        refine m.turn (b' := .blk te (splice cs (o' + n * es) (flatD ys))) hH ?_ rfl rfl rfl (fun _ => Nat.le_refl _) (fun c _ hc => setRow_other w _ c _ (fun h => hc (by simp [HB.owned, h]))) rfl ?_
        · simp [World.setRow]
        · refine ⟨_, setRow_heap w (e.β i) vs.toArray _ te (0, 0) hh, ?_, fun v hv => ?_⟩
          · have hkeep : ∀ b, b < w.heap.size → ¬ Γ.X e H b → (w.setRow (e.β i) (vs.toArray.toList.take (o' + n * inf.size) ++ us ++ vs.toArray.toList.drop (o' + n * inf.size + us.length)).toArray).heap[b]? = w.heap[b]? := fun b _ hb => setRow_other w _ b _ (fun h => hb (.inr (List.mem_filterMap.2 ⟨_, Hp.mem_of hH, by simp [HB.owned, h]⟩)))
            refine RelL.keep (by simp [World.setRow]) hkeep (fun _ _ h => h) _ _ ?_
            unfold splice
            rw [hsz, hul]
            exact RelL.append _ _ _ _ (RelL.append _ _ _ _ (RelL.take _ _ hcs _) huflat) (RelL.drop _ _ hcs _)
          · simp only [List.mem_append] at hv
            rcases hv with (hv | hv) | hv
            · exact hone v (List.mem_of_mem_take hv)
            · exact u3 v hv
            · exact hone v (List.mem_of_mem_drop hv)
      exact ⟨_, _, _, _, m2.put (s := .sl i o' (n + ys.length) cap) (Nat.le_of_ble_eq_true hd) ⟨hdom, hcap, hcm, o', rfl, fun _ => rfl⟩, hk1 hcap⟩
    · have hlt : cap < n + ys.length := by omega
      have hol : ((vs.drop off).take (n * es)).length = n * inf.size := by
        rw [List.length_take, List.length_drop, ← hvl, hsz]
        have : n * es ≤ cap * es := Nat.mul_le_mul_right _ hnc
        omega
      have holds : ∀ j v, ((vs.drop off).take (n * es))[j]? = some v → w.cell? ((⟨e.β i, o', none⟩ : Addr).add j) = some v := by
        intro j v hj
        have hjl : j < n * es := by
          rw [List.getElem?_take] at hj
          split at hj
          · assumption
          · cases hj
        have hn0 : 0 < cap := by
          rcases Nat.eq_zero_or_pos n with h | h
          · rw [h, Nat.zero_mul] at hjl; omega
          · omega
        have hoo := ho' hn0
        subst hoo
        rw [List.getElem?_take, if_pos hjl, List.getElem?_drop] at hj
        rw [Addr.add_at, cell_of_row w _ _ _ te (0, 0) hh]
        simpa using hj
      have h63' : ((n + ys.length : Nat) : Int) ≤ 9223372036854775807 := by unfold maxLen at h63; omega
      have hrun := run_append_grow (P := Γ.P) w t t2 te inf zv hut hi hzz ⟨e.β i, o', none⟩ n cap ((vs.drop off).take (n * es)) hol holds ad ys.length capy us (by rw [hsz]; exact u1) u2 hlt h63' (growslice_fits hlt (by rw [hb]; exact hroom))
      have hge := grownCap_ge w (n + ys.length) cap te
      have hcm' : grownCap w (n + ys.length) cap te ≤ maxLen := grownCap_le_maxLen w (n + ys.length) cap te h63
      generalize grownCap w (n + ys.length) cap te = c' at hrun hge hcm'
      have hop : (execOp a.eval ⟨some d, .call { callee := .builtin .append, args := #[x, y], argTypes := #[t, t] }, t2, pos, af, g⟩).run Γ.P w = .ok (.value (.slice (some ⟨w.heap.size, 0, none⟩) (n + ys.length) c'))
          (w.drew.alloc (.cells (((vs.drop off).take (n * es)).toArray ++ us.toArray ++ Builtin.zeroCells zv.cells (c' - (n + ys.length))) te)) := by
        simp only [execOp, resolve, invoke, builtin, Sem.run_bind, Sem.run_pure, Result.andThen_ok, List.map_toArray, List.map_cons, List.map_nil, hvx, hvy, hrun]
      unfold Oper.wp
      rw [hop]
      have m1 : Models Γ (lo k) L H e a w.drew := m.below ((Beld.refl _ _ _).drew)
      have hzsz : zv.cells.size = es := by rw [← Array.length_toList, hzc, Nat.eq_of_beq_eq_true hz, hes]
      have m2 := (m1.alloc (lo_not k) (cs := (cs.drop off).take (n * es) ++ flatD ys ++ List.replicate ((c' - (n + ys.length)) * es) .junk)
        (vs := (vs.drop off).take (n * es) ++ us ++ (Builtin.zeroCells zv.cells (c' - (n + ys.length))).toList) te
        (RelL.append _ _ _ _ (RelL.append _ _ _ _ (RelL.take _ _ (RelL.drop _ _ (RelL.keep (w := w) (w' := w.drew) (Nat.le_refl _) (fun _ _ _ => rfl) (fun _ _ h => h) _ _ hcs) _) _) (RelL.keep (w := w) (w' := w.drew) (Nat.le_refl _) (fun _ _ _ => rfl) (fun _ _ h => h) _ _ huflat)) (junk_rel _ _ (by rw [Array.length_toList, size_zeroCells, hzsz])))
        (fun v hv => by
          simp only [List.mem_append] at hv
          rcases hv with (hv | hv) | hv
          · exact hone v (List.mem_of_mem_drop (List.mem_of_mem_take hv))
          · exact u3 v hv
          · have := zeroCells_mem hv
            rw [hzc] at this
            exact (zeroOk_spec (X := Γ.X e H) (e := e) (w := w) _ hzo).2 v this)).cast (with1_lo k)
      have harr : ((vs.drop off).take (n * es) ++ us ++ (Builtin.zeroCells zv.cells (c' - (n + ys.length))).toList).toArray = ((vs.drop off).take (n * es)).toArray ++ us.toArray ++ Builtin.zeroCells zv.cells (c' - (n + ys.length)) := by simp
      rw [harr] at m2
      refine ⟨_, _, _, _, m2.put (s := .sl k 0 (n + ys.length) c') (Nat.le_of_ble_eq_true hd) ⟨.inr rfl, hge, hcm', 0, ?_, fun _ => rfl⟩, hk2 c' hlt hge hcm'⟩
      show _ = Value.slice (some ⟨(e.bind k w.heap.size).β k, 0, none⟩) (n + ys.length) c'
      rw [show (e.bind k w.heap.size).β k = w.heap.size from if_pos rfl]
end
end Go.Proofs.Ytapciiffpnociab

/- Views of own rows: cut to rows, cleared. Condition: none. -/
namespace Go.Proofs.Ytapciiffpnociab
open Go Go.RowKit

section
variable {Γ : Ctx} {k : Nat} {L : Sl} {H H' : Hp} {Q : Post} {c : Code}

/-- A view from a row's beginning on, in a slot: a row of its own; the old one is let go. -/
theorem ent_cut {i es n : Nat} {te : TypeId} {xs : List (List D)} (t : Nat) (hL : L.get t = .rsl i es 0 n) (hH : Hp.get H i = some (.row te es xs)) (hn : n ≤ xs.length) (hD : delF H i some = some H') :
    Ent Γ k L H (k + 1) ((t, .row k) :: L) ((k, .row te es (xs.take n)) :: H') := by
  rw [delF_eq] at hD
  cases hD
  intro e a w m
  have hs := m.slot t
  rw [hL] at hs
  obtain ⟨hd, hone, hcase⟩ := hs
  have hze : ¬ e.dom k := fun h => lo_not k ((m.top k).1 h)
  obtain ⟨vs, ho, hes, hone2, hrep⟩ := (m.heap _ (Hp.mem_of hH)).2
  generalize hv : a.tmps.getD t undef = v at hone hcase
  have hηk : (e.bindRow k v).η k = v := if_pos rfl
  have hlen : (xs.take n).length = n := by rw [List.length_take]; omega
  have hown : w.ownsRow 0 te es v n (vs.take (n * es)) ∧ v.ownBlock = (e.η i).ownBlock := by
    have hvl : (vs.take (n * es)).length = n * es := by rw [List.length_take, ho.1]; exact Nat.min_eq_left (Nat.mul_le_mul_right _ hn)
    rcases hcase with ⟨hη, rfl, _, rfl⟩ | ⟨g, n0, cap, o, hη, _, hmx, hnc, rfl, hoo⟩
    · exact ⟨⟨hvl, .inl ⟨rfl, rfl⟩⟩, by rw [hη]⟩
    · have h0 := hoo (.inr rfl)
      rw [Nat.zero_mul] at h0
      subst h0
      rcases ho.2 with ⟨hη2, _⟩ | ⟨g', cap', cur, hη2, hb, hh, h1, h2, h3, h4⟩
      · rw [hη] at hη2; cases hη2
      · rw [hη] at hη2
        cases hη2
        refine ⟨⟨hvl, .inr ⟨g, cap, cur, by simp, hb, hh, by omega, h2, h3, ?_⟩⟩, by rw [hη]; rfl⟩
        rw [← h4, List.take_take, Nat.min_eq_left (Nat.mul_le_mul_right _ hn)]
  have m2 := m.trade (hb := .row te es (xs.take n)) hH (lo_not k) (e' := e.bindRow k v) (w' := w) (fun i => or_congr (m.top i) Iff.rfl) (e.bindRow_ext _ _ hze) (Nat.le_refl _) rfl rfl rfl (fun _ => Nat.le_refl _)
    (fun _ _ _ => rfl) (fun c hc => by simp only [HB.owned, hηk] at hc; exact .inl (by simp only [HB.owned]; rw [← hown.2]; exact hc)) (fun hX => by
      refine ⟨vs.take (n * es), by rw [hηk, hlen]; exact hown.1, fun j hj => ?_, fun u hu => hone2 u (List.mem_of_mem_take hu), fun j hj q hq => ?_⟩
      · rw [List.getElem_take]; exact hes j _
      · have hj' : j < n := by omega
        have hx : (xs.take n)[j] = xs[j]'(by omega) := List.getElem_take
        have hq' : q < (xs[j]'(by omega)).length := by rw [← hx]; exact hq
        obtain ⟨u, p1, p2⟩ := hrep j (by omega) q hq'
        have hqe : q < es := by rw [← hes j (by omega)]; exact hq'
        refine ⟨u, ?_, ?_⟩
        · rw [List.getElem?_take, if_pos, p1]
          have : (j + 1) * es ≤ n * es := Nat.mul_le_mul_right _ hj'
          rw [Nat.add_mul, Nat.one_mul] at this
          omega
        · have p3 : RepC (Γ.X e H) w u ((xs.take n)[j][q]) := by simpa [hx] using p2
          exact RepC.keep (Nat.le_refl _) (fun _ _ _ => rfl) hX p3)
  have m3 := m2.cast (with1_lo k)
  refine ⟨_, ⟨m3.toHeap, m3.defers, m3.len, fun t' => ?_⟩⟩
  rw [Sl.get_cons]
  split
  · rename_i ht
    subst ht
    rw [hv]
    exact ⟨.inr rfl, hηk.symm, hone⟩
  · exact m3.slot t'
end

section
variable {Γ : Ctx} {kk : Nat → Prop} {L : Sl} {H : Hp} {a : Act} {w : World} {e : Env}
theorem mid_get {α : Type} (xs ys : List α) (j p : Nat) (h : j + ys.length ≤ xs.length) : (xs.take j ++ ys ++ xs.drop (j + ys.length))[p]? = if p < j then xs[p]? else if p < j + ys.length then ys[p - j]? else xs[p]? := by
  have h1 : (xs.take j).length = j := by rw [List.length_take]; omega
  by_cases hp : p < j
  · rw [if_pos hp, List.append_assoc, List.getElem?_append_left (by omega), List.getElem?_take, if_pos hp]
  · rw [if_neg hp]
    by_cases hq : p < j + ys.length
    · rw [if_pos hq, List.append_assoc, List.getElem?_append_right (by omega), h1, List.getElem?_append_left (by omega)]
    · rw [if_neg hq, List.getElem?_append_right (by rw [List.length_append]; omega), List.length_append, h1, List.getElem?_drop]
      congr 1; omega

/-- Elements of an own row are written over. -/
theorem row_write (m : Models Γ kk L H e a w) {i es j g0 n0 cap : Nat} {tb : TypeId} {xs ys : List (List D)} {N : List Value} {cur : Array Value} (hH : Hp.get H i = some (.row tb es xs)) (hj : j + ys.length ≤ xs.length)
    (hN : N.length = ys.length * es) (hyl : ∀ p (hp : p < ys.length), (ys[p]'hp).length = es) (h1 : ∀ v ∈ N, v.oneCell' = true) (hr : ∀ p (hp : p < ys.length) q (hq : q < (ys[p]'hp).length), ∃ v, N[p * es + q]? = some v ∧ RepC (Γ.X e H) w v ((ys[p]'hp)[q]'hq))
    (hη : e.η i = .slice (some ⟨g0, 0, none⟩) n0 cap) (hg : w.heap[g0]? = some (.cells cur tb (0, 0))) :
    j * es + N.length ≤ cur.size ∧ Models Γ kk L (Hp.set H i (.row tb es (xs.take j ++ ys ++ xs.drop (j + ys.length)))) e a (w.setRow g0 (cur.toList.take (j * es) ++ N ++ cur.toList.drop (j * es + N.length)).toArray) := by
  have hmem := Hp.mem_of hH
  obtain ⟨vs, ho, hes, hone, hrep⟩ := (m.heap _ hmem).2
  rcases ho.2 with ⟨h2, _⟩ | ⟨g', cap', cur', h2, hb0, hg', hnc, hcm, hcs, htake⟩
  · rw [hη] at h2; cases h2
  rw [hη] at h2
  cases h2
  rw [hg] at hg'
  cases hg'
  have hlen : vs.length = xs.length * es := ho.1
  have hjr : j * es + N.length ≤ xs.length * es := by rw [hN, ← Nat.add_mul]; exact Nat.mul_le_mul_right _ hj
  have hcl : xs.length * es ≤ cur.size := by rw [hcs]; exact Nat.mul_le_mul_right _ hnc
  have hown : ∀ zs, HB.owned e (i, .row tb es zs) = some g0 := fun zs => by simp [HB.owned, hη, Value.ownBlock]
  have hxl : (xs.take j ++ ys ++ xs.drop (j + ys.length)).length = xs.length := by simp only [List.length_append, List.length_take, List.length_drop]; omega
  refine ⟨by omega, m.turn (b' := .row tb es (xs.take j ++ ys ++ xs.drop (j + ys.length))) hH ?_ rfl rfl rfl (fun _ => Nat.le_refl _) (fun c _ hc => setRow_other w _ c _ (fun h => hc (by rw [hown, h]))) (by rw [hown, hown]) ?_⟩
  · simp [World.setRow]
  · have hgo : (w.setRow g0 (cur.toList.take (j * es) ++ N ++ cur.toList.drop (j * es + N.length)).toArray).heap[g0]? = some (.cells (cur.toList.take (j * es) ++ N ++ cur.toList.drop (j * es + N.length)).toArray tb (0, 0)) := setRow_heap w g0 cur _ tb (0, 0) hg
    have hkeep : ∀ b, b < w.heap.size → ¬ Γ.X e H b → (w.setRow g0 (cur.toList.take (j * es) ++ N ++ cur.toList.drop (j * es + N.length)).toArray).heap[b]? = w.heap[b]? := fun b _ hb => setRow_other w _ b _ (fun h => hb (.inr (List.mem_filterMap.2 ⟨_, hmem, by rw [hown, h]⟩)))
    refine ⟨vs.take (j * es) ++ N ++ vs.drop (j * es + N.length), ⟨?_, .inr ⟨g0, cap, _, ?_, hb0, hgo, ?_, hcm, ?_, ?_⟩⟩, fun p hp => ?_, fun v hv => ?_, fun p hp q hq => ?_⟩
    · rw [hxl]; simp only [List.length_append, List.length_take, List.length_drop]; omega
    · rw [hxl]; exact hη
    · rw [hxl]; exact hnc
    · rw [← hcs]
      simp only [List.size_toArray, List.length_append, List.length_take, List.length_drop, Array.length_toList]
      omega
    · rw [hxl]
      apply List.ext_getElem?
      intro p
      rw [List.getElem?_take]
      by_cases hp' : p < xs.length * es
      · have hcv : cur.toList[p]? = vs[p]? := by rw [← htake, List.getElem?_take, if_pos hp']
        rw [if_pos hp', mid_get _ _ _ _ (by have := Array.length_toList (xs := cur); omega), mid_get _ _ _ _ (by omega), hcv]
      · rw [if_neg hp', List.getElem?_eq_none (by have : vs.length ≤ p := by omega
                                                  have h9 : (vs.take (j * es) ++ N ++ vs.drop (j * es + N.length)).length = vs.length := by simp only [List.length_append, List.length_take, List.length_drop]; omega
                                                  omega)]
    · have hgt := mid_get xs ys j p hj
      rw [List.getElem?_eq_getElem hp] at hgt
      split at hgt
      · obtain ⟨h3, h4⟩ := List.getElem?_eq_some_iff.1 hgt.symm; rw [← h4]; exact hes p h3
      · split at hgt
        · obtain ⟨h3, h4⟩ := List.getElem?_eq_some_iff.1 hgt.symm; rw [← h4]; exact hyl _ h3
        · obtain ⟨h3, h4⟩ := List.getElem?_eq_some_iff.1 hgt.symm; rw [← h4]; exact hes p h3
    · simp only [List.mem_append] at hv
      rcases hv with (hv | hv) | hv
      · exact hone v (List.mem_of_mem_take hv)
      · exact h1 v hv
      · exact hone v (List.mem_of_mem_drop hv)
    · have hgt := mid_get xs ys j p hj
      rw [List.getElem?_eq_getElem hp] at hgt
      have hpx : p < xs.length := by omega
      generalize hz : (xs.take j ++ ys ++ xs.drop (j + ys.length))[p] = z at hgt hq
      have key : ∀ {v : Value} {x : D}, RepC (Γ.X e H) w v x → RepC (Γ.X e H) (w.setRow g0 (cur.toList.take (j * es) ++ N ++ cur.toList.drop (j * es + N.length)).toArray) v x := fun h => RepC.keep (by simp [World.setRow]) hkeep (fun _ _ h => h) h
      have hle : ∀ c, p < c → q < es → p * es + q < c * es := fun c hc hqe => by
        have : (p + 1) * es ≤ c * es := Nat.mul_le_mul_right _ hc
        rw [Nat.add_mul] at this; omega
      split at hgt
      · rename_i hpj
        obtain ⟨h3, h4⟩ := List.getElem?_eq_some_iff.1 hgt.symm
        subst h4
        obtain ⟨v, p1, p2⟩ := hrep p h3 q hq
        have hqe : q < es := by rw [← hes p h3]; exact hq
        exact ⟨v, by rw [mid_get _ _ _ _ (by omega), if_pos (hle j hpj hqe)]; exact p1, key p2⟩
      · rename_i hpj
        split at hgt
        · rename_i hpy
          obtain ⟨h3, h4⟩ := List.getElem?_eq_some_iff.1 hgt.symm
          subst h4
          obtain ⟨v, p1, p2⟩ := hr (p - j) h3 q hq
          have hqe : q < es := by rw [← hyl (p - j) h3]; exact hq
          have e1 : p * es = j * es + (p - j) * es := by rw [← Nat.add_mul]; congr 1; omega
          have e2 : (p - j) * es + q < N.length := by
            rw [hN]
            have : (p - j + 1) * es ≤ ys.length * es := Nat.mul_le_mul_right _ (by omega)
            rw [Nat.add_mul] at this; omega
          exact ⟨v, by rw [mid_get _ _ _ _ (by omega), if_neg (by omega), if_pos (by omega), show p * es + q - j * es = (p - j) * es + q by omega]; exact p1, key p2⟩
        · rename_i hpy
          obtain ⟨h3, h4⟩ := List.getElem?_eq_some_iff.1 hgt.symm
          subst h4
          obtain ⟨v, p1, p2⟩ := hrep p h3 q hq
          have e1 : (j + ys.length) * es ≤ p * es := Nat.mul_le_mul_right _ (by omega)
          rw [Nat.add_mul] at e1
          exact ⟨v, by rw [mid_get _ _ _ _ (by omega), if_neg (by omega), if_neg (by omega)]; exact p1, key p2⟩
end

theorem flatten_rep {α : Type} (z : List α) : ∀ (n i j : Nat), i < n → j < z.length → (List.replicate n z).flatten[i * z.length + j]? = z[j]?
  | 0, _, _, h, _ => by omega
  | n + 1, 0, j, _, hj => by rw [List.replicate_succ, List.flatten_cons, Nat.zero_mul, Nat.zero_add, List.getElem?_append_left hj]
  | n + 1, i + 1, j, hi, hj => by
    have h1 : (i + 1) * z.length + j = z.length + (i * z.length + j) := by rw [Nat.add_mul]; omega
    rw [List.replicate_succ, List.flatten_cons, h1, List.getElem?_append_right (by omega), Nat.add_sub_cancel_left, flatten_rep z n i j (by omega) hj]
/-- Data that zero cells stand for. -/
def zeroIs : List Value → List D → Prop
  | [], [] => True
  | v :: vs, d :: ds => (cSV v = .d d ∨ (cSV v = .nils ∧ ∃ es, d = .slice es [])) ∧ zeroIs vs ds
  | _, _ => False
theorem zeroIs_spec {X : Nat → Prop} {e : Env} {w : World} : ∀ {vs : List Value} {ds : List D}, zeroIs vs ds → RelL X e w (vs.map cSV) vs → vs.length = ds.length ∧ ∀ q (hq : q < ds.length), ∃ v, vs[q]? = some v ∧ RepC X w v ds[q]
  | [], [], _, _ => ⟨rfl, fun q hq => by simp at hq⟩
  | [], _ :: _, h, _ => h.elim
  | _ :: _, [], h, _ => h.elim
  | v :: vs, d :: ds, ⟨h1, h2⟩, ⟨g1, g2⟩ => by
    obtain ⟨i1, i2⟩ := zeroIs_spec h2 g2
    refine ⟨by simp [i1], fun q hq => ?_⟩
    cases q with
    | zero =>
      refine ⟨v, rfl, ?_⟩
      rcases h1 with h1 | ⟨h1, es, h3⟩
      · rw [h1] at g1; exact g1
      · rw [h1] at g1
        have g1 : v = .slice none 0 0 := g1
        subst g1
        show RepC X w _ d
        rw [h3]; exact .nil
    | succ q =>
      obtain ⟨u, u1, u2⟩ := i2 q (by simpa using hq)
      exact ⟨u, by simpa using u1, by simpa using u2⟩
theorem zeroCells_list (z : Array Value) (n : Nat) (hz : 0 < z.size) : (Builtin.zeroCells z n).toList = (List.replicate n z.toList).flatten := by
  apply List.ext_getElem?
  intro p
  have hfl : ((List.replicate n z.toList)).flatten.length = n * z.size := by simp
  by_cases hp : p < n * z.size
  · have h1 : p / z.size < n := Nat.div_lt_of_lt_mul (by rw [Nat.mul_comm]; exact hp)
    have h2 := flatten_rep z.toList n (p / z.size) (p % z.size) h1 (by rw [Array.length_toList]; exact Nat.mod_lt _ hz)
    rw [Array.length_toList, Nat.div_add_mod'] at h2
    rw [h2]
    simp [Builtin.zeroCells, hp, getElem!_pos, Nat.mod_lt _ hz]
  · rw [List.getElem?_eq_none (by simp [Builtin.zeroCells]; omega), List.getElem?_eq_none (by omega)]

section
variable {Γ : Ctx} {k : Nat} {L : Sl} {H H' : Hp} {K : Next'} {ops : List Oper} {rest : List Oper} {t : TypeId}
theorem ds_clear (zs : List D) {tb te ty : TypeId} {pos : String} {af : Array Edge} {g : Option (Nat × Bool)} {i es j n : Nat} {xs : List (List D)} {x : Operand} (hx : opSV L x = .rsl i es j n) (hH : Hp.get H i = some (.row tb es xs)) (ht : (tiGet Γ.τ t).sh = .slice te) (hkn : (tiGet Γ.τ te).sh.known = true)
    (hz : zeroIs (tiGet Γ.τ te).zero zs) (hzok : zeroOk (tiGet Γ.τ te).zero = true) (hzl : (tiGet Γ.τ te).zero.length = es) (he : 0 < es) (hpos : 0 < n) (hjn : j + n ≤ xs.length) (hw : wantedSV ops L g = some true)
    (hS : setF H i (.row tb es (xs.take j ++ List.replicate n zs ++ xs.drop (j + n))) some = some H') (hk : DS false Γ ops rest K k L H') :
    DS false Γ ops (⟨none, .call { callee := .builtin .clear, args := #[x], argTypes := #[t] }, ty, pos, af, g⟩ :: rest) K k L H := by
  rw [setF_eq] at hS
  cases hS
  refine dl_run hw fun e a w m => ?_
  obtain ⟨inf, z, hi, hzz, hs, _, hzc⟩ := Ctx.info (Sh.known_ne hkn)
  obtain ⟨_, _, hcs⟩ := evT m hx (cSV_rsl · _ _ _ _)
  have hzsz : z.cells.size = es := by rw [← Array.length_toList, hzc, hzl]
  rcases hcs with ⟨_, _, _, rfl⟩ | ⟨g0, n0, cap, o, hη, hkc, hmx, hnc, hv, ho⟩
  · omega
  have := ho (.inl (by omega))
  subst this
  obtain ⟨vs, hown, hes', _, _⟩ := (m.heap _ (Hp.mem_of hH)).2
  rcases hown.2 with ⟨h2, _⟩ | ⟨g', cap', cur, h2, _, hg, _, _, hcsz, _⟩
  · rw [hη] at h2; cases h2
  rw [hη] at h2
  cases h2
  have hzr := zeroOk_spec (X := Γ.X e H) (e := e) (w := w) _ hzok
  obtain ⟨zl, zr⟩ := zeroIs_spec hz hzr.1
  have hN := zeroCells_list z.cells n (by omega)
  have hNl : (Builtin.zeroCells z.cells n).toList.length = n * es := by simp [Builtin.zeroCells, hzsz]
  have hyl : (List.replicate n zs).length = n := List.length_replicate
  have hone : ∀ v ∈ (Builtin.zeroCells z.cells n).toList, v.oneCell' = true := fun v hv => hzr.2 v (by rw [← hzc]; exact zeroCells_mem hv)
  obtain ⟨hfit, m2⟩ := row_write m hH (j := j) (ys := List.replicate n zs) (N := (Builtin.zeroCells z.cells n).toList) (by rw [hyl]; exact hjn) (by rw [hNl, hyl]) (fun p hp => by rw [List.getElem_replicate, ← zl, hzl]) hone (fun p hp q hq => by
    have hq' : q < zs.length := by simpa using hq
    obtain ⟨v, q1, q2⟩ := zr q hq'
    refine ⟨v, ?_, by simpa using q2⟩
    have hqe : q < es := by rw [← hzl, zl]; exact hq'
    rw [hN, ← hzsz, ← Array.length_toList, flatten_rep _ _ _ _ (by simpa using hp) (by rw [Array.length_toList, hzsz]; exact hqe), hzc]
    exact q1) hη hg
  rw [hyl] at m2
  have hst := run_storeCells_at Γ.P g0 (j * es) tb (Builtin.zeroCells z.cells n).toList 0 cur w hg (by simpa using hfit) hone
  have hrun : (execOp a.eval ⟨none, .call { callee := .builtin .clear, args := #[x], argTypes := #[t] }, ty, pos, af, g⟩).run Γ.P w = .ok (.value (.tuple #[])) (w.setRow g0 (cur.toList.take (j * es) ++ (Builtin.zeroCells z.cells n).toList ++ cur.toList.drop (j * es + (Builtin.zeroCells z.cells n).toList.length)).toArray) := by
    have hzv : (zeroValue te).run Γ.P w = .ok z w := by
      simp [zeroValue, typeInfo, hi, hzz]
    obtain ⟨n', rfl⟩ : ∃ n', n = n' + 1 := ⟨n - 1, by omega⟩
    simp only [Nat.add_zero] at hst
    simp [execOp, resolve, invoke, builtin, hv, Builtin.clear_, run_underlying (Ctx.slice ht), hzv, hst]
  unfold Oper.wp
  rw [hrun]
  exact ⟨k, L, _, e, m2, hk⟩
end

/-- append(nil, make(..)...): a new row of zero elements. -/
theorem run_append_make {P : Program} (w : World) (t ti ty e : TypeId) (i : TypeInfo) (z : Value) (ht : P.underlying t = some (.slice e)) (hti : P.underlying ti = some (.int .i64)) (hi : P.info? e = some i) (hz : i.zero = some z)
    (n : Nat) (h0 : 0 < n) (h63 : (n : Int) ≤ 9223372036854775807) (h48 : n * i.bytes ≤ 281474976710656) (hs : i.size ≠ 0) :
    (Builtin.append_ #[t, ti] ty #[.slice none 0 0, .int .i64 n]).run P w =
      .ok (.slice (some ⟨w.heap.size, 0, none⟩) n (grownCap w n 0 e)) (w.drew.alloc (.cells (Builtin.zeroCells z.cells n ++ Builtin.zeroCells z.cells (grownCap w n 0 e - n)) e)) := by
  have hn : n ≠ 0 := by omega
  have h63' : ¬ (9223372036854775807 < (n : Int)) := by omega
  have h48' : ¬ (281474976710656 < Builtin.nextslicecap n 0 * i.bytes) := by rw [nextslicecap_zero h0]; omega
  have hw : IntKind.i64.wrap (n : Int) = n := by simp [IntKind.wrap, IntKind.bits, IntKind.signed]; omega
  have hl : ¬ ((n : Int) < 0) := by omega
  have hb : ¬ (281474976710656 < (n : Int) * (i.bytes : Int)) := by
    have : ((n * i.bytes : Nat) : Int) ≤ 281474976710656 := by omega
    rw [Int.natCast_mul] at this; omega
  simp [Builtin.append_, asInt, asIntOf, run_underlying ht, run_underlying hti, sizeOf, typeInfo, zeroValue, hi, hz, hw, hl, hb, hn, h63', h48', Question.forced, run_firstCells_none, newRow, grownCap]
  intro h
  exact absurd h (Nat.mul_ne_zero hn hs)
section
variable {Γ : Ctx} {k : Nat} {L : Sl} {H : Hp} {K : Next'} {ops : List Oper} {rest : List Oper} {t : TypeId}
theorem evNils {kk : Nat → Prop} {a : Act} {w : World} {e : Env} (m : Models Γ kk L H e a w) {x : Operand} (hx : opSV L x = .nils) : a.eval x = .slice none 0 0 := by
  have hok : opOk x := by
    cases x with
    | const v => simp only [opSV] at hx; unfold cSV at hx; split at hx <;> simp_all [opOk, cOk]
    | _ => trivial
  have := m.op x hok
  rw [hx] at this; exact this
theorem ds_apmk (zs : List D) {d n es : Nat} {te ti ty : TypeId} {pos : String} {af : Array Edge} {g : Option (Nat × Bool)} {x y : Operand} {m' : Int} (hx : opSV L x = .nils) (hy : opSV L y = .d (.int .i64 m')) (hn : m' = (n : Int)) (ht : (tiGet Γ.τ t).sh = .slice te) (hti : (tiGet Γ.τ ti).sh = .int .i64)
    (hkn : (tiGet Γ.τ te).sh.known = true) (hes : (tiGet Γ.τ te).cells = es) (hz : zeroIs (tiGet Γ.τ te).zero zs) (hzok : zeroOk (tiGet Γ.τ te).zero = true) (hzl : (tiGet Γ.τ te).zero.length = es) (he : 0 < es) (h0 : 0 < n) (hroom : n * (tiGet Γ.τ te).bytes ≤ 281474976710656) (h63 : n ≤ maxLen)
    (hw : wantedSV ops L g = some true) (hd : Nat.blt d Γ.n = true) (hk : DS false Γ ops rest K (k + 1) ((d, .row k) :: L) ((k, .row te es (List.replicate n zs)) :: H)) :
    DS false Γ ops (⟨some d, .call { callee := .builtin .append, args := #[x, y], argTypes := #[t, ti] }, ty, pos, af, g⟩ :: rest) K k L H := by
  subst hn
  refine dl_run hw fun e a w m => ?_
  obtain ⟨inf, z, hi, hzz, hs, hb, hzc⟩ := Ctx.info (Sh.known_ne hkn)
  have hzsz : z.cells.size = es := by rw [← Array.length_toList, hzc, hzl]
  have hti' : Γ.P.underlying ti = some (.int .i64) := by
    have hti2 : Γ.sh ti = .int .i64 := hti
    obtain ⟨u, inf, z, h1, _, _, h4, _⟩ := ti_parts (Γ.ti (t := ti) (by rw [hti2]; intro h; cases h))
    rw [h1]
    have h5 : shOf Γ.P u = .int .i64 := h4 ▸ hti2
    cases u <;> simp [shOf] at h5 ⊢
    exact h5
  have hrun := run_append_make (P := Γ.P) w t ti ty te inf z (Ctx.slice ht) hti' hi hzz n h0 (by unfold maxLen at h63; omega) (by rw [hb]; exact hroom) (by rw [hs]; have : Γ.cells te = es := hes; omega)
  have hge := grownCap_ge w n 0 te
  have hcm := grownCap_le_maxLen w n 0 te h63
  generalize grownCap w n 0 te = c at hrun hge hcm
  have hop : (execOp a.eval ⟨some d, .call { callee := .builtin .append, args := #[x, y], argTypes := #[t, ti] }, ty, pos, af, g⟩).run Γ.P w = .ok (.value (.slice (some ⟨w.heap.size, 0, none⟩) n c)) (w.drew.alloc (.cells (Builtin.zeroCells z.cells n ++ Builtin.zeroCells z.cells (c - n)) te)) := by
    simp only [execOp, resolve, invoke, builtin, Sem.run_bind, Sem.run_pure, Result.andThen_ok, List.map_toArray, List.map_cons, List.map_nil, evNils m hx, evI m hy, hrun]
  unfold Oper.wp
  rw [hop]
  have m1 : Models Γ (lo k) L H e a w.drew := m.below ((Beld.refl _ _ _).drew)
  have hze : ¬ e.dom k := fun h => lo_not k ((m.top k).1 h)
  have hη : (e.bindRow k (.slice (some ⟨w.heap.size, 0, none⟩) n c)).η k = .slice (some ⟨w.heap.size, 0, none⟩) n c := if_pos rfl
  have hNl : (Builtin.zeroCells z.cells n).toList.length = n * es := by simp [Builtin.zeroCells, hzsz]
  have hfl := zeroCells_list z.cells n (by omega)
  have m2 := m1.new (lo_not k) (hb := .row te es (List.replicate n zs)) (e' := e.bindRow k (.slice (some ⟨w.heap.size, 0, none⟩) n c)) (w' := w.drew.alloc (.cells (Builtin.zeroCells z.cells n ++ Builtin.zeroCells z.cells (c - n)) te)) (fun i => or_congr (m.top i) Iff.rfl) (e.bindRow_ext _ _ hze) (below_alloc Γ.dr _ _)
    (fun b hb => by simp only [HB.owned, hη, Value.ownBlock, Option.some.injEq] at hb; subst hb; exact Nat.le_refl _) (fun hX => by
      have hzr := zeroOk_spec (X := Γ.X (e.bindRow k (.slice (some ⟨w.heap.size, 0, none⟩) n c)) ((k, .row te es (List.replicate n zs)) :: H)) (e := e) (w := w.drew.alloc (.cells (Builtin.zeroCells z.cells n ++ Builtin.zeroCells z.cells (c - n)) te)) _ hzok
      obtain ⟨zl, zr⟩ := zeroIs_spec hz hzr.1
      refine ⟨(Builtin.zeroCells z.cells n).toList, ⟨by rw [hNl, List.length_replicate], .inr ⟨w.heap.size, c, _, by rw [hη, List.length_replicate], Nat.zero_le _, heap_alloc_new w.drew _, by rw [List.length_replicate]; exact hge, hcm, ?_, ?_⟩⟩, fun p hp => by rw [List.getElem_replicate, ← zl, hzl], fun v hv => hzr.2 v (by rw [← hzc]; exact zeroCells_mem hv), fun p hp q hq => ?_⟩
      · simp [Builtin.zeroCells, hzsz, ← Nat.add_mul]; congr 1; omega
      · rw [List.length_replicate, Array.toList_append, List.take_append_of_le_length (by rw [hNl]; exact Nat.le_refl _), List.take_of_length_le (by rw [hNl]; exact Nat.le_refl _)]
      · have hq' : q < zs.length := by simpa using hq
        obtain ⟨v, q1, q2⟩ := zr q hq'
        refine ⟨v, ?_, by simpa using q2⟩
        have hqe : q < es := by rw [← hzl, zl]; exact hq'
        rw [hfl, ← hzsz, ← Array.length_toList, flatten_rep _ _ _ _ (by simpa using hp) (by rw [Array.length_toList, hzsz]; exact hqe), hzc]
        exact q1)
  have m3 := m2.cast (with1_lo k)
  exact ⟨k + 1, _, _, _, m3.put (s := .row k) (v := .slice (some ⟨w.heap.size, 0, none⟩) n c) (Nat.le_of_ble_eq_true hd) ⟨.inr rfl, hη.symm, rfl⟩, hk⟩
theorem ev_cap_nils {kk : Nat → Prop} {te ty : TypeId} {x : Operand} (ht : Γ.sh t = .slice te) (hx : opSV L x = .nils) : Ev Γ kk L H (.call { callee := .builtin .cap, args := #[x], argTypes := #[t] }) ty (.d (.int .i64 0)) := by
  intro e a w m
  have hv := evNils m hx
  refine ⟨.int .i64 0, fun _ _ _ _ w' _ => ?_, .int (by decide)⟩
  simp [execOp, resolve, invoke, builtin, hv, Builtin.cap_, goInt, run_underlying (Ctx.slice ht)]
end
end Go.Proofs.Ytapciiffpnociab
