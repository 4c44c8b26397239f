/- A plain logic over the walk: structs and slices that are built, appended to. No program is named here. Condition: none. -/
import Derived.Test.YtapciiffpnociaaGxSto
namespace Go.Proofs.Ytapciiffpnociaa
open Go Go.RowKit

theorem foldl_splice : ∀ (vs : List Value) (o j : Nat) (cs : Array Value), o + j + vs.length ≤ cs.size →
    ((vs.zipIdx j).foldl (fun (cs : Array Value) (p : Value × Nat) => cs.setIfInBounds (o + p.2) p.1) cs).toList = cs.toList.take (o + j) ++ vs ++ cs.toList.drop (o + j + vs.length)
  | [], o, j, cs, _ => by simp
  | v :: vs, o, j, cs, h => by
    have h' : o + (j + 1) + vs.length ≤ (cs.setIfInBounds (o + j) v).size := by simp at h ⊢; omega
    rw [List.zipIdx_cons, List.foldl_cons, foldl_splice vs o (j + 1) _ h']
    have hlt : o + j < cs.toList.length := by simp at h ⊢; omega
    simp only [Array.toList_setIfInBounds]
    have e1 : (cs.toList.set (o + j) v).take (o + (j + 1)) = cs.toList.take (o + j) ++ [v] := by
      rw [show o + (j + 1) = (o + j) + 1 by omega, List.take_succ_eq_append_getElem (by simpa using hlt)]
      simp only [List.take_set, List.getElem_set_self]
      rw [List.set_eq_of_length_le (by simp; omega)]
    have e2 : (cs.toList.set (o + j) v).drop (o + (j + 1) + vs.length) = cs.toList.drop (o + j + (v :: vs).length) := by
      rw [List.drop_set_of_lt (by omega)]
      congr 1
      simp; omega
    rw [e1, e2]
    simp

def fillSV (place : Nat → Option (Nat × Nat)) (cs : List SV) : List (Nat × SV) → Option (List SV)
  | [] => some cs
  | (i, s) :: rest => match place i with
    | none => none
    | some (off, size) => match Nat.beq s.cells.length size && (s.isVar && Nat.ble (off + size) cs.length) with
      | true => fillSV place (splice cs off s.cells) rest
      | false => none

def PartsRel (X : Nat → Prop) (e : Env) (w : World) : List (Nat × SV) → List (Nat × Value) → Prop
  | [], [] => True
  | (i, s) :: ps, (j, v) :: qs => i = j ∧ Rel X e w s v ∧ PartsRel X e w ps qs
  | _, _ => False

theorem fill_rel {X e w} {place : Nat → Option (Nat × Nat)} : ∀ (ps : List (Nat × SV)) (qs : List (Nat × Value)) (cs : List SV) (vs : Array Value) (cs' : List SV), PartsRel X e w ps qs → RelL X e w cs vs.toList → (∀ v ∈ vs.toList, v.oneCell' = true) → fillSV place cs ps = some cs' →
    ∃ vs' : Array Value, Instr.fill place vs qs = some vs' ∧ RelL X e w cs' vs'.toList ∧ ∀ v ∈ vs'.toList, v.oneCell' = true
  | [], [], cs, vs, cs', _, h, h1, hf => by simp only [fillSV, Option.some.injEq] at hf; subst hf; exact ⟨vs, rfl, h, h1⟩
  | [], _ :: _, _, _, _, h, _, _, _ => h.elim
  | _ :: _, [], _, _, _, h, _, _, _ => h.elim
  | (i, s) :: ps, (j, v) :: qs, cs, vs, cs', ⟨hij, hr, hps⟩, h, h1, hf => by
    subst hij
    simp only [fillSV] at hf
    cases hp : place i with
    | none => simp [hp] at hf
    | some q =>
      obtain ⟨off, size⟩ := q
      simp only [hp] at hf
      cases hc : (Nat.beq s.cells.length size && (s.isVar && Nat.ble (off + size) cs.length)) with
      | false => rw [hc] at hf; cases hf
      | true =>
        rw [hc] at hf
        simp only [Bool.and_eq_true] at hc
        obtain ⟨c1, c2, c3⟩ := hc
        have c1 := Nat.eq_of_beq_eq_true c1
        have c3 := Nat.le_of_ble_eq_true c3
        obtain ⟨g1, g2⟩ := cells_spec c2 hr
        have hl := RelL.length _ _ g1
        have hl2 := RelL.length _ _ h
        have hsz : v.cells.size = size := by rw [← Array.length_toList, ← hl, c1]
        have hsz2 : off + v.cells.size ≤ vs.size := by rw [hsz, ← Array.length_toList, ← hl2]; exact c3
        simp only [Instr.fill, hp]
        rw [if_neg (by simp; omega)]
        have hfold := foldl_splice v.cells.toList off 0 vs (by simpa using hsz2)
        have hsame : (v.cells.zipIdx.foldl (fun (cs : Array Value) (x : Value × Nat) => cs.setIfInBounds (off + x.2) x.1) vs) = ((v.cells.toList.zipIdx 0).foldl (fun (cs : Array Value) (p : Value × Nat) => cs.setIfInBounds (off + p.2) p.1) vs) := by
          rw [← Array.foldl_toList, Array.toList_zipIdx]
        refine fill_rel ps qs (splice cs off s.cells) _ cs' hps ?_ ?_ hf
        · show RelL X e w _ (v.cells.zipIdx.foldl (fun (cs : Array Value) (x : Value × Nat) => cs.setIfInBounds (off + x.2) x.1) vs).toList
          rw [hsame, hfold]
          unfold splice
          rw [hl]
          simp only [Nat.add_zero]
          exact RelL.append _ _ _ _ (RelL.append _ _ _ _ (RelL.take _ _ h off) g1) (RelL.drop _ _ h _)
        · show ∀ u ∈ (v.cells.zipIdx.foldl (fun (cs : Array Value) (x : Value × Nat) => cs.setIfInBounds (off + x.2) x.1) vs).toList, u.oneCell' = true
          rw [hsame, hfold]
          intro u hu
          simp only [List.mem_append] at hu
          rcases hu with (hu | hu) | hu
          · exact h1 u (List.mem_of_mem_take hu)
          · exact g2 u hu
          · exact h1 u (List.mem_of_mem_drop hu)

def partsSV (L : Sl) : List (Nat × Operand) → List (Nat × SV)
  | [] => []
  | (i, x) :: ps => (i, opSV L x) :: partsSV L ps
def partsOk : List (Nat × Operand) → Bool
  | [] => true
  | (_, x) :: ps => opOkB x && partsOk ps

section
variable {Γ : Ctx} {k : Nat → Prop} {L : Sl} {H : Hp} {K : Next'} {ops : List Oper} {rest : List Oper} {a : Act} {w : World} {e : Env} {t t' ty : TypeId} {x y : Operand}

theorem partsSV_rel (m : Models Γ k L H e a w) : ∀ (ps : List (Nat × Operand)), partsOk ps = true → PartsRel (Γ.X e H) e w (partsSV L ps) (ps.map fun p => (p.1, a.eval p.2))
  | [], _ => trivial
  | (i, x) :: ps, h => by
    simp only [partsOk, Bool.and_eq_true] at h
    exact ⟨rfl, m.op x (opOkB_spec h.1), partsSV_rel m ps h.2⟩

def structPlace (l : List (Nat × TypeId × Nat)) (i : Nat) : Option (Nat × Nat) := match l[i]? with
  | some (off, _, sz) => some (off, sz)
  | none => none

/-- Every field's type is known. -/
def fieldsKnown (τ : List (Nat × TI)) : List (Nat × TypeId × Nat) → Bool
  | [] => true
  | (_, ft, sz) :: l => (tiGet τ ft).sh.known && (Nat.beq (tiGet τ ft).cells sz && fieldsKnown τ l)

theorem ev_build {te : TypeId} {ps : List (Nat × Operand)} {l} {cs cs' : List SV} (ht : Γ.sh te = .struct l) (hk : fieldsKnown Γ.τ l = true) (hz : zeroOk (tiGet Γ.τ te).zero = true) (hcs : zeroSV Γ.τ te = cs) (hok : partsOk ps = true)
    (hf : fillSV (structPlace l) cs (partsSV L ps) = some cs') : Ev Γ k L H (.build te ps.toArray) ty (.agg cs') := by
  intro e a w m
  have ho : Γ.sh te ≠ .other := by rw [ht]; intro h; cases h
  obtain ⟨inf, z, hi, hzz, hs, hb, hzc⟩ := Ctx.info ho
  obtain ⟨fs, hu, hl⟩ := Ctx.struct ht
  obtain ⟨g1, g2⟩ := zeroOk_spec (X := Γ.X e H) (e := e) (w := w) _ hz
  rw [← hzc] at g1 g2
  have hcs' : cs = z.cells.toList.map cSV := by rw [← hcs, zeroSV, hzc]
  rw [← hcs'] at g1
  obtain ⟨vs', f1, f2, f3⟩ := fill_rel _ _ cs z.cells cs' (partsSV_rel m ps hok) g1 g2 hf
  have hmap : ∀ (w' : World), (fs.mapM fun f => (do pure (f.offset, ← sizeOf f.type) : Sem (Nat × Nat))).run Γ.P w' = .ok (l.map fun q => (q.1, q.2.2)).toArray w' := by
    intro w'
    have key : ∀ (gs : List Field), (∀ f ∈ gs, ∃ inf, Γ.P.info? f.type = some inf) → (gs.mapM fun f => (do pure (f.offset, ← sizeOf f.type) : Sem (Nat × Nat))).run Γ.P w' = .ok (gs.map fun f => (f.offset, ((Γ.P.info? f.type).map (·.size)).getD 0)) w' := by
      intro gs
      induction gs with
      | nil => intro _; simp
      | cons f gs ih =>
        intro hg
        obtain ⟨inf, hinf⟩ := hg f (List.mem_cons_self ..)
        rw [List.mapM_cons]
        simp only [Sem.run_bind, run_sizeOf hinf, Result.andThen_ok, Sem.run_pure, ih fun f hf => hg f (List.mem_cons_of_mem _ hf), List.map_cons, hinf, Option.map_some, Option.getD_some]
    have hall : ∀ f ∈ fs.toList, ∃ inf, Γ.P.info? f.type = some inf := by
      subst hl
      have : ∀ (gs : List Field), fieldsKnown Γ.τ (gs.map fun f => (f.offset, f.type, ((Γ.P.info? f.type).map (·.size)).getD 0)) = true → ∀ f ∈ gs, ∃ inf, Γ.P.info? f.type = some inf := by
        intro gs
        induction gs with
        | nil => intro _ f hf; simp at hf
        | cons g gs ih =>
          intro h f hf
          simp only [List.map_cons, fieldsKnown, Bool.and_eq_true] at h
          rcases List.mem_cons.1 hf with rfl | hf
          · obtain ⟨inf, _, h1, _⟩ := Ctx.info (Γ := Γ) (t := f.type) (Sh.known_ne h.1)
            exact ⟨inf, h1⟩
          · exact ih h.2.2 f hf
      exact this _ hk
    rw [Array.mapM_eq_mapM_toList, map_eq_pure_bind]
    simp only [Sem.run_bind, Sem.run_pure, key _ hall, Result.andThen_ok]
    subst hl
    simp [Function.comp_def]
  refine ⟨.agg vs', fun _ _ _ _ w' _ => ?_, ⟨vs'.toList, by simp, f2⟩⟩
  have hplace : Instr.fill (fun x => Option.map (fun q : Nat × TypeId × Nat => (q.1, q.2.2)) l[x]?) z.cells (List.map (fun x => (x.1, a.eval x.2)) ps) = some vs' := by
    rw [← f1]
    congr 1
    funext i
    simp only [structPlace]
    cases l[i]? with
    | none => rfl
    | some q => obtain ⟨o1, t1, s1⟩ := q; rfl
  have hm := hmap w'
  simp only [execOp, Instr.build]
  simp [zeroValue, typeInfo, hi, hzz, run_underlying hu] at hm ⊢
  rw [hm]
  simp only [Result.andThen_ok, List.getElem?_toArray, List.getElem?_map, hplace]
  simp

theorem sliceAddr {X w n cap es} {ad : Addr} {xs : List (List D)} (h : RepC X w (.slice (some ad) n cap) (.slice es xs)) : n = xs.length ∧ (∀ i (hi : i < xs.length), (xs[i]'hi).length = es) ∧
    ∃ vs : List Value, vs.length = n * es ∧ (∀ j u, vs[j]? = some u → w.cell? (ad.add j) = some u) ∧ (∀ u ∈ vs, u.oneCell' = true) ∧
      ∀ i (hi : i < xs.length) j (hj : j < (xs[i]'hi).length), ∃ v, vs[i * es + j]? = some v ∧ RepC X w v ((xs[i]'hi)[j]'hj) := by
  cases h with
  | zero => exact ⟨rfl, by simp, [], by simp, by simp, by simp, by simp⟩
  | @slice b off _ _ _ _ c hn hc hm hX hb he hcell hrep =>
    subst hn
    have key : ∀ m, m ≤ xs.length → ∃ vs : List Value, vs.length = m * es ∧ (∀ j u, vs[j]? = some u → w.cell? ((⟨b, off, none⟩ : Addr).add j) = some u) ∧ (∀ u ∈ vs, u.oneCell' = true) ∧
        ∀ i (hi : i < xs.length), i < m → ∀ j (hj : j < (xs[i]'hi).length), ∃ v, vs[i * es + j]? = some v ∧ RepC X w v ((xs[i]'hi)[j]'hj) := by
      intro m
      induction m with
      | zero => intro _; exact ⟨[], by simp, by simp, by simp, fun i _ h => by omega⟩
      | succ m ih =>
        intro hm'
        obtain ⟨vs, h1, h2, h3, h4⟩ := ih (by omega)
        have hlt : m < xs.length := by omega
        refine ⟨vs ++ (List.range es).map (c m), by simp [h1, Nat.add_mul], ?_, ?_, ?_⟩
        · intro j u hj
          by_cases hjl : j < vs.length
          · rw [List.getElem?_append_left hjl] at hj; exact h2 j u hj
          · rw [List.getElem?_append_right (by omega)] at hj
            have hjr : j - vs.length < es := by
              rcases Nat.lt_or_ge (j - vs.length) es with h | h
              · exact h
              · rw [List.getElem?_eq_none (by simpa using h)] at hj; cases hj
            rw [List.getElem?_map, List.getElem?_range hjr] at hj
            simp only [Option.map_some, Option.some.injEq] at hj
            have := hcell m hlt (j - vs.length) (by rw [he m hlt]; exact hjr)
            rw [Addr.add_at, ← hj, ← this]
            congr 2
            omega
        · intro u hu
          rcases List.mem_append.1 hu with hu | hu
          · exact h3 u hu
          · obtain ⟨q, hq, rfl⟩ := List.mem_map.1 hu
            exact (RepC.one (hrep m hlt q (by rw [he m hlt]; exact List.mem_range.1 hq))).1
        · intro i hi him j hj
          have hjes : j < es := by rw [← he i hi]; exact hj
          by_cases him' : i < m
          · obtain ⟨v, g1, g2⟩ := h4 i hi him' j hj
            refine ⟨v, ?_, g2⟩
            rw [List.getElem?_append_left]
            · exact g1
            · exact (List.getElem?_eq_some_iff.1 g1).1
          · have : i = m := by omega
            subst this
            refine ⟨c i j, ?_, hrep i hi j hj⟩
            rw [List.getElem?_append_right (by omega), show i * es + j - vs.length = j by omega, List.getElem?_map, List.getElem?_range hjes]
            rfl
    obtain ⟨vs, h1, h2, h3, h4⟩ := key xs.length (Nat.le_refl _)
    exact ⟨rfl, he, vs, h1, h2, h3, fun i hi => h4 i hi hi⟩

theorem rows_append {X w es} {xs ys : List (List D)} {vs us : List Value} (hx : ∀ i (h : i < xs.length), (xs[i]'h).length = es) (hy : ∀ i (h : i < ys.length), (ys[i]'h).length = es) (hl : vs.length = xs.length * es)
    (h1 : ∀ i (h : i < xs.length) j (hj : j < (xs[i]'h).length), ∃ v, vs[i * es + j]? = some v ∧ RepC X w v ((xs[i]'h)[j]'hj))
    (h2 : ∀ i (h : i < ys.length) j (hj : j < (ys[i]'h).length), ∃ v, us[i * es + j]? = some v ∧ RepC X w v ((ys[i]'h)[j]'hj)) :
    (∀ i (h : i < (xs ++ ys).length), ((xs ++ ys)[i]'h).length = es) ∧ ∀ i (h : i < (xs ++ ys).length) j (hj : j < ((xs ++ ys)[i]'h).length), ∃ v, (vs ++ us)[i * es + j]? = some v ∧ RepC X w v (((xs ++ ys)[i]'h)[j]'hj) := by
  refine ⟨fun i h => ?_, fun i h j hj => ?_⟩
  · rw [List.getElem_append]
    split
    · exact hx i _
    · exact hy _ _
  · by_cases hi : i < xs.length
    · have e1 : (xs ++ ys)[i]'h = xs[i]'hi := List.getElem_append_left hi
      have hj' : j < (xs[i]'hi).length := by rw [← e1]; exact hj
      obtain ⟨v, g1, g2⟩ := h1 i hi j hj'
      refine ⟨v, ?_, ?_⟩
      · rw [List.getElem?_append_left (List.getElem?_eq_some_iff.1 g1).1]; exact g1
      · simp only [e1]; exact g2
    · have hi2 : i - xs.length < ys.length := by simp at h; omega
      have e1 : (xs ++ ys)[i]'h = ys[i - xs.length]'hi2 := List.getElem_append_right (by omega)
      have hj' : j < (ys[i - xs.length]'hi2).length := by rw [← e1]; exact hj
      obtain ⟨v, g1, g2⟩ := h2 (i - xs.length) hi2 j hj'
      have hmul : xs.length * es ≤ i * es := Nat.mul_le_mul_right _ (by omega)
      refine ⟨v, ?_, ?_⟩
      · rw [List.getElem?_append_right (by omega), hl, show i * es + j - xs.length * es = (i - xs.length) * es + j by rw [Nat.sub_mul]; omega]; exact g1
      · simp only [e1]; exact g2
end
end Go.Proofs.Ytapciiffpnociaa
