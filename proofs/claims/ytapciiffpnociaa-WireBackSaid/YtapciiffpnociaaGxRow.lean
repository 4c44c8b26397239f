/- A plain logic over the walk: what comes in, read as data. No program is named here. Condition: none. -/
import Derived.Test.YtapciiffpnociaaGxDo
import Derived.ProofKit
import Derived.SizedLaws
namespace Go.Proofs.Ytapciiffpnociaa
open Go Go.RowKit

/-- What data there is in a type, in short: how many cells and bytes an element has. -/
inductive RT where
  | bool
  | int (k : IntKind)
  | str
  | slice (cells bytes : Nat) (e : RT)
  | struct (fs : List RT)

mutual
def RT.size : RT → Nat
  | .struct fs => RT.sizeL fs
  | .bool => 1
  | .int _ => 1
  | .str => 1
  | .slice _ _ _ => 1
def RT.sizeL : List RT → Nat
  | [] => 0
  | r :: rs => r.size + RT.sizeL rs
end

mutual
def rtB (P : Program) : RT → TypeId → Bool
  | .bool, t => match P.underlying t with | some .bool => true | _ => false
  | .int k, t => match P.underlying t with | some (.int k') => sameK k k' | _ => false
  | .str, t => match P.underlying t with | some .string => true | _ => false
  | .slice c b e, t => match P.underlying t with
    | some (.slice te) => Nat.beq (P.cellsOf te) c && (Nat.beq (P.bytesOf te) b && (Nat.blt 0 c && (Nat.beq e.size c && rtB P e te)))
    | _ => false
  | .struct fs, t => match P.underlying t with
    | some (.struct fl) => rtL P fs fl.toList 0 && Nat.beq (P.cellsOf t) (RT.sizeL fs)
    | _ => false
def rtL (P : Program) : List RT → List Field → Nat → Bool
  | [], [], _ => true
  | r :: rs, f :: fl, o => Nat.beq f.offset o && (Nat.beq (P.cellsOf f.type) r.size && (rtB P r f.type && rtL P rs fl (o + r.size)))
  | _, _, _ => false
end

mutual
/-- Data of a type. -/
def TyD : RT → List D → Prop
  | .bool, xs => ∃ b, xs = [.bool b]
  | .int k, xs => ∃ n, (Lit.int k n).wf = true ∧ xs = [.int k n]
  | .str, xs => ∃ s : ByteArray, s.size ≤ reachBytes ∧ xs = [.str s]
  | .slice c b e, xs => ∃ l : List (List D), l.length * b ≤ reachBytes ∧ l.length ≤ maxLen ∧ xs = [.slice c l] ∧ ∀ x ∈ l, TyD e x
  | .struct fs, xs => TyF fs xs
def TyF : List RT → List D → Prop
  | [], xs => xs = []
  | r :: rs, xs => ∃ a b, xs = a ++ b ∧ TyD r a ∧ TyF rs b
end

section
variable {H : Type} {enc : TypeId × Value → H} {P : Program} {w : World}

theorem cells?_spec {base : Nat} {a : Addr} {n : Nat} {vs : List Value} (h : w.cells? base a n = some vs) : vs.length = n ∧ ∀ j, j < n → ∃ v, vs[j]? = some v ∧ w.cell? (a.add j) = some v := by
  unfold World.cells? at h
  split at h
  · have key : ∀ (l : List Nat) (vs : List Value), (l.mapM fun i => w.cell? (a.add i)) = some vs → vs.length = l.length ∧ ∀ (j i : Nat), l[j]? = some i → ∃ v, vs[j]? = some v ∧ w.cell? (a.add i) = some v := by
      intro l
      induction l with
      | nil => intro vs h; simp at h; subst h; exact ⟨rfl, fun j i hj => by simp at hj⟩
      | cons x l ih =>
        intro vs h
        rw [List.mapM_cons] at h
        cases hx : w.cell? (a.add x) with
        | none => simp [hx] at h
        | some v =>
          cases hl : (l.mapM fun i => w.cell? (a.add i)) with
          | none => simp [hx, hl] at h
          | some us =>
            simp [hx, hl] at h
            subst h
            obtain ⟨h1, h2⟩ := ih us hl
            refine ⟨by simp [h1], fun j i hj => ?_⟩
            cases j with
            | zero => simp at hj; subst hj; exact ⟨v, rfl, hx⟩
            | succ j => simpa using h2 j i (by simpa using hj)
    obtain ⟨h1, h2⟩ := key _ _ h
    exact ⟨by simpa using h1, fun j hj => h2 j j (by simp [hj])⟩
  · cases h

theorem cell?_addr {a : Addr} {v : Value} (h : w.cell? a = some v) : a.spot = none ∧ a.block < w.heap.size := by
  unfold World.cell? at h
  split at h
  · rename_i hb
    split at h
    · cases h
    · rename_i hs
      exact ⟨by simpa using hs, (Array.getElem?_eq_some_iff.1 hb).1⟩
  · cases h

theorem addr_00 (a : Addr) : (a.add 0).add 0 = a := by simp [Go.Addr.add]

/-- Cells as data. -/
def RepL (w : World) (cs : List Value) (xs : List D) : Prop := cs.length = xs.length ∧ ∀ (j : Nat) (u : Value), cs[j]? = some u → ∃ x, xs[j]? = some x ∧ RepC (fun _ => False) w u x

theorem RepL.append {cs cs' : List Value} {xs xs' : List D} (h : RepL w cs xs) (h' : RepL w cs' xs') : RepL w (cs ++ cs') (xs ++ xs') := by
  obtain ⟨h1, h2⟩ := h
  obtain ⟨g1, g2⟩ := h'
  refine ⟨by simp [h1, g1], fun j u hj => ?_⟩
  by_cases hlt : j < cs.length
  · rw [List.getElem?_append_left hlt] at hj
    obtain ⟨x, e1, e2⟩ := h2 j u hj
    exact ⟨x, by rw [List.getElem?_append_left (by omega)]; exact e1, e2⟩
  · rw [List.getElem?_append_right (by omega)] at hj
    obtain ⟨x, e1, e2⟩ := g2 _ u hj
    exact ⟨x, by rw [List.getElem?_append_right (by omega), ← h1]; exact e1, e2⟩

theorem weightsAll_mem {e : TypeId} : ∀ {l : List (DataW H)} {d : DataW H}, d ∈ l → ∀ n ∈ d.weights P e, n ∈ DataW.weightsAll P e l
  | [], _, h, _, _ => by simp at h
  | x :: l, d, h, n, hn => by
    simp only [DataW.weightsAll, List.mem_append]
    rcases List.mem_cons.1 h with rfl | h
    · exact .inl hn
    · exact .inr (weightsAll_mem h n hn)

mutual
theorem open_rt : ∀ (r : RT) (t : TypeId) (fuel : Nat) (cs : List Value) (x : DataW H × List MemPlace), rtB P r t = true → DataW.trod enc P w 0 (fun _ => true) true fuel t cs = some x → (∀ n ∈ x.1.weights P t, n ≤ reachBytes) →
    ∃ xs, TyD r xs ∧ RepL w cs xs
  | .bool, t, fuel, cs, x, hb, h, _ => by
    have ht : P.underlying t = some .bool := by
      unfold rtB at hb; split at hb <;> first | assumption | cases hb
    obtain ⟨b, rfl, rfl⟩ := DataW.trod_bool ht h
    refine ⟨[.bool b], ⟨b, rfl⟩, rfl, fun j u hj => ?_⟩
    cases j with
    | zero => simp at hj; subst hj; exact ⟨_, rfl, .bool⟩
    | succ j => simp at hj
  | .int k, t, fuel, cs, x, hb, h, _ => by
    have ht : P.underlying t = some (.int k) := by
      unfold rtB at hb
      split at hb
      · rename_i k' hk; rw [hk, sameK_spec hb]
      · cases hb
    obtain ⟨n, rfl, rfl, hw⟩ := DataW.trod_int ht h
    refine ⟨[.int k n], ⟨n, hw, rfl⟩, rfl, fun j u hj => ?_⟩
    cases j with
    | zero => simp at hj; subst hj; exact ⟨_, rfl, .int hw⟩
    | succ j => simp at hj
  | .str, t, fuel, cs, x, hb, h, hw => by
    have ht : P.underlying t = some .string := by
      unfold rtB at hb; split at hb <;> first | assumption | cases hb
    obtain ⟨s, rfl, rfl, hs⟩ := DataW.trod_string ht h
    have hr : s.size ≤ reachBytes := by
      have := hw s.data.toList.length (by simp [DataW.weights])
      simpa using this
    refine ⟨[.str s], ⟨s, hr, rfl⟩, rfl, fun j u hj => ?_⟩
    cases j with
    | zero => simp at hj; subst hj; exact ⟨_, rfl, .str hs⟩
    | succ j => simp at hj
  | .slice c b e, t, fuel, cs, x, hb, h, hw => by
    obtain ⟨te, ht, hc, hby, hpos, hes, hre⟩ : ∃ te, P.underlying t = some (.slice te) ∧ P.cellsOf te = c ∧ P.bytesOf te = b ∧ 0 < c ∧ e.size = c ∧ rtB P e te = true := by
      unfold rtB at hb
      split at hb
      · rename_i te ht
        simp only [Bool.and_eq_true] at hb
        exact ⟨te, ht, Nat.eq_of_beq_eq_true hb.1, Nat.eq_of_beq_eq_true hb.2.1, Nat.le_of_ble_eq_true hb.2.2.1, Nat.eq_of_beq_eq_true hb.2.2.2.1, hb.2.2.2.2⟩
      · cases hb
    rcases DataW.trod_slice ht h with ⟨rfl, rfl⟩ | ⟨a, len, cap, elems, rest, n, _, rfl, rfl, _, hlc, hcm, hlen, hel, hsp, _⟩
    · refine ⟨[.slice c []], ⟨[], by simp, by simp, rfl, by simp⟩, rfl, fun j u hj => ?_⟩
      cases j with
      | zero => simp at hj; subst hj; exact ⟨_, rfl, .nil⟩
      | succ j => simp at hj
    · obtain ⟨hrl, hrest⟩ := hsp rfl
      have hcell0 : ∀ i, i < cap → ∃ ci y, w.cells? 0 (a.add (i * c)) c = some ci ∧ DataW.trod enc P w 0 (fun _ => true) true n te ci = some y ∧ (∀ hi : i < len, elems[i]? = some y) := by
        intro i hi
        by_cases hil : i < len
        · have h1 := hel i hil
          have h2 : elems[i]? = some (elems[i]'(by omega)) := List.getElem?_eq_getElem (by omega)
          rw [hc, h2, Option.bind_eq_some_iff] at h1
          obtain ⟨ci, g1, g2⟩ := h1
          exact ⟨ci, _, g1, g2, fun _ => h2⟩
        · have h1 := hrest (i - len) (by omega)
          have h2 : rest[i - len]? = some (rest[i - len]'(by omega)) := List.getElem?_eq_getElem (by omega)
          rw [show len + (i - len) = i by omega, hc, h2, Option.bind_eq_some_iff] at h1
          obtain ⟨ci, g1, g2⟩ := h1
          exact ⟨ci, _, g1, g2, fun h => absurd h hil⟩
      have hlist : ∀ m, m ≤ len → ∃ l : List (List D), l.length = m ∧ (∀ x ∈ l, TyD e x) ∧ ∀ i (hi : i < m), ∃ ci xi, w.cells? 0 (a.add (i * c)) c = some ci ∧ l[i]? = some xi ∧ RepL w ci xi := by
        intro m
        induction m with
        | zero => intro _; exact ⟨[], rfl, by simp, fun i hi => by omega⟩
        | succ m ih =>
          intro hm
          obtain ⟨l, l1, l2, l3⟩ := ih (by omega)
          obtain ⟨ci, y, g1, g2, g3⟩ := hcell0 m (by omega)
          have hy := g3 (by omega)
          have hmem : y.1 ∈ elems.map (·.1) := List.mem_map.2 ⟨y, List.mem_of_getElem? hy, rfl⟩
          obtain ⟨xi, t1, t2⟩ := open_rt e te n ci y hre g2 fun k hk => hw k (by
            simp only [DataW.weights, ht, List.mem_cons, List.mem_append]
            exact .inr (.inl (weightsAll_mem hmem k hk)))
          refine ⟨l ++ [xi], by simp [l1], fun x hx => ?_, fun i hi => ?_⟩
          · rcases List.mem_append.1 hx with hx | hx
            · exact l2 x hx
            · simp at hx; subst hx; exact t1
          · by_cases him : i < m
            · obtain ⟨ci', xi', q1, q2, q3⟩ := l3 i him
              exact ⟨ci', xi', q1, by rw [List.getElem?_append_left (by omega)]; exact q2, q3⟩
            · have : i = m := by omega
              subst this
              exact ⟨ci, xi, g1, by rw [List.getElem?_append_right (by omega), l1]; simp, t2⟩
      obtain ⟨l, l1, l2, l3⟩ := hlist len (Nat.le_refl _)
      have hwt : l.length * b ≤ reachBytes := by
        have := hw ((elems.length + rest.length) * P.bytesOf te) (by
          simp only [DataW.weights, ht, List.length_map, List.mem_cons, true_or])
        rw [hby] at this
        refine Nat.le_trans (Nat.mul_le_mul_right b ?_) this
        omega
      refine ⟨[.slice c l], ⟨l, hwt, by omega, rfl, l2⟩, rfl, fun j u hj => ?_⟩
      cases j with
      | succ j => simp at hj
      | zero =>
        simp at hj
        subst hj
        refine ⟨_, rfl, ?_⟩
        by_cases hcap : cap = 0
        · have h0 : len = 0 := by omega
          subst hcap; subst h0
          have : l = [] := List.eq_nil_of_length_eq_zero l1
          subst this
          exact .zero
        · obtain ⟨c0, y0, g1, _, _⟩ := hcell0 0 (by omega)
          obtain ⟨v0, _, hv0⟩ := (cells?_spec g1).2 0 hpos
          rw [Nat.zero_mul, addr_00] at hv0
          obtain ⟨s5, s2⟩ := cell?_addr hv0
          obtain ⟨ab, ao, asp⟩ := a
          simp only at s5 s2
          subst s5
          have hl3 : ∀ i (hi : i < l.length), (l[i]'hi).length = c ∧ ∀ j (hj : j < (l[i]'hi).length), ∃ v, w.cell? ⟨ab, ao + i * c + j, none⟩ = some v ∧ RepC (fun _ => False) w v ((l[i]'hi)[j]'hj) := by
            intro i hi
            obtain ⟨ci, xi, q1, q2, q3, q4⟩ := l3 i (by omega)
            have hxi : l[i]'hi = xi := by rw [List.getElem?_eq_getElem hi] at q2; exact Option.some.inj q2
            subst hxi
            obtain ⟨r1, r2⟩ := cells?_spec q1
            refine ⟨by omega, fun j hj => ?_⟩
            obtain ⟨v, v1, v2⟩ := r2 j (by omega)
            obtain ⟨xx, x1, x2⟩ := q4 j v v1
            rw [Addr.add_at, Addr.add_at] at v2
            have hxx : (l[i]'hi)[j]'hj = xx := by rw [List.getElem?_eq_getElem hj] at x1; exact Option.some.inj x1
            exact ⟨v, v2, hxx ▸ x2⟩
          refine .slice (fun i j => (w.cell? ⟨ab, ao + i * c + j, none⟩).getD undef) l1.symm hlc hcm (fun h => h) s2 (fun i hi => (hl3 i hi).1) (fun i hi j hj => ?_) (fun i hi j hj => ?_)
          · obtain ⟨v, v1, _⟩ := (hl3 i hi).2 j hj
            rw [v1]; rfl
          · obtain ⟨v, v1, v2⟩ := (hl3 i hi).2 j hj
            rw [v1]; exact v2
  | .struct fs, t, fuel, cs, x, hb, h, hw => by
    obtain ⟨fl, ht, hf, hc⟩ : ∃ fl, P.underlying t = some (.struct fl) ∧ rtL P fs fl.toList 0 = true ∧ P.cellsOf t = RT.sizeL fs := by
      unfold rtB at hb
      split at hb
      · rename_i fl ht
        simp only [Bool.and_eq_true] at hb
        exact ⟨fl, ht, hb.1, Nat.eq_of_beq_eq_true hb.2⟩
      · cases hb
    obtain ⟨xs, n, _, rfl, hcl, hxl, hx⟩ := DataW.trod_struct ht h
    obtain ⟨ys, y1, y2⟩ := open_rts fs fl.toList 0 n cs xs hf (fun i f hi => hx i f (by simpa using hi)) (by simpa using hxl) (by rw [hcl, hc]; omega) (fun k hk => hw k (by
      simp only [DataW.weights, ht]; exact hk))
    exact ⟨ys, y1, by simpa using y2⟩
theorem open_rts : ∀ (rs : List RT) (fl : List Field) (o n : Nat) (cs : List Value) (xs : List (DataW H × List MemPlace)), rtL P rs fl o = true →
    (∀ (i : Nat) (f : Field), fl[i]? = some f → DataW.trod enc P w 0 (fun _ => true) true n f.type ((cs.drop f.offset).take (P.cellsOf f.type)) = xs[i]?) → xs.length = fl.length → cs.length = o + RT.sizeL rs →
    (∀ k ∈ DataW.weightsEach P (fl.map (·.type)) (xs.map (·.1)), k ≤ reachBytes) → ∃ ys, TyF rs ys ∧ RepL w (cs.drop o) ys
  | [], fl, o, n, cs, xs, hb, _, _, hl, _ => by
    refine ⟨[], rfl, ?_, fun j u hj => ?_⟩
    · simp [RT.sizeL] at hl ⊢; omega
    · rw [List.drop_eq_nil_of_le (by simp [RT.sizeL] at hl; omega)] at hj; simp at hj
  | r :: rs, [], o, n, cs, xs, hb, _, _, _, _ => by simp [rtL] at hb
  | r :: rs, f :: fl, o, n, cs, xs, hb, hx, hxl, hl, hw => by
    simp only [rtL, Bool.and_eq_true] at hb
    obtain ⟨b1, b2, b3, b4⟩ := hb
    have b1 := Nat.eq_of_beq_eq_true b1
    have b2 := Nat.eq_of_beq_eq_true b2
    cases xs with
    | nil => simp at hxl
    | cons y ys =>
      have h0 := hx 0 f rfl
      simp only [List.getElem?_cons_zero] at h0
      rw [b1, b2] at h0
      simp only [RT.sizeL] at hl
      obtain ⟨as, a1, a2⟩ := open_rt r f.type n _ y b3 h0 fun k hk => hw k (by
        simp only [List.map_cons, DataW.weightsEach, List.mem_append]
        exact .inl hk)
      obtain ⟨bs, c1, c2⟩ := open_rts rs fl (o + r.size) n cs ys b4 (fun i g hi => by simpa using hx (i + 1) g (by simpa using hi)) (by simpa using hxl) (by omega) (fun k hk => hw k (by
        simp only [List.map_cons, DataW.weightsEach, List.mem_append]
        exact .inr hk))
      refine ⟨as ++ bs, ⟨as, bs, rfl, a1, c1⟩, ?_⟩
      have := a2.append c2
      have hd : (cs.drop o).take r.size ++ cs.drop (o + r.size) = cs.drop o := by
        rw [← List.drop_drop]
        exact List.take_append_drop _ _
      rw [hd] at this
      exact this
end
end
end Go.Proofs.Ytapciiffpnociaa
