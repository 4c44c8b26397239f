/- Several texts in one: GxVew RelK RelU RuP RuA. Condition: none. -/
import Derived.Test.YtapciiffpnociacGreatB12
import Derived.Test.YtapciiffpnociacGreatB09
import Derived.Test.YtapciiffpnociacGreatB11

/- Views of own rows: cut to rows, cleared. Condition: none. -/
namespace Go.Proofs.YtapciiffpnociacGreat
open Go Go.RowKit
section
variable {Γ : Ctx} {k : Nat} {L : Sl} {H H' : Hp} {Q : Post} {c : Code}
theorem ent_cut {i es n : Nat} {te : TypeId} {xs : List (List D)} (t : Nat) (hL : L.get t = .rsl i es 0 n) (hH : Hp.get H i = some (.row te es xs)) (hn : n ≤ xs.length) (hD : delF H i some = some H') :
    Ent Γ k L H (k + 1) ((t, .row k) :: L) ((k, .row te es (xs.take n)) :: H') := by
  rw [delF_eq] at hD
  cases hD
  intro e a w m
  have hs := m.slot t
  rw [hL] at hs
  obtain ⟨hd, hone, hcase⟩ := hs
  have hze : ¬ e.dom k := fun h => lo_not k ((m.top k).1 h)
  obtain ⟨vs, ho, hes, hone2, hrep⟩ := (m.heap _ (Hp.mem_of hH)).2
  generalize hv : a.tmps.getD t undef = v at hone hcase
  have hηk : (e.bindRow k v).η k = v := if_pos rfl
  have hlen : (xs.take n).length = n := by rw [List.length_take]; omega
  have hown : w.ownsRow 0 te es v n (vs.take (n * es)) ∧ v.ownBlock = (e.η i).ownBlock := by
    have hvl : (vs.take (n * es)).length = n * es := by rw [List.length_take, ho.1]; exact Nat.min_eq_left (Nat.mul_le_mul_right _ hn)
    rcases hcase with ⟨hη, rfl, _, rfl⟩ | ⟨g, n0, cap, o, hη, _, hmx, hnc, rfl, hoo⟩
    · exact ⟨⟨hvl, .inl ⟨rfl, rfl⟩⟩, by rw [hη]⟩
    · have h0 := hoo (.inr rfl)
      rw [Nat.zero_mul] at h0
      subst h0
      rcases ho.2 with ⟨hη2, _⟩ | ⟨g', cap', cur, hη2, hb, hh, h1, h2, h3, h4⟩
      · rw [hη] at hη2; cases hη2
      · rw [hη] at hη2
        cases hη2
        refine ⟨⟨hvl, .inr ⟨g, cap, cur, by simp, hb, hh, by omega, h2, h3, ?_⟩⟩, by rw [hη]; rfl⟩
        rw [← h4, List.take_take, Nat.min_eq_left (Nat.mul_le_mul_right _ hn)]
  have m2 := m.trade (hb := .row te es (xs.take n)) hH (lo_not k) (e' := e.bindRow k v) (w' := w) (fun i => or_congr (m.top i) Iff.rfl) (e.bindRow_ext _ _ hze) (Nat.le_refl _) rfl rfl rfl (fun _ => Nat.le_refl _)
    (fun _ _ _ => rfl) (fun c hc => by simp only [HB.owned, hηk] at hc; exact .inl (by simp only [HB.owned]; rw [← hown.2]; exact hc)) (fun hX => by
      refine ⟨vs.take (n * es), by rw [hηk, hlen]; exact hown.1, fun j hj => ?_, fun u hu => hone2 u (List.mem_of_mem_take hu), fun j hj q hq => ?_⟩
      · rw [List.getElem_take]; exact hes j _
      · have hj' : j < n := by omega
        have hx : (xs.take n)[j] = xs[j]'(by omega) := List.getElem_take
        have hq' : q < (xs[j]'(by omega)).length := by rw [← hx]; exact hq
        obtain ⟨u, p1, p2⟩ := hrep j (by omega) q hq'
        have hqe : q < es := by rw [← hes j (by omega)]; exact hq'
        refine ⟨u, ?_, ?_⟩
        · rw [List.getElem?_take, if_pos, p1]
          have : (j + 1) * es ≤ n * es := Nat.mul_le_mul_right _ hj'
          rw [Nat.add_mul, Nat.one_mul] at this
          omega
        · have p3 : RepC (Γ.X e H) w u ((xs.take n)[j][q]) := by simpa [hx] using p2
          exact RepC.keep (Nat.le_refl _) (fun _ _ _ => rfl) hX p3)
  have m3 := m2.cast (with1_lo k)
  refine ⟨_, ⟨m3.toHeap, m3.defers, m3.len, fun t' => ?_⟩⟩
  rw [Sl.get_cons]
  split
  · rename_i ht
    subst ht
    rw [hv]
    exact ⟨.inr rfl, hηk.symm, hone⟩
  · exact m3.slot t'
end
section
variable {Γ : Ctx} {kk : Nat → Prop} {L : Sl} {H : Hp} {a : Act} {w : World} {e : Env}
theorem mid_get {α : Type} (xs ys : List α) (j p : Nat) (h : j + ys.length ≤ xs.length) : (xs.take j ++ ys ++ xs.drop (j + ys.length))[p]? = if p < j then xs[p]? else if p < j + ys.length then ys[p - j]? else xs[p]? := by
  have h1 : (xs.take j).length = j := by rw [List.length_take]; omega
  by_cases hp : p < j
  · rw [if_pos hp, List.append_assoc, List.getElem?_append_left (by omega), List.getElem?_take, if_pos hp]
  · rw [if_neg hp]
    by_cases hq : p < j + ys.length
    · rw [if_pos hq, List.append_assoc, List.getElem?_append_right (by omega), h1, List.getElem?_append_left (by omega)]
    · rw [if_neg hq, List.getElem?_append_right (by rw [List.length_append]; omega), List.length_append, h1, List.getElem?_drop]
      congr 1; omega
theorem row_write (m : Models Γ kk L H e a w) {i es j g0 n0 cap : Nat} {tb : TypeId} {xs ys : List (List D)} {N : List Value} {cur : Array Value} (hH : Hp.get H i = some (.row tb es xs)) (hj : j + ys.length ≤ xs.length)
    (hN : N.length = ys.length * es) (hyl : ∀ p (hp : p < ys.length), (ys[p]'hp).length = es) (h1 : ∀ v ∈ N, v.oneCell' = true) (hr : ∀ p (hp : p < ys.length) q (hq : q < (ys[p]'hp).length), ∃ v, N[p * es + q]? = some v ∧ RepC (Γ.X e H) w v ((ys[p]'hp)[q]'hq))
    (hη : e.η i = .slice (some ⟨g0, 0, none⟩) n0 cap) (hg : w.heap[g0]? = some (.cells cur tb (0, 0))) :
    j * es + N.length ≤ cur.size ∧ Models Γ kk L (Hp.set H i (.row tb es (xs.take j ++ ys ++ xs.drop (j + ys.length)))) e a (w.setRow g0 (cur.toList.take (j * es) ++ N ++ cur.toList.drop (j * es + N.length)).toArray) := by
  have hmem := Hp.mem_of hH
  obtain ⟨vs, ho, hes, hone, hrep⟩ := (m.heap _ hmem).2
  rcases ho.2 with ⟨h2, _⟩ | ⟨g', cap', cur', h2, hb0, hg', hnc, hcm, hcs, htake⟩
  · rw [hη] at h2; cases h2
  rw [hη] at h2
  cases h2
  rw [hg] at hg'
  cases hg'
  have hlen : vs.length = xs.length * es := ho.1
  have hjr : j * es + N.length ≤ xs.length * es := by rw [hN, ← Nat.add_mul]; exact Nat.mul_le_mul_right _ hj
  have hcl : xs.length * es ≤ cur.size := by rw [hcs]; exact Nat.mul_le_mul_right _ hnc
  have hown : ∀ zs, HB.owned e (i, .row tb es zs) = some g0 := fun zs => by simp [HB.owned, hη, Value.ownBlock]
  have hxl : (xs.take j ++ ys ++ xs.drop (j + ys.length)).length = xs.length := by simp only [List.length_append, List.length_take, List.length_drop]; omega
  refine ⟨by omega, m.turn (b' := .row tb es (xs.take j ++ ys ++ xs.drop (j + ys.length))) hH ?_ rfl rfl rfl (fun _ => Nat.le_refl _) (fun c _ hc => setRow_other w _ c _ (fun h => hc (by rw [hown, h]))) (by rw [hown, hown]) ?_⟩
  · simp [World.setRow]
  · have hgo : (w.setRow g0 (cur.toList.take (j * es) ++ N ++ cur.toList.drop (j * es + N.length)).toArray).heap[g0]? = some (.cells (cur.toList.take (j * es) ++ N ++ cur.toList.drop (j * es + N.length)).toArray tb (0, 0)) := setRow_heap w g0 cur _ tb (0, 0) hg
    have hkeep : ∀ b, b < w.heap.size → ¬ Γ.X e H b → (w.setRow g0 (cur.toList.take (j * es) ++ N ++ cur.toList.drop (j * es + N.length)).toArray).heap[b]? = w.heap[b]? := fun b _ hb => setRow_other w _ b _ (fun h => hb (.inr (List.mem_filterMap.2 ⟨_, hmem, by rw [hown, h]⟩)))
    refine ⟨vs.take (j * es) ++ N ++ vs.drop (j * es + N.length), ⟨?_, .inr ⟨g0, cap, _, ?_, hb0, hgo, ?_, hcm, ?_, ?_⟩⟩, fun p hp => ?_, fun v hv => ?_, fun p hp q hq => ?_⟩
    · rw [hxl]; simp only [List.length_append, List.length_take, List.length_drop]; omega
    · rw [hxl]; exact hη
    · rw [hxl]; exact hnc
    · rw [← hcs]
      simp only [List.size_toArray, List.length_append, List.length_take, List.length_drop, Array.length_toList]
      omega
    · rw [hxl]
      apply List.ext_getElem?
      intro p
      rw [List.getElem?_take]
      by_cases hp' : p < xs.length * es
      · have hcv : cur.toList[p]? = vs[p]? := by rw [← htake, List.getElem?_take, if_pos hp']
        rw [if_pos hp', mid_get _ _ _ _ (by have := Array.length_toList (xs := cur); omega), mid_get _ _ _ _ (by omega), hcv]
      · rw [if_neg hp', List.getElem?_eq_none (by have : vs.length ≤ p := by omega
                                                  have h9 : (vs.take (j * es) ++ N ++ vs.drop (j * es + N.length)).length = vs.length := by simp only [List.length_append, List.length_take, List.length_drop]; omega
                                                  omega)]
    · have hgt := mid_get xs ys j p hj
      rw [List.getElem?_eq_getElem hp] at hgt
      split at hgt
      · obtain ⟨h3, h4⟩ := List.getElem?_eq_some_iff.1 hgt.symm; rw [← h4]; exact hes p h3
      · split at hgt
        · obtain ⟨h3, h4⟩ := List.getElem?_eq_some_iff.1 hgt.symm; rw [← h4]; exact hyl _ h3
        · obtain ⟨h3, h4⟩ := List.getElem?_eq_some_iff.1 hgt.symm; rw [← h4]; exact hes p h3
    · simp only [List.mem_append] at hv
      rcases hv with (hv | hv) | hv
      · exact hone v (List.mem_of_mem_take hv)
      · exact h1 v hv
      · exact hone v (List.mem_of_mem_drop hv)
    · have hgt := mid_get xs ys j p hj
      rw [List.getElem?_eq_getElem hp] at hgt
      have hpx : p < xs.length := by omega
      generalize hz : (xs.take j ++ ys ++ xs.drop (j + ys.length))[p] = z at hgt hq
      have key : ∀ {v : Value} {x : D}, RepC (Γ.X e H) w v x → RepC (Γ.X e H) (w.setRow g0 (cur.toList.take (j * es) ++ N ++ cur.toList.drop (j * es + N.length)).toArray) v x := fun h => RepC.keep (by simp [World.setRow]) hkeep (fun _ _ h => h) h
      have hle : ∀ c, p < c → q < es → p * es + q < c * es := fun c hc hqe => by
        have : (p + 1) * es ≤ c * es := Nat.mul_le_mul_right _ hc
        rw [Nat.add_mul] at this; omega
      split at hgt
      · rename_i hpj
        obtain ⟨h3, h4⟩ := List.getElem?_eq_some_iff.1 hgt.symm
        subst h4
        obtain ⟨v, p1, p2⟩ := hrep p h3 q hq
        have hqe : q < es := by rw [← hes p h3]; exact hq
        exact ⟨v, by rw [mid_get _ _ _ _ (by omega), if_pos (hle j hpj hqe)]; exact p1, key p2⟩
      · rename_i hpj
        split at hgt
        · rename_i hpy
          obtain ⟨h3, h4⟩ := List.getElem?_eq_some_iff.1 hgt.symm
          subst h4
          obtain ⟨v, p1, p2⟩ := hr (p - j) h3 q hq
          have hqe : q < es := by rw [← hyl (p - j) h3]; exact hq
          have e1 : p * es = j * es + (p - j) * es := by rw [← Nat.add_mul]; congr 1; omega
          have e2 : (p - j) * es + q < N.length := by
            rw [hN]
            have : (p - j + 1) * es ≤ ys.length * es := Nat.mul_le_mul_right _ (by omega)
            rw [Nat.add_mul] at this; omega
          exact ⟨v, by rw [mid_get _ _ _ _ (by omega), if_neg (by omega), if_pos (by omega), show p * es + q - j * es = (p - j) * es + q by omega]; exact p1, key p2⟩
        · rename_i hpy
          obtain ⟨h3, h4⟩ := List.getElem?_eq_some_iff.1 hgt.symm
          subst h4
          obtain ⟨v, p1, p2⟩ := hrep p h3 q hq
          have e1 : (j + ys.length) * es ≤ p * es := Nat.mul_le_mul_right _ (by omega)
          rw [Nat.add_mul] at e1
          exact ⟨v, by rw [mid_get _ _ _ _ (by omega), if_neg (by omega), if_neg (by omega)]; exact p1, key p2⟩
end
theorem flatten_rep {α : Type} (z : List α) : ∀ (n i j : Nat), i < n → j < z.length → (List.replicate n z).flatten[i * z.length + j]? = z[j]?
  | 0, _, _, h, _ => by omega
  | n + 1, 0, j, _, hj => by rw [List.replicate_succ, List.flatten_cons, Nat.zero_mul, Nat.zero_add, List.getElem?_append_left hj]
  | n + 1, i + 1, j, hi, hj => by
    have h1 : (i + 1) * z.length + j = z.length + (i * z.length + j) := by rw [Nat.add_mul]; omega
    rw [List.replicate_succ, List.flatten_cons, h1, List.getElem?_append_right (by omega), Nat.add_sub_cancel_left, flatten_rep z n i j (by omega) hj]
def zeroIs : List Value → List D → Prop
  | [], [] => True
  | v :: vs, d :: ds => (cSV v = .d d ∨ (cSV v = .nils ∧ ∃ es, d = .slice es [])) ∧ zeroIs vs ds
  | _, _ => False
theorem zeroIs_spec {X : Nat → Prop} {e : Env} {w : World} : ∀ {vs : List Value} {ds : List D}, zeroIs vs ds → RelL X e w (vs.map cSV) vs → vs.length = ds.length ∧ ∀ q (hq : q < ds.length), ∃ v, vs[q]? = some v ∧ RepC X w v ds[q]
  | [], [], _, _ => ⟨rfl, fun q hq => by simp at hq⟩
  | [], _ :: _, h, _ => h.elim
  | _ :: _, [], h, _ => h.elim
  | v :: vs, d :: ds, ⟨h1, h2⟩, ⟨g1, g2⟩ => by
    obtain ⟨i1, i2⟩ := zeroIs_spec h2 g2
    refine ⟨by simp [i1], fun q hq => ?_⟩
    cases q with
    | zero =>
      refine ⟨v, rfl, ?_⟩
      rcases h1 with h1 | ⟨h1, es, h3⟩
      · rw [h1] at g1; exact g1
      · rw [h1] at g1
        have g1 : v = .slice none 0 0 := g1
        subst g1
        show RepC X w _ d
        rw [h3]; exact .nil
    | succ q =>
      obtain ⟨u, u1, u2⟩ := i2 q (by simpa using hq)
      exact ⟨u, by simpa using u1, by simpa using u2⟩
theorem zeroCells_list (z : Array Value) (n : Nat) (hz : 0 < z.size) : (Builtin.zeroCells z n).toList = (List.replicate n z.toList).flatten := by
  apply List.ext_getElem?
  intro p
  have hfl : ((List.replicate n z.toList)).flatten.length = n * z.size := by simp
  by_cases hp : p < n * z.size
  · have h1 : p / z.size < n := Nat.div_lt_of_lt_mul (by rw [Nat.mul_comm]; exact hp)
    have h2 := flatten_rep z.toList n (p / z.size) (p % z.size) h1 (by rw [Array.length_toList]; exact Nat.mod_lt _ hz)
    rw [Array.length_toList, Nat.div_add_mod'] at h2
    rw [h2]
    simp [Builtin.zeroCells, hp, getElem!_pos, Nat.mod_lt _ hz]
  · rw [List.getElem?_eq_none (by simp [Builtin.zeroCells]; omega), List.getElem?_eq_none (by omega)]
section
variable {Γ : Ctx} {k : Nat} {L : Sl} {H H' : Hp} {K : Next'} {ops : List Oper} {rest : List Oper} {t : TypeId}
theorem ds_clear (zs : List D) {tb te ty : TypeId} {pos : String} {af : Array Edge} {g : Option (Nat × Bool)} {i es j n : Nat} {xs : List (List D)} {x : Operand} (hx : opSV L x = .rsl i es j n) (hH : Hp.get H i = some (.row tb es xs)) (ht : (tiGet Γ.τ t).sh = .slice te) (hkn : (tiGet Γ.τ te).sh.known = true)
    (hz : zeroIs (tiGet Γ.τ te).zero zs) (hzok : zeroOk (tiGet Γ.τ te).zero = true) (hzl : (tiGet Γ.τ te).zero.length = es) (he : 0 < es) (hpos : 0 < n) (hjn : j + n ≤ xs.length) (hw : wantedSV ops L g = some true)
    (hS : setF H i (.row tb es (xs.take j ++ List.replicate n zs ++ xs.drop (j + n))) some = some H') (hk : DS false Γ ops rest K k L H') :
    DS false Γ ops (⟨none, .call { callee := .builtin .clear, args := #[x], argTypes := #[t] }, ty, pos, af, g⟩ :: rest) K k L H := by
  rw [setF_eq] at hS
  cases hS
  refine dl_run hw fun e a w m => ?_
  obtain ⟨inf, z, hi, hzz, hs, _, hzc⟩ := Ctx.info (Sh.known_ne hkn)
  obtain ⟨_, _, hcs⟩ := evT m hx (cSV_rsl · _ _ _ _)
  have hzsz : z.cells.size = es := by rw [← Array.length_toList, hzc, hzl]
  rcases hcs with ⟨_, _, _, rfl⟩ | ⟨g0, n0, cap, o, hη, hkc, hmx, hnc, hv, ho⟩
  · omega
  have := ho (.inl (by omega))
  subst this
  obtain ⟨vs, hown, hes', _, _⟩ := (m.heap _ (Hp.mem_of hH)).2
  rcases hown.2 with ⟨h2, _⟩ | ⟨g', cap', cur, h2, _, hg, _, _, hcsz, _⟩
  · rw [hη] at h2; cases h2
  rw [hη] at h2
  cases h2
  have hzr := zeroOk_spec (X := Γ.X e H) (e := e) (w := w) _ hzok
  obtain ⟨zl, zr⟩ := zeroIs_spec hz hzr.1
  have hN := zeroCells_list z.cells n (by omega)
  have hNl : (Builtin.zeroCells z.cells n).toList.length = n * es := by simp [Builtin.zeroCells, hzsz]
  have hyl : (List.replicate n zs).length = n := List.length_replicate
  have hone : ∀ v ∈ (Builtin.zeroCells z.cells n).toList, v.oneCell' = true := fun v hv => hzr.2 v (by rw [← hzc]; exact zeroCells_mem hv)
  obtain ⟨hfit, m2⟩ := row_write m hH (j := j) (ys := List.replicate n zs) (N := (Builtin.zeroCells z.cells n).toList) (by rw [hyl]; exact hjn) (by rw [hNl, hyl]) (fun p hp => by rw [List.getElem_replicate, ← zl, hzl]) hone (fun p hp q hq => by
    have hq' : q < zs.length := by simpa using hq
    obtain ⟨v, q1, q2⟩ := zr q hq'
    refine ⟨v, ?_, by simpa using q2⟩
    have hqe : q < es := by rw [← hzl, zl]; exact hq'
    rw [hN, ← hzsz, ← Array.length_toList, flatten_rep _ _ _ _ (by simpa using hp) (by rw [Array.length_toList, hzsz]; exact hqe), hzc]
    exact q1) hη hg
  rw [hyl] at m2
  have hst := run_storeCells_at Γ.P g0 (j * es) tb (Builtin.zeroCells z.cells n).toList 0 cur w hg (by simpa using hfit) hone
  have hrun : (execOp a.eval ⟨none, .call { callee := .builtin .clear, args := #[x], argTypes := #[t] }, ty, pos, af, g⟩).run Γ.P w = .ok (.value (.tuple #[])) (w.setRow g0 (cur.toList.take (j * es) ++ (Builtin.zeroCells z.cells n).toList ++ cur.toList.drop (j * es + (Builtin.zeroCells z.cells n).toList.length)).toArray) := by
    have hzv : (zeroValue te).run Γ.P w = .ok z w := by
      simp [zeroValue, typeInfo, hi, hzz]
    obtain ⟨n', rfl⟩ : ∃ n', n = n' + 1 := ⟨n - 1, by omega⟩
    simp only [Nat.add_zero] at hst
    simp [execOp, resolve, invoke, builtin, hv, Builtin.clear_, run_underlying (Ctx.slice ht), hzv, hst]
  unfold Oper.wp
  rw [hrun]
  exact ⟨k, L, _, e, m2, hk⟩
end
theorem run_append_make {P : Program} (w : World) (t ti ty e : TypeId) (i : TypeInfo) (z : Value) (ht : P.underlying t = some (.slice e)) (hti : P.underlying ti = some (.int .i64)) (hi : P.info? e = some i) (hz : i.zero = some z)
    (n : Nat) (h0 : 0 < n) (h63 : (n : Int) ≤ 9223372036854775807) (h48 : n * i.bytes ≤ 281474976710656) (hs : i.size ≠ 0) :
    (Builtin.append_ #[t, ti] ty #[.slice none 0 0, .int .i64 n]).run P w =
      .ok (.slice (some ⟨w.heap.size, 0, none⟩) n (grownCap w n 0 e)) (w.drew.alloc (.cells (Builtin.zeroCells z.cells n ++ Builtin.zeroCells z.cells (grownCap w n 0 e - n)) e)) := by
  have hn : n ≠ 0 := by omega
  have h63' : ¬ (9223372036854775807 < (n : Int)) := by omega
  have h48' : ¬ (281474976710656 < Builtin.nextslicecap n 0 * i.bytes) := by rw [nextslicecap_zero h0]; omega
  have hw : IntKind.i64.wrap (n : Int) = n := by simp [IntKind.wrap, IntKind.bits, IntKind.signed]; omega
  have hl : ¬ ((n : Int) < 0) := by omega
  have hb : ¬ (281474976710656 < (n : Int) * (i.bytes : Int)) := by
    have : ((n * i.bytes : Nat) : Int) ≤ 281474976710656 := by omega
    rw [Int.natCast_mul] at this; omega
  simp [Builtin.append_, asInt, asIntOf, run_underlying ht, run_underlying hti, sizeOf, typeInfo, zeroValue, hi, hz, hw, hl, hb, hn, h63', h48', Question.forced, run_firstCells_none, newRow, grownCap]
  intro h
  exact absurd h (Nat.mul_ne_zero hn hs)
section
variable {Γ : Ctx} {k : Nat} {L : Sl} {H : Hp} {K : Next'} {ops : List Oper} {rest : List Oper} {t : TypeId}
theorem evNils {kk : Nat → Prop} {a : Act} {w : World} {e : Env} (m : Models Γ kk L H e a w) {x : Operand} (hx : opSV L x = .nils) : a.eval x = .slice none 0 0 := by
  have hok : opOk x := by
    cases x with
    | const v => simp only [opSV] at hx; unfold cSV at hx; split at hx <;> simp_all [opOk, cOk]
    | _ => trivial
  have := m.op x hok
  rw [hx] at this; exact this
theorem ds_apmk (zs : List D) {d n es : Nat} {te ti ty : TypeId} {pos : String} {af : Array Edge} {g : Option (Nat × Bool)} {x y : Operand} {m' : Int} (hx : opSV L x = .nils) (hy : opSV L y = .d (.int .i64 m')) (hn : m' = (n : Int)) (ht : (tiGet Γ.τ t).sh = .slice te) (hti : (tiGet Γ.τ ti).sh = .int .i64)
    (hkn : (tiGet Γ.τ te).sh.known = true) (hes : (tiGet Γ.τ te).cells = es) (hz : zeroIs (tiGet Γ.τ te).zero zs) (hzok : zeroOk (tiGet Γ.τ te).zero = true) (hzl : (tiGet Γ.τ te).zero.length = es) (he : 0 < es) (h0 : 0 < n) (hroom : n * (tiGet Γ.τ te).bytes ≤ 281474976710656) (h63 : n ≤ maxLen)
    (hw : wantedSV ops L g = some true) (hd : Nat.blt d Γ.n = true) (hk : DS false Γ ops rest K (k + 1) ((d, .row k) :: L) ((k, .row te es (List.replicate n zs)) :: H)) :
    DS false Γ ops (⟨some d, .call { callee := .builtin .append, args := #[x, y], argTypes := #[t, ti] }, ty, pos, af, g⟩ :: rest) K k L H := by
  subst hn
  refine dl_run hw fun e a w m => ?_
  obtain ⟨inf, z, hi, hzz, hs, hb, hzc⟩ := Ctx.info (Sh.known_ne hkn)
  have hzsz : z.cells.size = es := by rw [← Array.length_toList, hzc, hzl]
  have hti' : Γ.P.underlying ti = some (.int .i64) := by
    have hti2 : Γ.sh ti = .int .i64 := hti
    obtain ⟨u, inf, z, h1, _, _, h4, _⟩ := ti_parts (Γ.ti (t := ti) (by rw [hti2]; intro h; cases h))
    rw [h1]
    have h5 : shOf Γ.P u = .int .i64 := h4 ▸ hti2
    cases u <;> simp [shOf] at h5 ⊢
    exact h5
  have hrun := run_append_make (P := Γ.P) w t ti ty te inf z (Ctx.slice ht) hti' hi hzz n h0 (by unfold maxLen at h63; omega) (by rw [hb]; exact hroom) (by rw [hs]; have : Γ.cells te = es := hes; omega)
  have hge := grownCap_ge w n 0 te
  have hcm := grownCap_le_maxLen w n 0 te h63
  generalize grownCap w n 0 te = c at hrun hge hcm
  have hop : (execOp a.eval ⟨some d, .call { callee := .builtin .append, args := #[x, y], argTypes := #[t, ti] }, ty, pos, af, g⟩).run Γ.P w = .ok (.value (.slice (some ⟨w.heap.size, 0, none⟩) n c)) (w.drew.alloc (.cells (Builtin.zeroCells z.cells n ++ Builtin.zeroCells z.cells (c - n)) te)) := by
    simp only [execOp, resolve, invoke, builtin, Sem.run_bind, Sem.run_pure, Result.andThen_ok, List.map_toArray, List.map_cons, List.map_nil, evNils m hx, evI m hy, hrun]
  unfold Oper.wp
  rw [hop]
  have m1 : Models Γ (lo k) L H e a w.drew := m.below ((Beld.refl _ _ _).drew)
  have hze : ¬ e.dom k := fun h => lo_not k ((m.top k).1 h)
  have hη : (e.bindRow k (.slice (some ⟨w.heap.size, 0, none⟩) n c)).η k = .slice (some ⟨w.heap.size, 0, none⟩) n c := if_pos rfl
  have hNl : (Builtin.zeroCells z.cells n).toList.length = n * es := by simp [Builtin.zeroCells, hzsz]
  have hfl := zeroCells_list z.cells n (by omega)
  have m2 := m1.new (lo_not k) (hb := .row te es (List.replicate n zs)) (e' := e.bindRow k (.slice (some ⟨w.heap.size, 0, none⟩) n c)) (w' := w.drew.alloc (.cells (Builtin.zeroCells z.cells n ++ Builtin.zeroCells z.cells (c - n)) te)) (fun i => or_congr (m.top i) Iff.rfl) (e.bindRow_ext _ _ hze) (below_alloc Γ.dr _ _)
    (fun b hb => by simp only [HB.owned, hη, Value.ownBlock, Option.some.injEq] at hb; subst hb; exact Nat.le_refl _) (fun hX => by
      have hzr := zeroOk_spec (X := Γ.X (e.bindRow k (.slice (some ⟨w.heap.size, 0, none⟩) n c)) ((k, .row te es (List.replicate n zs)) :: H)) (e := e) (w := w.drew.alloc (.cells (Builtin.zeroCells z.cells n ++ Builtin.zeroCells z.cells (c - n)) te)) _ hzok
      obtain ⟨zl, zr⟩ := zeroIs_spec hz hzr.1
      refine ⟨(Builtin.zeroCells z.cells n).toList, ⟨by rw [hNl, List.length_replicate], .inr ⟨w.heap.size, c, _, by rw [hη, List.length_replicate], Nat.zero_le _, heap_alloc_new w.drew _, by rw [List.length_replicate]; exact hge, hcm, ?_, ?_⟩⟩, fun p hp => by rw [List.getElem_replicate, ← zl, hzl], fun v hv => hzr.2 v (by rw [← hzc]; exact zeroCells_mem hv), fun p hp q hq => ?_⟩
      · simp [Builtin.zeroCells, hzsz, ← Nat.add_mul]; congr 1; omega
      · rw [List.length_replicate, Array.toList_append, List.take_append_of_le_length (by rw [hNl]; exact Nat.le_refl _), List.take_of_length_le (by rw [hNl]; exact Nat.le_refl _)]
      · have hq' : q < zs.length := by simpa using hq
        obtain ⟨v, q1, q2⟩ := zr q hq'
        refine ⟨v, ?_, by simpa using q2⟩
        have hqe : q < es := by rw [← hzl, zl]; exact hq'
        rw [hfl, ← hzsz, ← Array.length_toList, flatten_rep _ _ _ _ (by simpa using hp) (by rw [Array.length_toList, hzsz]; exact hqe), hzc]
        exact q1)
  have m3 := m2.cast (with1_lo k)
  exact ⟨k + 1, _, _, _, m3.put (s := .row k) (v := .slice (some ⟨w.heap.size, 0, none⟩) n c) (Nat.le_of_ble_eq_true hd) ⟨.inr rfl, hη.symm, rfl⟩, hk⟩
theorem ev_cap_nils {kk : Nat → Prop} {te ty : TypeId} {x : Operand} (ht : Γ.sh t = .slice te) (hx : opSV L x = .nils) : Ev Γ kk L H (.call { callee := .builtin .cap, args := #[x], argTypes := #[t] }) ty (.d (.int .i64 0)) := by
  intro e a w m
  have hv := evNils m hx
  refine ⟨.int .i64 0, fun _ _ _ _ w' _ => ?_, .int (by decide)⟩
  simp [execOp, resolve, invoke, builtin, hv, Builtin.cap_, goInt, run_underlying (Ctx.slice ht)]
end
end Go.Proofs.YtapciiffpnociacGreat

/- The library's CompactFunc over own facts. Condition: none. -/
namespace Go.Proofs.YtapciiffpnociacGreat
open Go Go.RowKit
attribute [local irreducible] DW DS DL DQ Ev FnOk FnP thenD inBlockD DT
def cmpG (p : Fct) : List Fct → List Fct
  | [] => []
  | y :: l => if ordF y p = 0 then cmpG y l else y :: cmpG y l
def cmpF : List Fct → List Fct
  | [] => []
  | x :: l => x :: cmpG x l
theorem cmpG_snoc : ∀ (l : List Fct) (p y : Fct), cmpG p (l ++ [y]) = cmpG p l ++ (if ordF y ((p :: l).getLast (by simp)) = 0 then [] else [y])
  | [], p, y => by
    show (if ordF y p = 0 then cmpG y [] else y :: cmpG y []) = [] ++ _
    rfl
  | x :: l, p, y => by
    rw [List.cons_append]
    simp only [cmpG]
    rw [cmpG_snoc l x y, List.getLast_cons (by simp : x :: l ≠ [])]
    split <;> simp
theorem cmpF_take {l : List Fct} {n : Nat} (h0 : 0 < n) (hn : n < l.length) : cmpF (l.take (n + 1)) = cmpF (l.take n) ++ (if ordF l[n] (l[n - 1]'(by omega)) = 0 then [] else [l[n]]) := by
  rw [List.take_succ_eq_append_getElem hn]
  have hne : l.take n ≠ [] := by
    intro h
    have := congrArg List.length h
    rw [List.length_take, List.length_nil] at this
    omega
  obtain ⟨x, r, hx⟩ := List.exists_cons_of_ne_nil hne
  have hl : (l.take n).getLast hne = l[n - 1]'(by omega) := by
    rw [List.getLast_eq_getElem, List.getElem_take]
    have : (l.take n).length - 1 = n - 1 := by rw [List.length_take, Nat.min_eq_left (by omega)]
    simp only [this]
  simp only [hx, List.cons_append, cmpF]
  rw [cmpG_snoc]
  have : (x :: r).getLast (by simp) = l[n - 1]'(by omega) := by rw [← hl]; congr 1; exact hx.symm
  rw [this]
theorem cmpF_one {l : List Fct} (h : l.length ≤ 1) : cmpF l = l := by
  match l, h with
  | [], _ => rfl
  | [x], _ => rfl
set_option maxHeartbeats 8000000 in
theorem compact_fn (l : List Fct) (hl : l.length ≤ 4398046511104) : FnOk false Tryz.prog tab tab_ok 134 [.row 0, .fn 135 []] 0 1 [(0, .row 48 2 (l.map encFct))] (fun _ r H => r = .d (.slice 2 ((cmpF l).map encFct)) ∧ H = []) := by
  refine fn_enterF _ Tryz.func134 rfl rfl (by kernel_rfl) ?_
  intro O w0 E0 β0
  have ll : (l.map encFct).length = l.length := List.length_map _
  by_cases h2 : l.length < 2
  · rw [cmpF_one (by omega)]
    repeat' (first | (apply ds_evC; exact rfl; (with_reducible exact trivial); (with_reducible exact rfl); exact rfl; exact rfl; exact rfl) | apply ds_nil | apply dw_seq2 | (apply ds_region; exact rfl) | apply dw_block | apply dw_skip | apply thenD_n | (apply dw_condP; exact rfl; all_goals intro hg))
    all_goals try (exfalso; omega)
    refine dw_ent (ent_seal 4 rfl rfl rfl) ?_
    repeat' (first | apply dw_ret | apply thenD_r)
    exact ⟨.inl rfl, _, rfl, 0, [], trivial, rfl, rfl, rfl, rfl, rfl, rfl⟩
  · repeat' (first | (apply ds_evC; exact rfl; (with_reducible exact trivial); (with_reducible exact rfl); exact rfl; exact rfl; exact rfl) | apply ds_nil | apply dw_seq2 | (apply ds_region; exact rfl) | apply dw_block | apply dw_skip | apply thenD_n | (apply dw_condP; exact rfl; all_goals intro hg))
    all_goals try (exfalso; omega)
    refine ds_loop (ι := Nat) (fun i => ⟨1, [(0, .row 0), (1, .fn 135 []), (5, .d (.int .i64 i))], [(0, .row 48 2 (l.map encFct))]⟩)
      (fun i => 1 ≤ i ∧ i ≤ l.length ∧ cmpF (l.take i) = l.take i) (fun i => l.length - i) 1 ⟨by omega, by omega, cmpF_one (by rw [List.length_take]; omega)⟩ (ent_ren id ⟨rfl, rfl, rfl, trivial⟩ ⟨rfl, trivial⟩ rfl rfl rfl rfl rfl rfl) ?_
    rintro i ⟨g0, g1, g2⟩
    by_cases hi : i < l.length
    · have hs : Fn 135 [elFct l[i], elFct (l[((i : Int) - 1).toNat]'(by omega))] (fun r => r = .d (.bool (decide (ordF l[i] (l[i - 1]'(by omega)) = 0)))) := by
        have e : ((i : Int) - 1).toNat = i - 1 := by omega
        simp only [e]
        exact rsame_fn _ _
      have ht := cmpF_take (by omega : 0 < i) hi
      cases hb : decide (ordF l[i] (l[i - 1]'(by omega)) = 0) with
      | false =>
        have hb' := of_decide_eq_false hb
        rw [hb] at hs
        rw [if_neg hb', g2, ← List.take_succ_eq_append_getElem hi] at ht
        repeat' (first | (apply ds_evC; exact rfl; (first | (with_reducible exact trivial) | omega); (with_reducible exact rfl); exact rfl; exact rfl; exact rfl) | apply ds_nil | (apply dt_ev; exact rfl; exact rfl; (first | (with_reducible exact trivial) | omega); (first | ((with_reducible apply hv_prow); (first | exact rfl | exact (Int.toNat_of_nonneg (by omega)).symm)) | ((with_reducible apply hv_ldrow); (apply hv_get; (omega)); exact rfl) | (with_reducible exact rfl)); exact rfl; exact rfl; exact rfl; exact rfl) | (apply dt_nil0; exact rfl; exact rfl; exact rfl; exact rfl) | apply dw_seq2 | (apply ds_region; exact rfl) | (apply dw_any; kernel_rfl; kernel_rfl; exact rfl; exact rfl) | apply dw_block | apply dw_skip | apply dw_exit | (apply dw_condF; exact rfl) | apply thenD_n | apply thenD_e | apply inB_n | (apply inB_e; exact rfl) | (apply dt_callV; exact rfl; exact rfl; exact rfl; exact rfl; apply hs; exact rfl; (exact rfl); exact rfl; exact rfl; exact ⟨_, rfl⟩; rintro _ rfl) | (apply dw_condP; exact rfl; all_goals intro hg))
        all_goals try (exfalso; omega)
        exact ⟨i + 1, ⟨by omega, by omega, ht⟩, ent_ren id ⟨rfl, rfl, rfl, trivial⟩ ⟨rfl, trivial⟩ rfl rfl rfl rfl rfl rfl, by show l.length - (i + 1) < l.length - i; omega⟩
      | true =>
        have hb' := of_decide_eq_true hb
        rw [hb] at hs
        rw [if_pos hb', List.append_nil] at ht
        repeat' (first | (apply ds_evC; exact rfl; (first | (with_reducible exact trivial) | omega); (with_reducible exact rfl); exact rfl; exact rfl; exact rfl) | apply ds_nil | (apply dt_ev; exact rfl; exact rfl; (first | (with_reducible exact trivial) | omega); (first | ((with_reducible apply hv_prow); (first | exact rfl | exact (Int.toNat_of_nonneg (by omega)).symm)) | ((with_reducible apply hv_ldrow); (apply hv_get; (omega)); exact rfl) | (with_reducible exact rfl)); exact rfl; exact rfl; exact rfl; exact rfl) | (apply dt_nil0; exact rfl; exact rfl; exact rfl; exact rfl) | apply dw_seq2 | (apply ds_region; exact rfl) | (apply dw_any; kernel_rfl; kernel_rfl; exact rfl; exact rfl) | apply dw_block | apply dw_skip | apply dw_exit | (apply dw_condT; exact rfl) | apply thenD_n | apply thenD_e | (apply inB_e; exact rfl) | (apply dt_callV; exact rfl; exact rfl; exact rfl; exact rfl; apply hs; exact rfl; (exact rfl); exact rfl; exact rfl; exact ⟨_, rfl⟩; rintro _ rfl) | (apply dw_condP; exact rfl; all_goals intro hg))
        all_goals try (exfalso; omega)
        refine ds_loop (ι := Nat × Nat × List Fct) (fun x => ⟨1, [(0, .row 0), (1, .fn 135 []), (5, .d (.int .i64 x.1)), (6, .rsl 0 2 i ((l.map encFct).length - i)), (7, .d (.int .i64 x.2.1))], [(0, .row 48 2 (x.2.2.map encFct))]⟩)
          (fun x => x.2.2.length = l.length ∧ 1 ≤ x.2.1 ∧ x.2.1 ≤ l.length - i ∧ i ≤ x.1 ∧ x.1 + 1 ≤ i + x.2.1 ∧ x.2.2.take x.1 = cmpF (l.take (i + x.2.1)) ∧ ∀ p, i + x.2.1 ≤ p + 1 → x.2.2[p]? = l[p]?) (fun x => l.length - i - x.2.1)
          (i, 1, l) ⟨rfl, by dsimp only; omega, by dsimp only; omega, by dsimp only; omega, by dsimp only; omega, by rw [ht, g2], fun _ _ => rfl⟩ (ent_ren id ⟨rfl, rfl, rfl, rfl, rfl, trivial⟩ ⟨rfl, trivial⟩ rfl rfl rfl rfl rfl rfl) ?_
        rintro ⟨u, k, o⟩ ⟨q1, q2, q3, q4, q5, q6, q7⟩
        dsimp only at q1 q2 q3 q4 q5 q6 q7 ⊢
        have lo : (o.map encFct).length = o.length := List.length_map _
        clear hs
        by_cases hk : k < l.length - i
        · have o1 : o[i + k]'(by omega) = l[i + k]'(by omega) := by
            have := q7 (i + k) (by omega)
            rw [List.getElem?_eq_getElem (by omega), List.getElem?_eq_getElem (by omega)] at this
            exact Option.some.inj this
          have o2 : o[i + k - 1]'(by omega) = l[i + k - 1]'(by omega) := by
            have := q7 (i + k - 1) (by omega)
            rw [List.getElem?_eq_getElem (by omega), List.getElem?_eq_getElem (by omega)] at this
            exact Option.some.inj this
          have hs : Fn 135 [elFct (o[i + k]'(by omega)), elFct (o[i + ((k : Int) - 1).toNat]'(by omega))] (fun r => r = .d (.bool (decide (ordF (l[i + k]'(by omega)) (l[i + k - 1]'(by omega)) = 0)))) := by
            have e : i + ((k : Int) - 1).toNat = i + k - 1 := by omega
            simp only [e, o1, o2]
            exact rsame_fn _ _
          have hc := cmpF_take (l := l) (n := i + k) (by omega) (by omega)
          cases hb2 : decide (ordF (l[i + k]'(by omega)) (l[i + k - 1]'(by omega)) = 0) with
          | true =>
            have hb3 := of_decide_eq_true hb2
            rw [hb2] at hs
            rw [if_pos hb3, List.append_nil] at hc
            repeat' (first | (apply ds_evC; exact rfl; (first | (with_reducible exact trivial) | omega); (with_reducible exact rfl); exact rfl; exact rfl; exact rfl) | apply ds_nil | (apply dt_ev; exact rfl; exact rfl; (first | (with_reducible exact trivial) | omega); (first | ((with_reducible apply hv_ldrow); (apply hv_get; (omega)); exact rfl) | (with_reducible exact rfl)); exact rfl; exact rfl; exact rfl; exact rfl) | (apply dt_nil0; exact rfl; exact rfl; exact rfl; exact rfl) | apply dw_seq2 | (apply ds_region; exact rfl) | (apply dw_any; kernel_rfl; kernel_rfl; exact rfl; exact rfl) | apply dw_block | apply dw_skip | apply dw_exit | (apply dw_condF; exact rfl) | apply thenD_n | apply thenD_e | apply inB_n | (apply inB_e; exact rfl) | (apply dt_callV; exact rfl; exact rfl; exact rfl; exact rfl; apply hs; exact rfl; (exact rfl); exact rfl; exact rfl; exact ⟨_, rfl⟩; rintro _ rfl) | (apply dw_condP; exact rfl; all_goals intro hg))
            all_goals try (exfalso; omega)
            exact ⟨(u, k + 1, o), ⟨q1, by dsimp only; omega, by dsimp only; omega, by dsimp only; omega, by dsimp only; omega, by dsimp only; rw [q6]; exact hc.symm, fun p hp => q7 p (by dsimp only at hp; omega)⟩, ent_ren id ⟨rfl, rfl, rfl, rfl, rfl, trivial⟩ ⟨rfl, trivial⟩ rfl rfl rfl rfl rfl rfl, by show l.length - i - (k + 1) < l.length - i - k; omega⟩
          | false =>
            have hb3 := of_decide_eq_false hb2
            rw [hb2] at hs
            rw [if_neg hb3] at hc
            repeat' (first | (apply ds_evC; exact rfl; (first | (with_reducible exact trivial) | omega); (first | ((with_reducible apply hv_prow); (exact rfl)) | ((with_reducible apply hv_ldrow); (apply hv_get; (omega)); exact rfl) | (with_reducible exact rfl)); exact rfl; exact rfl; exact rfl) | apply ds_nil | (apply ds_stP; exact rfl; exact rfl; (apply hv_get; (omega)); exact rfl; exact rfl; (exact hv_set rfl); exact rfl; exact rfl; exact rfl; exact rfl; exact rfl; exact rfl) | (apply dt_ev; exact rfl; exact rfl; (first | (with_reducible exact trivial) | omega); (first | ((with_reducible apply hv_ldrow); (apply hv_get; (omega)); exact rfl) | (with_reducible exact rfl)); exact rfl; exact rfl; exact rfl; exact rfl) | (apply dt_nil0; exact rfl; exact rfl; exact rfl; exact rfl) | apply dw_seq2 | (apply ds_region; exact rfl) | (apply dw_any; kernel_rfl; kernel_rfl; exact rfl; exact rfl) | apply dw_block | apply dw_skip | apply dw_exit | (apply dw_condT; exact rfl) | apply thenD_n | apply thenD_e | apply inB_n | (apply inB_e; exact rfl) | (apply dt_callV; exact rfl; exact rfl; exact rfl; exact rfl; apply hs; exact rfl; (exact rfl); exact rfl; exact rfl; exact ⟨_, rfl⟩; rintro _ rfl) | (apply dw_condP; exact rfl; all_goals intro hg))
            all_goals try (exfalso; omega)
            refine ⟨(u + 1, k + 1, o.set u (o[i + k]'(by omega))), ⟨by dsimp only; rw [List.length_set]; exact q1, by dsimp only; omega, by dsimp only; omega, by dsimp only; omega, by dsimp only; omega, ?_, fun p hp => ?_⟩, ent_ren id ⟨rfl, rfl, rfl, rfl, rfl, trivial⟩ ⟨rfl, trivial⟩ rfl rfl rfl rfl rfl rfl, by show l.length - i - (k + 1) < l.length - i - k; omega⟩
            · dsimp only
              rw [List.take_succ_eq_append_getElem (by rw [List.length_set]; omega), List.getElem_set_self, List.take_set, List.set_eq_of_length_le (by rw [List.length_take]; omega), q6, o1]
              exact hc.symm
            · dsimp only at hp ⊢
              rw [List.getElem?_set_ne (by omega)]
              exact q7 p (by omega)
        · repeat' (first | (apply ds_evC; exact rfl; (first | (with_reducible exact trivial) | omega); (with_reducible exact rfl); exact rfl; exact rfl; exact rfl) | apply ds_nil | (apply dt_ev; exact rfl; exact rfl; (first | (with_reducible exact trivial) | omega); (first | ((with_reducible apply hv_ldrow); (apply hv_get; (omega)); exact rfl) | (with_reducible exact rfl)); exact rfl; exact rfl; exact rfl; exact rfl) | apply dw_seq2 | (apply ds_region; exact rfl) | (apply dw_any; kernel_rfl; kernel_rfl; exact rfl; exact rfl) | apply dw_block | apply dw_skip | apply dw_exit | apply thenD_n | apply thenD_e | (apply inB_e; exact rfl) | (apply dw_condP; exact rfl; all_goals intro hg))
          all_goals try (exfalso; omega)
          have hke : i + k = l.length := by omega
          rw [hke, List.take_of_length_le (Nat.le_refl _)] at q6
          refine ds_clear [.int .i64 0, .slice 1 []] rfl rfl rfl rfl ⟨.inl rfl, .inr ⟨rfl, 1, rfl⟩, trivial⟩ rfl rfl (by omega) (by omega) (by omega) rfl rfl ?_
          repeat' (first | (apply ds_evC; exact rfl; (first | (with_reducible exact trivial) | (simp <;> omega)); (with_reducible exact rfl); exact rfl; exact rfl; exact rfl) | apply ds_nil | apply dw_seq2 | (apply ds_region; exact rfl) | apply thenD_n)
          all_goals try (exfalso; omega)
          refine dw_ent (ent_cut (n := u) 4 rfl rfl (by simp only [List.length_append, List.length_take, List.length_replicate, List.length_drop]; omega) rfl) ?_
          refine dw_ent (ent_seal 4 rfl rfl rfl) ?_
          repeat' (first | apply dw_ret | apply thenD_r | apply inB_r)
          refine ⟨.inl rfl, _, rfl, 0, [], trivial, rfl, rfl, rfl, rfl, ?_, rfl⟩
          refine congrArg (fun z => SV.d (.slice 2 z)) ?_
          have hu : ((o.map encFct).take u).length = u := by rw [List.length_take]; omega
          show List.take u ((o.map encFct).take u ++ List.replicate _ _ ++ List.drop _ (o.map encFct)) = _
          rw [List.append_assoc, List.take_append_of_le_length (by omega), List.take_of_length_le (by omega), ← List.map_take, q6]
    · rw [List.take_of_length_le (by omega)] at g2
      rw [g2]
      repeat' (first | (apply ds_evC; exact rfl; (with_reducible exact trivial); (with_reducible exact rfl); exact rfl; exact rfl; exact rfl) | apply ds_nil | (apply dt_ev; exact rfl; exact rfl; (first | (with_reducible exact trivial) | omega); (first | ((with_reducible apply hv_prow); (first | exact rfl | exact (Int.toNat_of_nonneg (by omega)).symm)) | ((with_reducible apply hv_ldrow); (apply hv_get; (omega)); exact rfl) | (with_reducible exact rfl)); exact rfl; exact rfl; exact rfl; exact rfl) | apply dw_seq2 | (apply ds_region; exact rfl) | (apply dw_any; kernel_rfl; kernel_rfl; exact rfl; exact rfl) | apply dw_block | apply dw_skip | apply dw_exit | apply thenD_n | apply thenD_e | (apply inB_e; exact rfl) | (apply dw_condP; exact rfl; all_goals intro hg))
      all_goals try (exfalso; omega)
      refine dw_ent (ent_seal 4 rfl rfl rfl) ?_
      repeat' (apply dw_ret)
      exact ⟨.inl rfl, _, rfl, 0, [], trivial, rfl, rfl, rfl, rfl, rfl, rfl⟩
end Go.Proofs.YtapciiffpnociacGreat

/- Plain words: sorted, without doubles, is the document's set. Condition: none. -/
namespace Go.Proofs.YtapciiffpnociacGreat
def Strict (l : List Fct) : Prop := l.Pairwise fun x y => ordF x y < 0
theorem lt_irrefl {x : Fct} (h : ordF x x < 0) : False := by rw [ordF_self] at h; omega
theorem lt_asymm {x y : Fct} (h : ordF x y < 0) (g : ordF y x < 0) : False := lt_irrefl (ordF_trans h g)
theorem strict_ext : ∀ {a b : List Fct}, Strict a → Strict b → (∀ x, x ∈ a ↔ x ∈ b) → a = b
  | [], [], _, _, _ => rfl
  | [], y :: b, _, _, h => by have := (h y).2 List.mem_cons_self; simp at this
  | x :: a, [], _, _, h => by have := (h x).1 List.mem_cons_self; simp at this
  | x :: a, y :: b, ha, hb, h => by
    obtain ⟨a1, a2⟩ := List.pairwise_cons.1 ha
    obtain ⟨b1, b2⟩ := List.pairwise_cons.1 hb
    have hxy : x = y := by
      rcases List.mem_cons.1 ((h x).1 List.mem_cons_self) with h1 | h1
      · exact h1
      · rcases List.mem_cons.1 ((h y).2 List.mem_cons_self) with h2 | h2
        · exact h2.symm
        · exact (lt_asymm (b1 x h1) (a1 y h2)).elim
    subst hxy
    rw [strict_ext a2 b2 fun z => ?_]
    constructor
    · intro hz
      rcases List.mem_cons.1 ((h z).1 (List.mem_cons_of_mem _ hz)) with h1 | h1
      · subst h1; exact (lt_irrefl (a1 z hz)).elim
      · exact h1
    · intro hz
      rcases List.mem_cons.1 ((h z).2 (List.mem_cons_of_mem _ hz)) with h1 | h1
      · subst h1; exact (lt_irrefl (b1 z hz)).elim
      · exact h1
theorem cmpG_spec : ∀ (l : List Fct) (p : Fct), (p :: l).Pairwise (fun a b => ordF b a ≥ 0) → Strict (p :: cmpG p l) ∧ ∀ x, x ∈ p :: cmpG p l ↔ x ∈ p :: l
  | [], p, _ => ⟨List.pairwise_cons.2 ⟨fun x hx => by simp [cmpG] at hx, .nil⟩, fun x => Iff.rfl⟩
  | y :: l, p, h => by
    obtain ⟨h1, h2⟩ := List.pairwise_cons.1 h
    obtain ⟨i1, i2⟩ := cmpG_spec l y h2
    unfold cmpG
    split
    · rename_i h3
      have := ordF_eq0 h3
      subst this
      refine ⟨i1, fun x => (i2 x).trans ⟨fun hx => List.mem_cons_of_mem _ hx, fun hx => ?_⟩⟩
      rcases List.mem_cons.1 hx with rfl | hx
      · exact List.mem_cons_self
      · exact hx
    · rename_i h3
      have hpy : ordF p y < 0 := by have := h1 y List.mem_cons_self; rw [ordF_anti]; omega
      refine ⟨List.pairwise_cons.2 ⟨fun z hz => ?_, i1⟩, fun x => ?_⟩
      · rcases List.mem_cons.1 hz with rfl | hz
        · exact hpy
        · exact ordF_trans hpy ((List.pairwise_cons.1 i1).1 z hz)
      · rw [List.mem_cons, List.mem_cons (a := x) (b := p), i2 x]
theorem cmpF_spec {s : List Fct} (h : s.Pairwise (fun a b => ordF b a ≥ 0)) : Strict (cmpF s) ∧ ∀ x, x ∈ cmpF s ↔ x ∈ s := by
  match s, h with
  | [], _ => exact ⟨.nil, fun _ => Iff.rfl⟩
  | p :: l, h => exact cmpG_spec l p h
theorem kFrom_spec {l : List Fct} {f : Fct} : ∀ (n : Nat), n ≤ l.length → kFrom l f n ≤ n ∧ (∀ j (hj : j < l.length), kFrom l f n ≤ j → j < n → 0 < ordF l[j] f) ∧ (∀ j (hj : j < l.length), j + 1 = kFrom l f n → ¬ 0 < ordF l[j] f)
  | 0, _ => ⟨Nat.le_refl _, fun j _ _ h => by omega, fun j _ h => by simp [kFrom] at h⟩
  | n + 1, hn => by
    obtain ⟨i1, i2, i3⟩ := kFrom_spec (l := l) (f := f) n (by omega)
    rw [kFrom_succ (by omega)]
    split
    · rename_i h
      refine ⟨by omega, fun j hj h1 h2 => ?_, i3⟩
      by_cases hjn : j = n
      · subst hjn; exact h
      · exact i2 j hj h1 (by omega)
    · rename_i h
      refine ⟨Nat.le_refl _, fun j hj h1 h2 => by omega, fun j hj h1 => ?_⟩
      have : j = n := by omega
      subst this
      exact h
theorem hasF_iff {l : List Fct} {f : Fct} : hasF l f = true ↔ f ∈ l := by
  unfold hasF
  rw [List.any_eq_true]
  constructor
  · rintro ⟨x, hx, h⟩; rw [← ordF_eq0 (of_decide_eq_true h)]; exact hx
  · intro h; exact ⟨f, h, decide_eq_true (ordF_self f)⟩
theorem insF_spec {l : List Fct} {f : Fct} (h : Strict l) : Strict (insF l f) ∧ ∀ x, x ∈ insF l f ↔ x ∈ l ∨ x = f := by
  unfold insF
  split
  · rename_i hh
    have := hasF_iff.1 hh
    exact ⟨h, fun x => ⟨.inl, fun hx => hx.elim id fun e => e ▸ this⟩⟩
  · rename_i hh
    have hf : f ∉ l := fun hm => hh (hasF_iff.2 hm)
    obtain ⟨k1, k2, k3⟩ := kFrom_spec (l := l) (f := f) l.length (Nat.le_refl _)
    generalize kFrom l f l.length = k at k1 k2 k3
    have hpi := List.pairwise_iff_getElem.1 h
    have hlo : ∀ j (hj : j < l.length), j < k → ordF l[j] f < 0 := by
      intro j hj hjk
      have hk1 : k - 1 < l.length := by omega
      have h1 := k3 (k - 1) hk1 (by omega)
      have hne : ordF l[k - 1] f ≠ 0 := fun e => hf (ordF_eq0 e ▸ List.getElem_mem hk1)
      have h2 : ordF l[k - 1] f < 0 := by omega
      by_cases hjk1 : j = k - 1
      · subst hjk1; exact h2
      · exact ordF_trans (hpi j (k - 1) hj hk1 (by omega)) h2
    have hhi : ∀ j (hj : j < l.length), k ≤ j → ordF f l[j] < 0 := fun j hj hjk => by have := k2 j hj hjk hj; rw [ordF_anti]; omega
    have htk : ∀ x ∈ l.take k, ordF x f < 0 := by
      intro x hx
      obtain ⟨j, hj, rfl⟩ := List.mem_iff_getElem.1 hx
      rw [List.length_take] at hj
      rw [List.getElem_take]
      exact hlo j (by omega) (by omega)
    have hdk : ∀ x ∈ l.drop k, ordF f x < 0 := by
      intro x hx
      obtain ⟨j, hj, rfl⟩ := List.mem_iff_getElem.1 hx
      rw [List.length_drop] at hj
      rw [List.getElem_drop]
      exact hhi (k + j) (by omega) (by omega)
    refine ⟨List.pairwise_append.2 ⟨h.sublist (List.take_sublist _ _), List.pairwise_cons.2 ⟨hdk, h.sublist (List.drop_sublist _ _)⟩, fun x hx y hy => ?_⟩, fun x => ?_⟩
    · rcases List.mem_cons.1 hy with rfl | hy
      · exact htk x hx
      · exact ordF_trans (htk x hx) (hdk y hy)
    · rw [List.mem_append, List.mem_cons]
      constructor
      · rintro (hx | rfl | hx)
        · exact .inl (List.mem_of_mem_take hx)
        · exact .inr rfl
        · exact .inl (List.mem_of_mem_drop hx)
      · rintro (hx | rfl)
        · have := hx
          rw [← List.take_append_drop k l] at this
          rcases List.mem_append.1 this with h1 | h1
          · exact .inl h1
          · exact .inr (.inr h1)
        · exact .inr (.inl rfl)
theorem setF_spec' : ∀ (l o : List Fct), Strict o → Strict (l.foldl insF o) ∧ ∀ x, x ∈ l.foldl insF o ↔ x ∈ o ∨ x ∈ l
  | [], o, h => ⟨h, fun x => by simp⟩
  | y :: l, o, h => by
    obtain ⟨i1, i2⟩ := insF_spec (f := y) h
    obtain ⟨j1, j2⟩ := setF_spec' l (insF o y) i1
    refine ⟨j1, fun x => ?_⟩
    rw [List.foldl_cons, j2, i2, List.mem_cons, or_assoc]
theorem setF_spec (l : List Fct) : Strict (setF' l) ∧ ∀ x, x ∈ setF' l ↔ x ∈ l := by
  obtain ⟨h1, h2⟩ := setF_spec' l [] .nil
  exact ⟨h1, fun x => (h2 x).trans (by simp)⟩
theorem keep_set {s l : List Fct} (hp : s.Perm l) (hs : s.Pairwise (fun a b => ordF b a ≥ 0)) : cmpF s = setF' l :=
  strict_ext (cmpF_spec hs).1 (setF_spec l).1 fun x => by rw [(cmpF_spec hs).2, (setF_spec l).2, hp.mem_iff]
end Go.Proofs.YtapciiffpnociacGreat

/- Plain words on ways of a rule: values of terms, what is matched, what holds. No program is in sight. Condition: none. -/
namespace Go.Proofs.YtapciiffpnociacGreat
abbrev RE := List (Option Int)
def vOf (e : RE) (t : Trm) : Option Int := if t.var < 0 then some t.n else e.getD t.var.toNat none
def vA (a : List Int) (t : Trm) : Int := if t.var < 0 then t.n else a.getD t.var.toNat 0
def hasE (e : RE) : List Bool := e.map Option.isSome
def outE (e : RE) : List Int := e.map fun x => x.getD 0
def extE (e : RE) (a : List Int) : Prop := a.length = e.length ∧ ∀ (v : Nat) (x : Int), e[v]? = some (some x) → a[v]? = some x
def matchE : RE → List Trm → List Int → Option RE
  | e, t :: ts, n :: ns => match vOf e t with
    | some x => if x = n then matchE e ts ns else none
    | none => matchE (e.set t.var.toNat (some n)) ts ns
  | e, _, _ => some e
theorem hasE_len (e : RE) : (hasE e).length = e.length := List.length_map _
theorem outE_len (e : RE) : (outE e).length = e.length := List.length_map _
theorem isT_hasE (e : RE) (t : Trm) : isT (hasE e) t = (vOf e t).isSome := by
  unfold isT vOf hasE
  by_cases h : t.var < 0
  · simp [h]
  · simp only [h, decide_false, Bool.false_or, if_false, List.getD, List.getElem?_map]
    cases e[t.var.toNat]? <;> rfl
theorem vOf_out {e : RE} {t : Trm} {x : Int} (h : vOf e t = some x) : vA (outE e) t = x := by
  unfold vOf at h
  unfold vA outE
  by_cases hv : t.var < 0
  · simp [hv] at h ⊢; exact h
  · simp only [hv, if_false, List.getD, List.getElem?_map] at h ⊢
    cases he : e[t.var.toNat]? with
    | none => rw [he] at h; simp at h
    | some y => rw [he] at h; simp at h; subst h; rfl
theorem vOf_ext {e : RE} {a : List Int} {t : Trm} {x : Int} (h : extE e a) (hx : vOf e t = some x) : vA a t = x := by
  unfold vOf at hx
  unfold vA
  by_cases hv : t.var < 0
  · simp [hv] at hx ⊢; exact hx
  · simp only [hv, if_false, List.getD] at hx ⊢
    cases he : e[t.var.toNat]? with
    | none => rw [he] at hx; simp at hx
    | some y =>
      rw [he] at hx
      simp at hx
      subst hx
      rw [h.2 _ _ he]; rfl
theorem vA_same {e : RE} {a : List Int} {t : Trm} (h : extE e a) (hx : (vOf e t).isSome = true) : vA a t = vA (outE e) t := by
  obtain ⟨x, hx⟩ := Option.isSome_iff_exists.1 hx
  rw [vOf_ext h hx, vOf_out hx]
theorem set_ext' {e : RE} {a : List Int} {t : Trm} {n : Int} (ho : okT e.length t) (hn : vOf e t = none) : extE (e.set t.var.toNat (some n)) a ↔ extE e a ∧ vA a t = n := by
  unfold vOf at hn
  unfold okT at ho
  have hv : ¬ t.var < 0 := fun h => by simp [h] at hn
  simp only [hv, if_false, List.getD] at hn
  have hlt : t.var.toNat < e.length := by omega
  have he : e[t.var.toNat]? = some none := by
    rw [List.getElem?_eq_getElem hlt] at hn ⊢
    simpa using hn
  unfold extE vA
  rw [List.length_set]
  simp only [hv, if_false]
  constructor
  · rintro ⟨h1, h2⟩
    have h3 := h2 t.var.toNat n (by rw [List.getElem?_set_self hlt])
    refine ⟨⟨h1, fun v x hx => ?_⟩, by rw [List.getD, h3]; rfl⟩
    by_cases hq : t.var.toNat = v
    · subst hq; rw [he] at hx; cases hx
    · exact h2 v x (by rw [List.getElem?_set_ne hq]; exact hx)
  · rintro ⟨⟨h1, h2⟩, h3⟩
    refine ⟨h1, fun v x hx => ?_⟩
    by_cases hq : t.var.toNat = v
    · subst hq
      rw [List.getElem?_set_self hlt] at hx
      simp at hx
      subst hx
      rw [List.getD, List.getElem?_eq_getElem (by omega)] at h3
      rw [List.getElem?_eq_getElem (by omega)]
      simpa using h3
    · exact h2 v x (by rw [List.getElem?_set_ne hq] at hx; exact hx)
theorem set_has {e : RE} {t : Trm} {n : Int} (hn : vOf e t = none) : hasE (e.set t.var.toNat (some n)) = setT (hasE e) t := by
  have hv : ¬ t.var < 0 := fun h => by unfold vOf at hn; simp [h] at hn
  unfold hasE setT
  rw [if_neg hv, List.map_set]; rfl
theorem matchE_some : ∀ {ts : List Trm} {ns : List Int} {e e' : RE}, ts.length = ns.length → (∀ t ∈ ts, okT e.length t) → matchE e ts ns = some e' →
    e'.length = e.length ∧ (∀ a, extE e' a ↔ extE e a ∧ ts.map (vA a) = ns) ∧ hasE e' = ts.foldl setT (hasE e)
  | [], [], e, e', _, _, h => by
    simp only [matchE, Option.some.injEq] at h
    subst h
    exact ⟨rfl, fun a => by simp, rfl⟩
  | t :: ts, n :: ns, e, e', hl, ho, h => by
    have hl' : ts.length = ns.length := by simpa using hl
    rw [matchE] at h
    cases hv : vOf e t with
    | some x =>
      rw [hv] at h
      simp only at h
      split at h
      · rename_i hx
        subst hx
        obtain ⟨h1, h2, h3⟩ := matchE_some hl' (fun y hy => ho y (List.mem_cons_of_mem _ hy)) h
        refine ⟨h1, fun a => ?_, ?_⟩
        · rw [h2, List.map_cons, List.cons.injEq]
          exact ⟨fun ⟨g1, g2⟩ => ⟨g1, vOf_ext g1 hv, g2⟩, fun ⟨g1, _, g2⟩ => ⟨g1, g2⟩⟩
        · rw [h3, List.foldl_cons, setT_same (by rw [isT_hasE, hv]; rfl)]
      · cases h
    | none =>
      rw [hv] at h
      simp only at h
      obtain ⟨h1, h2, h3⟩ := matchE_some hl' (fun y hy => by rw [List.length_set]; exact ho y (List.mem_cons_of_mem _ hy)) h
      refine ⟨by rw [h1, List.length_set], fun a => ?_, ?_⟩
      · rw [h2, set_ext' (ho t (List.mem_cons_self ..)) hv, List.map_cons, List.cons.injEq, and_assoc]
      · rw [h3, List.foldl_cons, set_has hv]
  | [], _ :: _, _, _, hl, _, _ => by simp at hl
  | _ :: _, [], _, _, hl, _, _ => by simp at hl
theorem matchE_none : ∀ {ts : List Trm} {ns : List Int} {e : RE}, ts.length = ns.length → (∀ t ∈ ts, okT e.length t) → matchE e ts ns = none → ∀ a, extE e a → ts.map (vA a) ≠ ns
  | [], [], e, _, _, h, _, _ => by simp [matchE] at h
  | t :: ts, n :: ns, e, hl, ho, h, a, ha => by
    have hl' : ts.length = ns.length := by simpa using hl
    rw [matchE] at h
    intro hm
    rw [List.map_cons, List.cons.injEq] at hm
    cases hv : vOf e t with
    | some x =>
      rw [hv] at h
      simp only at h
      split at h
      · exact matchE_none hl' (fun y hy => ho y (List.mem_cons_of_mem _ hy)) h a ha hm.2
      · rename_i hx
        exact hx ((vOf_ext ha hv).symm.trans hm.1)
    | none =>
      rw [hv] at h
      simp only at h
      exact matchE_none hl' (fun y hy => by rw [List.length_set]; exact ho y (List.mem_cons_of_mem _ hy)) h a ((set_ext' (ho t (List.mem_cons_self ..)) hv).2 ⟨ha, hm.1⟩) hm.2
  | [], _ :: _, _, hl, _, _, _, _ => by simp at hl
  | _ :: _, [], _, hl, _, _, _, _ => by simp at hl
def testE (op a b : Int) : Bool := if op = 1 then decide (a < b) else if op = 2 then decide (a ≤ b) else if op = 3 then decide (a = b) else decide (a ≠ b)
def calcE (op a b : Int) : Int := if op = 5 then a + b else if op = 6 then a - b else a * b
def calcL (l : Ltl) (a : List Int) : Int := calcE l.op ((l.terms.map (vA a)).getD 0 0) ((l.terms.map (vA a)).getD 1 0)
def holdE (S : List Fct) (l : Ltl) (a : List Int) : Bool :=
  if l.kind = 1 then hasF S ⟨l.pred, l.terms.map (vA a)⟩
  else if l.kind = 2 then !hasF S ⟨l.pred, l.terms.map (vA a)⟩
  else if l.kind = 3 then testE l.op ((l.terms.map (vA a)).getD 0 0) ((l.terms.map (vA a)).getD 1 0)
  else numB (calcL l a) && decide (calcL l a = (l.terms.map (vA a)).getD 2 0)
theorem map_same {e : RE} {a : List Int} (h : extE e a) {ts : List Trm} (hr : ∀ t ∈ ts, (vOf e t).isSome = true) : ts.map (vA a) = ts.map (vA (outE e)) :=
  List.map_congr_left fun t ht => vA_same h (hr t ht)
theorem holdE_same {S : List Fct} {l : Ltl} {e : RE} {a : List Int} (h : extE e a) (hr : ∀ t ∈ l.terms, (vOf e t).isSome = true) : holdE S l a = holdE S l (outE e) := by
  unfold holdE calcL
  rw [map_same h hr]
structure okL (S : List Fct) (v : Nat) (l : Ltl) : Prop where
  kind : 1 ≤ l.kind ∧ l.kind ≤ 4
  terms : ∀ t ∈ l.terms, okT v t
  test2 : l.kind = 3 → l.terms.length = 2
  calc3 : l.kind = 4 → l.terms.length = 3
  facts : l.kind = 1 → ∀ x ∈ S, x.pred = l.pred → x.args.length = l.terms.length
def closedB (body : List Ltl) (bs : List Bool) : Prop := ∀ l ∈ body, firesB bs l = true → ∀ t ∈ litTs l, isT bs t = true
def Bd (body : List Ltl) (bs : List Bool) : Prop := ∀ cs, leB bs cs → closedB body cs → ∀ v, v < cs.length → cs.getD v false = true
theorem full_out {e : RE} (h : ∀ v, v < (hasE e).length → (hasE e).getD v false = true) (a : List Int) : extE e a ↔ a = outE e := by
  rw [hasE_len] at h
  have he : ∀ v, v < e.length → ∃ x, e[v]? = some (some x) := fun v hv => by
    have := h v hv
    unfold hasE at this
    rw [List.getD, List.getElem?_map, List.getElem?_eq_getElem hv] at this
    simp at this
    obtain ⟨x, hx⟩ := Option.isSome_iff_exists.1 this
    exact ⟨x, by rw [List.getElem?_eq_getElem hv, hx]⟩
  constructor
  · rintro ⟨h1, h2⟩
    refine List.ext_getElem? fun v => ?_
    by_cases hv : v < e.length
    · obtain ⟨x, hx⟩ := he v hv
      rw [h2 v x hx]
      unfold outE
      rw [List.getElem?_map, hx]; rfl
    · rw [List.getElem?_eq_none (by omega), List.getElem?_eq_none (by rw [outE_len]; omega)]
  · rintro rfl
    refine ⟨outE_len e, fun v x hx => ?_⟩
    unfold outE
    rw [List.getElem?_map, hx]; rfl
theorem full_some {e : RE} (h : ∀ v, v < (hasE e).length → (hasE e).getD v false = true) {t : Trm} (ho : okT e.length t) : (vOf e t).isSome = true := by
  rw [← isT_hasE]
  unfold isT
  unfold okT at ho
  by_cases hv : t.var < 0
  · rw [decide_eq_true hv]; rfl
  · rw [h _ (by rw [hasE_len]; omega), Bool.or_true]
end Go.Proofs.YtapciiffpnociacGreat

/- The document's CalcOf, isReady, ArgsOf. Condition: none. -/
namespace Go.Proofs.YtapciiffpnociacGreat
open Go Go.RowKit
theorem numB_iff {n : Int} : numB n = true ↔ -1000000 ≤ n ∧ n ≤ 1000000 := by unfold numB inR; simp
theorem mul_small {a b : Int} (ha : -1000000 ≤ a ∧ a ≤ 1000000) (hb : -1000000 ≤ b ∧ b ≤ 1000000) : -1000000000000 ≤ a * b ∧ a * b ≤ 1000000000000 := by
  have h1 : a.natAbs ≤ 1000000 := by omega
  have h2 : b.natAbs ≤ 1000000 := by omega
  have h3 : (a * b).natAbs ≤ 1000000 * 1000000 := by rw [Int.natAbs_mul]; exact Nat.mul_le_mul h1 h2
  omega
attribute [local irreducible] DW DS DL DQ Ev FnOk FnP thenD inBlockD DT
set_option maxHeartbeats 8000000 in
theorem calcOf_fn (op a b : Int) (ha : -1000000 ≤ a ∧ a ≤ 1000000) (hb : -1000000 ≤ b ∧ b ≤ 1000000) : Fn 55 [.d (.int .i64 op), .d (.int .i64 a), .d (.int .i64 b)] (fun r => r = .d (.int .i64 (calcE op a b))) := by
  refine fnp_enter' _ Tryz.func55 rfl rfl (by kernel_rfl) ?_
  intro O w0 E0 β0
  have hm := mul_small ha hb
  unfold calcE
  by_cases h5 : op = 5
  · rw [if_pos h5]
    repeat' (first | (apply ds_evC; exact rfl; (first | (with_reducible exact trivial) | omega); (with_reducible exact rfl); exact rfl; exact rfl; exact rfl) | apply ds_nil | apply dw_seq2 | (apply ds_region; exact rfl) | apply dw_skip | apply dw_ret | apply thenD_n | apply thenD_r | (apply dw_condP; exact rfl; all_goals intro hg))
    all_goals try (exfalso; omega)
    all_goals exact ⟨.inl rfl, _, rfl, rfl, rfl⟩
  · rw [if_neg h5]
    by_cases h6 : op = 6
    · rw [if_pos h6]
      repeat' (first | (apply ds_evC; exact rfl; (first | (with_reducible exact trivial) | omega); (with_reducible exact rfl); exact rfl; exact rfl; exact rfl) | apply ds_nil | apply dw_seq2 | (apply ds_region; exact rfl) | apply dw_skip | apply dw_ret | apply thenD_n | apply thenD_r | (apply dw_condP; exact rfl; all_goals intro hg))
      all_goals try (exfalso; omega)
      all_goals exact ⟨.inl rfl, _, rfl, rfl, rfl⟩
    · rw [if_neg h6]
      repeat' (first | (apply ds_evC; exact rfl; (first | (with_reducible exact trivial) | omega); (with_reducible exact rfl); exact rfl; exact rfl; exact rfl) | apply ds_nil | apply dw_seq2 | (apply ds_region; exact rfl) | apply dw_skip | apply dw_ret | apply thenD_n | apply thenD_r | (apply dw_condP; exact rfl; all_goals intro hg))
      all_goals try (exfalso; omega)
      exact ⟨.inl rfl, _, rfl, rfl, rfl⟩
set_option maxHeartbeats 8000000 in
theorem argsOf_fn (l : List Trm) (a : List Int) (hok : ∀ t ∈ l, okT a.length t) (hl : l.length ≤ 4398046511104) : Fn 54 [.d (.slice 2 (l.map encTrm)), .d (.slice 1 (a.map encI))] (fun r => r = .d (.slice 1 ((l.map (vA a)).map encI))) := by
  refine fnp_enter' _ Tryz.func54 rfl rfl (by kernel_rfl) ?_
  intro O w0 E0 β0
  have ll : (l.map encTrm).length = l.length := List.length_map _
  have la : (a.map encI).length = a.length := List.length_map _
  repeat' (first | (apply ds_evC; exact rfl; (with_reducible exact trivial); (with_reducible exact rfl); exact rfl; exact rfl; exact rfl) | apply ds_nil | apply dw_seq2 | (apply ds_region; exact rfl) | apply dw_block | apply thenD_n)
  refine dw_ent (ent_nilrow (t := 5) 3 1 rfl) ?_
  refine ds_loop (ι := Nat) (fun i => ⟨1, [(0, .d (.slice 2 (l.map encTrm))), (1, .d (.slice 1 (a.map encI))), (5, .row 0), (6, .d (.int .i64 i))], (0, .row 3 1 (((l.take i).map (vA a)).map encI)) :: []⟩)
    (fun i => i ≤ l.length) (fun i => l.length - i) 0 (Nat.zero_le _) (ent_ren id ⟨rfl, rfl, rfl, rfl, trivial⟩ ⟨rfl, trivial⟩ rfl rfl rfl rfl rfl rfl) ?_
  intro i g1
  by_cases hi : i < l.length
  · have ho := hok l[i] (List.getElem_mem hi)
    unfold okT at ho
    have lr : (((l.take i).map (vA a)).map encI).length = i := by rw [List.length_map, List.length_map, List.length_take]; omega
    have hst : ((l.take (i + 1)).map (vA a)).map encI = ((l.take i).map (vA a)).map encI ++ [encI (vA a l[i])] := by rw [List.take_succ_eq_append_getElem hi, List.map_append, List.map_append]; rfl
    by_cases hv : l[i].var < 0
    · have ht : vA a l[i] = l[i].n := by unfold vA; rw [if_pos hv]
      rw [ht] at hst
      repeat' (first | (apply ds_evC; exact rfl; (first | (with_reducible exact trivial) | omega); (first | ((with_reducible apply hv_row); (first | exact rfl | exact (Int.toNat_of_nonneg (by omega)).symm); (omega)) | (with_reducible exact rfl)); exact rfl; exact rfl; exact rfl) | apply ds_nil | apply dw_seq2 | (apply ds_region; exact rfl) | apply dw_block | apply dw_skip | apply dw_exit | apply thenD_n | apply thenD_e | apply inB_n | (apply inB_e; exact rfl) | (apply ds_bsC; exact rfl; exact rfl; exact rfl; exact rfl) | (apply ds_tradeC; exact rfl; (first | omega | (unfold maxLen; simp <;> omega)); exact rfl; exact rfl; exact rfl; exact rfl) | (apply dw_condP; exact rfl; all_goals intro hg))
      all_goals try (exfalso; omega)
      exact ⟨i + 1, by omega, ent_ren (fun _ => 1) ⟨rfl, rfl, rfl, rfl, trivial⟩ ⟨by rw [hst]; rfl, trivial⟩ rfl rfl rfl rfl rfl rfl, by omega⟩
    · have hlt : l[i].var.toNat < a.length := by omega
      have ht : vA a l[i] = a[l[i].var.toNat] := by
        unfold vA
        rw [if_neg hv, List.getD, List.getElem?_eq_getElem hlt]; rfl
      rw [ht] at hst
      repeat' (first | (apply ds_evC; exact rfl; (first | (with_reducible exact trivial) | omega); (first | ((with_reducible apply hv_row); (first | exact rfl | exact (Int.toNat_of_nonneg (by omega)).symm); (omega)) | (with_reducible exact rfl)); exact rfl; exact rfl; exact rfl) | apply ds_nil | apply dw_seq2 | (apply ds_region; exact rfl) | apply dw_block | apply dw_skip | apply dw_exit | apply thenD_n | apply thenD_e | apply inB_n | (apply inB_e; exact rfl) | (apply ds_bsC; exact rfl; exact rfl; exact rfl; exact rfl) | (apply ds_tradeC; exact rfl; (first | omega | (unfold maxLen; simp <;> omega)); exact rfl; exact rfl; exact rfl; exact rfl) | (apply dw_condP; exact rfl; all_goals intro hg))
      all_goals try (exfalso; omega)
      exact ⟨i + 1, by omega, ent_ren (fun _ => 1) ⟨rfl, rfl, rfl, rfl, trivial⟩ ⟨by rw [hst]; rfl, trivial⟩ rfl rfl rfl rfl rfl rfl, by omega⟩
  · rw [List.take_of_length_le (by omega)]
    repeat' (first | (apply ds_evC; exact rfl; (first | (with_reducible exact trivial) | omega); (first | ((with_reducible apply hv_row); (first | exact rfl | exact (Int.toNat_of_nonneg (by omega)).symm); (omega)) | (with_reducible exact rfl)); exact rfl; exact rfl; exact rfl) | apply ds_nil | apply dw_seq2 | (apply ds_region; exact rfl) | apply dw_block | apply dw_skip | apply dw_exit | apply thenD_n | apply thenD_e | apply inB_n | (apply inB_e; exact rfl) | (apply ds_bsC; exact rfl; exact rfl; exact rfl; exact rfl) | (apply ds_tradeC; exact rfl; (omega); exact rfl; exact rfl; exact rfl; exact rfl) | (apply dw_condP; exact rfl; all_goals intro hg))
    all_goals try (exfalso; omega)
    refine dw_ent (ent_seal 4 rfl rfl rfl) ?_
    repeat' (apply dw_ret)
    exact ⟨.inl rfl, _, rfl, rfl, rfl⟩
end Go.Proofs.YtapciiffpnociacGreat
