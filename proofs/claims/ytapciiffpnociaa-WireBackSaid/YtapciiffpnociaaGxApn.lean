/- A plain logic over the walk: append, slices that are built. No program is named here. Condition: none. -/
import Derived.Test.YtapciiffpnociaaGxApp
import Derived.Laws.AppendOwnNone
namespace Go.Proofs.Ytapciiffpnociaa
open Go Go.RowKit

section
variable {Γ : Ctx} {k : Nat → Prop} {L : Sl} {H : Hp} {K : Next'} {ops : List Oper} {rest : List Oper} {a : Act} {w : World} {e : Env} {t t' ty : TypeId} {x y : Operand}

theorem ownsRow_one {w : World} {te es n : Nat} {v : Value} {vs : List Value} (h : w.ownsRow 0 te es v n vs) : v.oneCell' = true := by
  rcases h.2 with ⟨rfl, _⟩ | ⟨g, cap, cur, rfl, _⟩ <;> rfl

/-- What an append to an owned row comes to: in its block, or in a new one. -/
theorem append_own {P : Program} {w : World} {t ty te : TypeId} {inf : TypeInfo} {z : Value} (ht : P.underlying t = some (.slice te)) (hi : P.info? te = some inf) (hz : inf.zero = some z) (hzs : z.cells.size = inf.size) (hsz : 0 < inf.size)
    {v : Value} {n : Nat} {xs : List Value} (hown : w.ownsRow 0 te inf.size v n xs) {ad : Addr} {m c : Nat} {news : List Value} (hl : news.length = m * inf.size) (hnews : ∀ j u, news[j]? = some u → w.cell? (ad.add j) = some u) (h1 : ∀ u ∈ news, u.oneCell' = true)
    (h63 : n + m ≤ maxLen) (hbytes : (n + m) * inf.bytes ≤ 140737488355328) :
    ∃ v' w', (Builtin.append_ #[t, t] ty #[v, .slice (some ad) m c]).run P w = .ok v' w' ∧ w'.ownsRow 0 te inf.size v' (n + m) (xs ++ news) ∧ w.grownBy w' v.ownBlock ∧ (∀ c, v'.ownBlock = some c → v.ownBlock = some c ∨ w.heap.size ≤ c) := by
  obtain ⟨v', w', hr, g1, g2, _⟩ := run_append_own (P := P) w 0 t ty te inf z inf.size inf.bytes ht hi hz rfl rfl hzs hsz v n xs hown ad m c news hl hnews h1 h63 hbytes (Nat.zero_le _)
  refine ⟨v', w', hr, g1, g2, ?_⟩
  rcases hown.2 with ⟨rfl, rfl⟩ | ⟨g, cap, cur, rfl, hbg, hg, hnc, hcm, hcs, htake⟩
  · obtain ⟨v2, w2, hr2, g3, _, _⟩ := run_append_own (P := P) w w.heap.size t ty te inf z inf.size inf.bytes ht hi hz rfl rfl hzs hsz (.slice none 0 0) 0 xs ⟨hown.1, .inl ⟨rfl, rfl⟩⟩ ad m c news hl hnews h1 h63 hbytes (Nat.le_refl _)
    rw [hr] at hr2
    cases hr2
    exact fun c hc => .inr (g3.lt c hc).1
  · by_cases hroom : n + m ≤ cap
    · have hfit : n * inf.size + news.length ≤ cur.size := by rw [hl, hcs, ← Nat.add_mul]; exact Nat.mul_le_mul_right _ hroom
      have hr2 := run_append_room (P := P) w t ty te inf ht hi g n cap cur hg ad m c news hl hnews h1 hroom hfit
      rw [hr] at hr2
      cases hr2
      intro c hc
      exact .inl hc
    · have holds : ∀ j u, xs[j]? = some u → w.cell? ((⟨g, 0, none⟩ : Addr).add j) = some u := hown.cells (g := g) rfl
      have hsmall : n + m ≤ 9223372036854775807 := by simp only [maxLen] at h63; omega
      have hr2 := run_append_grow (P := P) w t ty te inf z ht hi hz ⟨g, 0, none⟩ n cap xs hown.1 holds ad m c news hl hnews (by omega) (by omega) (growslice_fits (by omega) hbytes)
      rw [hr] at hr2
      cases hr2
      intro c hc
      simp only [Value.ownBlock, Option.some.injEq] at hc
      exact .inr (by omega)

theorem Ctx.zsize {t : TypeId} {inf : TypeInfo} {z : Value} (hz : z.cells.toList = (tiGet Γ.τ t).zero) (hl : Nat.beq (tiGet Γ.τ t).zero.length (Γ.cells t) = true) (hs : inf.size = Γ.cells t) : z.cells.size = inf.size := by
  rw [← Array.length_toList, hz, Nat.eq_of_beq_eq_true hl, hs]

theorem op_append_row {d z : Nat} {te t2 : TypeId} {pos : String} {af : Array Edge} {g : Option (Nat × Bool)} {i es : Nat} {xs ys : List (List D)}
    (hz' : ¬ k z) (ht : Γ.sh t = .slice te) (hkn : (Γ.sh te).known = true) (hes : Γ.cells te = es) (hpos : Nat.blt 0 es = true) (hz : Nat.beq (tiGet Γ.τ te).zero.length (Γ.cells te) = true)
    (hx : opSV L x = .row i) (hH : Hp.get H i = some (.row te es xs)) (hy : opSV L y = .d (.slice es ys)) (hd : Nat.blt d Γ.n = true)
    (hroom : (xs.length + ys.length) * (tiGet Γ.τ te).bytes ≤ 140737488355328) (h63 : xs.length + ys.length ≤ maxLen) :
    OpOk Γ ⟨some d, .call { callee := .builtin .append, args := #[x, y], argTypes := #[t, t] }, t2, pos, af, g⟩ k L H (with1 k z) ((d, .row z) :: L) ((z, .row te es (xs ++ ys)) :: Hp.del H i) := by
  intro e a w Q m
  have hze : ¬ e.dom z := fun h => hz' ((m.top z).1 h)
  obtain ⟨inf, zv, hi, hzz, hs, hb, hzc⟩ := Ctx.info (Sh.known_ne hkn)
  have hut := Ctx.slice ht
  obtain ⟨_, hvx, _⟩ := evT m hx (cSV_row · _)
  have hry := evT m hy (cSV_slice · _ _)
  obtain ⟨vs, ho, hxe, hone, hrep⟩ := (m.heap _ (Hp.mem_of hH)).2
  have hsz : inf.size = es := by rw [hs, hes]
  rw [← hsz] at ho
  have hcase : ∃ v' w' us, (Builtin.append_ #[t, t] t2 #[e.η i, a.eval y]).run Γ.P w = .ok v' w' ∧ w'.ownsRow 0 te inf.size v' (xs.length + ys.length) (vs ++ us) ∧ w.grownBy w' (e.η i).ownBlock ∧ (∀ c, v'.ownBlock = some c → (e.η i).ownBlock = some c ∨ w.heap.size ≤ c) ∧
      (∀ j (h : j < ys.length), (ys[j]'h).length = es) ∧ (∀ u ∈ us, u.oneCell' = true) ∧ ∀ i' (hi : i' < ys.length) j (hj : j < (ys[i']'hi).length), ∃ v, us[i' * es + j]? = some v ∧ RepC (Γ.X e H) w v ((ys[i']'hi)[j]'hj) := by
    obtain ⟨ao, cap, hvy, _, _, hnone⟩ := hry.slice_inv
    cases ao with
    | none =>
      have hys := hnone rfl
      subst hys
      have hv0 : a.eval y = .slice none 0 0 := by
        have hr := hry; rw [hvy] at hr ⊢; cases hr; rfl
      rw [hv0]
      have hrun := run_append_owned_none (P := Γ.P) (w := w) 0 t t2 te inf inf.size hut hi (e.η i) xs.length vs ho
      exact ⟨e.η i, w, [], hrun, by simpa using ho, ⟨rfl, rfl, rfl, Nat.le_refl _, fun _ _ _ => rfl⟩, fun c hc => .inl hc, by simp, by simp, by simp⟩
    | some ad =>
      have hr := hry
      rw [hvy] at hr
      obtain ⟨hn, hye, us, u1, u2, u3, u4⟩ := sliceAddr hr
      rw [hvy]
      obtain ⟨v', w', r1, r2, r3, r4⟩ := append_own (P := Γ.P) (ty := t2) hut hi hzz (Ctx.zsize hzc hz hs) (by rw [hsz]; exact Nat.le_of_ble_eq_true hpos) ho (c := cap) (by rw [hsz]; exact u1) u2 u3 h63 (by rw [hb]; exact hroom)
      exact ⟨v', w', us, r1, r2, r3, r4, hye, u3, u4⟩
  obtain ⟨v', w', us, hrun, hown', hgr, hblk, hye, hone2, hrep2⟩ := hcase
  have hop : (execOp a.eval ⟨some d, .call { callee := .builtin .append, args := #[x, y], argTypes := #[t, t] }, t2, pos, af, g⟩).run Γ.P w = .ok (.value v') w' := by
    simp only [execOp, resolve, invoke, builtin, Sem.run_bind, Sem.run_pure, Result.andThen_ok, List.map_toArray, List.map_cons, List.map_nil, hvx, hrun]
  unfold Oper.wp
  rw [hop]
  have hη : (e.bindRow z v').η z = v' := if_pos rfl
  have hl := ho.1
  have m2 := m.trade (hb := .row te es (xs ++ ys)) hH hz' (e' := e.bindRow z v') (w' := w') (fun i => or_congr (m.top i) Iff.rfl) (e.bindRow_ext _ _ hze) hgr.size hgr.os hgr.tape hgr.output
    (fun c hc hne => hgr.block c hc (fun h => hne (by simp [HB.owned, h]))) (fun c hc => by simp only [HB.owned, hη] at hc; exact hblk c hc) (fun hX => by
      have hkeep : ∀ b, b < w.heap.size → ¬ Γ.X e H b → w'.heap[b]? = w.heap[b]? := fun b hb hx => hgr.block b hb (fun h => hx (.inr (List.mem_filterMap.2 ⟨_, Hp.mem_of hH, by simp [HB.owned, h]⟩)))
      obtain ⟨q1, q2⟩ := rows_append hxe hye (by rw [hl, hsz]) hrep hrep2
      refine ⟨vs ++ us, ?_, q1, fun v hv => ?_, fun i' hi' j hj => ?_⟩
      · rw [hη, List.length_append, ← hsz]; exact hown'
      · rcases List.mem_append.1 hv with hv | hv
        · exact hone v hv
        · exact hone2 v hv
      · obtain ⟨v, p1, p2⟩ := q2 i' hi' j hj
        exact ⟨v, p1, RepC.keep hgr.size hkeep hX p2⟩)
  exact ⟨_, m2.put (s := .row z) (v := v') (Nat.le_of_ble_eq_true hd) ⟨.inr rfl, hη.symm, ownsRow_one hown'⟩⟩

end
section
variable {Γ : Ctx} {k : Nat} {L : Sl} {H : Hp} {K : Next'} {ops : List Oper} {rest : List Oper} {a : Act} {w : World} {e : Env} {t t' ty : TypeId} {x y : Operand}
theorem dl_append_row {d : Nat} {te t2 : TypeId} {pos : String} {af : Array Edge} {g : Option (Nat × Bool)} {i es : Nat} {xs ys : List (List D)}
    (ht : Γ.sh t = .slice te) (hkn : (Γ.sh te).known = true) (hes : Γ.cells te = es) (hpos : Nat.blt 0 es = true) (hz : Nat.beq (tiGet Γ.τ te).zero.length (Γ.cells te) = true)
    (hx : opSV L x = .row i) (hH : Hp.get H i = some (.row te es xs)) (hy : opSV L y = .d (.slice es ys)) (hw : wantedSV ops L g = some true) (hd : Nat.blt d Γ.n = true)
    (hroom : (xs.length + ys.length) * (tiGet Γ.τ te).bytes ≤ 140737488355328) (h63 : xs.length + ys.length ≤ maxLen)
    (hk : DL Γ ops rest K (k + 1) ((d, .row k) :: L) ((k, .row te es (xs ++ ys)) :: Hp.del H i)) :
    DL Γ ops (⟨some d, .call { callee := .builtin .append, args := #[x, y], argTypes := #[t, t] }, t2, pos, af, g⟩ :: rest) K k L H :=
  dl_op hw ((op_append_row (lo_not k) ht hkn hes hpos hz hx hH hy hd hroom h63).cast (with1_lo k)) hk

/-- A nil slice is an owned row without elements. -/
theorem dw_nilrow {Q : Post} {c : Code} {t : Nat} (te : TypeId) (es : Nat) (h : L.get t = .nils) (hk : DW Γ c Q (k + 1) ((t, .row k) :: L) ((k, .row te es []) :: H)) : DW Γ c Q k L H := by
  intro e a w m
  have hη : (e.bindRow k (.slice none 0 0)).η k = .slice none 0 0 := if_pos rfl
  have m2 := (m.new (lo_not k) (hb := .row te es []) (e' := e.bindRow k (.slice none 0 0)) (w' := w) (fun i => or_congr (m.top i) Iff.rfl) (e.bindRow_ext _ _ (fun h => lo_not k ((m.top k).1 h))) (Below.refl _ _)
    (fun b hb => by simp [HB.owned, hη, Value.ownBlock] at hb) (fun _ => ⟨[], by rw [hη]; exact World.ownsRow_nil w 0 te es, by simp, by simp, by simp⟩)).cast (with1_lo k)
  refine hk _ a w ⟨m2.toHeap, m2.defers, m2.len, fun t' => ?_⟩
  rw [Sl.get_cons]
  split
  · rename_i ht
    subst ht
    have hs := m.slot t
    rw [h] at hs
    refine ⟨?_, ?_⟩
    · exact .inr rfl
    · have hs : a.tmps.getD t undef = .slice none 0 0 := hs
      exact ⟨hs.trans hη.symm, by rw [hs]; rfl⟩
  · exact m2.slot t'
end
end Go.Proofs.Ytapciiffpnociaa
