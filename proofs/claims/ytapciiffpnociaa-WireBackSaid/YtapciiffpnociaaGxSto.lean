/- A plain logic over the walk: memory that is written. No program is named here. Condition: none. -/
import Derived.Test.YtapciiffpnociaaGxImp
namespace Go.Proofs.Ytapciiffpnociaa
open Go Go.RowKit

def Hp.set : Hp → Nat → HB → Hp
  | [], _, _ => []
  | (d, s) :: H, i, b => match Nat.beq d i with | true => (d, b) :: H | false => (d, s) :: Hp.set H i b
def Hp.del : Hp → Nat → Hp
  | [], _ => []
  | (d, s) :: H, i => match Nat.beq d i with | true => H | false => (d, s) :: Hp.del H i

theorem Hp.set_ids (i : Nat) (b : HB) : ∀ (H : Hp), (Hp.set H i b).map (·.1) = H.map (·.1)
  | [] => rfl
  | (d, s) :: H => by
    simp only [Hp.set]
    cases h : Nat.beq d i with
    | true => rfl
    | false => simp [Hp.set_ids i b H]

theorem Hp.set_mem {i : Nat} {b : HB} : ∀ (H : Hp), (H.map (·.1)).Nodup → ∀ p ∈ Hp.set H i b, p = (i, b) ∨ (p ∈ H ∧ p.1 ≠ i)
  | [], _, p, hp => by simp [Hp.set] at hp
  | (d, s) :: H, hn, p, hp => by
    obtain ⟨h1, h2⟩ := List.nodup_cons.1 hn
    simp only [Hp.set] at hp
    cases h : Nat.beq d i with
    | true =>
      have hd := Nat.eq_of_beq_eq_true h
      subst hd
      rw [h] at hp
      rcases List.mem_cons.1 hp with rfl | hp
      · exact .inl rfl
      · refine .inr ⟨List.mem_cons_of_mem _ hp, fun he => h1 ?_⟩
        exact List.mem_map.2 ⟨p, hp, he⟩
    | false =>
      have hd := Nat.ne_of_beq_eq_false h
      rw [h] at hp
      rcases List.mem_cons.1 hp with rfl | hp
      · exact .inr ⟨List.mem_cons_self .., hd⟩
      · rcases Hp.set_mem H h2 p hp with h3 | ⟨h3, h4⟩
        · exact .inl h3
        · exact .inr ⟨List.mem_cons_of_mem _ h3, h4⟩

theorem Hp.set_owned {e : Env} {i : Nat} {b b' : HB} (ho : HB.owned e (i, b') = HB.owned e (i, b)) : ∀ (H : Hp), Hp.get H i = some b → ownedL e (Hp.set H i b') = ownedL e H
  | [], h => by simp [Hp.get] at h
  | (d, s) :: H, h => by
    simp only [Hp.get] at h
    simp only [Hp.set]
    cases hb : Nat.beq d i with
    | true =>
      have hd := Nat.eq_of_beq_eq_true hb
      subst hd
      rw [hb] at h
      cases h
      unfold ownedL
      rw [List.filterMap_cons, List.filterMap_cons, ho]
    | false =>
      rw [hb] at h
      have ih := Hp.set_owned ho H h
      unfold ownedL at ih ⊢
      rw [List.filterMap_cons, List.filterMap_cons, ih]

theorem Hp.del_mem {i : Nat} : ∀ (H : Hp), (H.map (·.1)).Nodup → ∀ p ∈ Hp.del H i, p ∈ H ∧ p.1 ≠ i
  | [], _, p, hp => by simp [Hp.del] at hp
  | (d, s) :: H, hn, p, hp => by
    obtain ⟨h1, h2⟩ := List.nodup_cons.1 hn
    simp only [Hp.del] at hp
    cases h : Nat.beq d i with
    | true =>
      have hd := Nat.eq_of_beq_eq_true h
      subst hd
      rw [h] at hp
      exact ⟨List.mem_cons_of_mem _ hp, fun he => h1 (List.mem_map.2 ⟨p, hp, he⟩)⟩
    | false =>
      rw [h] at hp
      rcases List.mem_cons.1 hp with rfl | hp
      · exact ⟨List.mem_cons_self .., Nat.ne_of_beq_eq_false h⟩
      · obtain ⟨h3, h4⟩ := Hp.del_mem H h2 p hp
        exact ⟨List.mem_cons_of_mem _ h3, h4⟩

theorem Hp.del_ids {i : Nat} : ∀ (H : Hp), (H.map (·.1)).Nodup → ((Hp.del H i).map (·.1)).Nodup
  | [], _ => by simp [Hp.del]
  | (d, s) :: H, hn => by
    obtain ⟨h1, h2⟩ := List.nodup_cons.1 hn
    simp only [Hp.del]
    cases h : Nat.beq d i with
    | true => exact h2
    | false =>
      refine List.nodup_cons.2 ⟨fun hm => h1 ?_, Hp.del_ids H h2⟩
      obtain ⟨p, hp, he⟩ := List.mem_map.1 hm
      exact List.mem_map.2 ⟨p, (Hp.del_mem H h2 p hp).1, he⟩

section
variable {Γ : Ctx} {k : Nat → Prop} {L : Sl} {H : Hp} {K : Next'} {ops : List Oper} {rest : List Oper} {a : Act} {w : World} {e : Env} {t t' ty : TypeId} {x y : Operand}

theorem nodup_of_map {l : Hp} (h : (l.map (·.1)).Nodup) : l.Nodup :=
  List.Pairwise.of_map (f := fun p : Nat × HB => p.1) (S := (· ≠ ·)) (fun _ _ hab he => hab (by rw [he])) h

theorem Models.owned_ne (m : Models Γ k L H e a w) {p q : Nat × HB} (hp : p ∈ H) (hq : q ∈ H) (hne : p.1 ≠ q.1) {b : Nat} (h1 : HB.owned e p = some b) (h2 : HB.owned e q = some b) : False :=
  hne (by rw [filterMap_inj _ H m.nodup p q b hp hq h1 h2])

/-- An owned thing is turned, where it lies. -/
theorem Models.turn (m : Models Γ k L H e a w) {i : Nat} {b b' : HB} (hH : Hp.get H i = some b) {w' : World} (hs : w.heap.size ≤ w'.heap.size) (hos : w'.os = w.os) (htape : w'.tape = w.tape) (hout : w'.output = w.output)
    (hblk : ∀ c, c < w.heap.size → HB.owned e (i, b) ≠ some c → w'.heap[c]? = w.heap[c]?) (ho : HB.owned e (i, b') = HB.owned e (i, b)) (hr : HRel (Γ.X e H) e w' (i, b')) : Models Γ k L (Hp.set H i b') e a w' := by
  have hmem := Hp.mem_of hH
  have hol : ownedL e (Hp.set H i b') = ownedL e H := Hp.set_owned ho H hH
  have hX : Γ.X e (Hp.set H i b') = Γ.X e H := by unfold Ctx.X; rw [hol]
  have hno : ∀ c, HB.owned e (i, b) = some c → c ∈ ownedL e H := fun c hc => List.mem_filterMap.2 ⟨_, hmem, hc⟩
  have hkeep : ∀ c, c < w.heap.size → ¬ Γ.X e H c → w'.heap[c]? = w.heap[c]? := fun c hc hx => hblk c hc fun h => hx (.inr (hno c h))
  refine ⟨⟨m.top, fun p hp => ?_, by rw [Hp.set_ids]; exact m.ids, by rw [hol]; exact m.nodup, fun c hc => m.mine c (hol ▸ hc), hos.trans m.os, htape.trans m.tape, hout.trans m.output, Nat.le_trans m.size hs,
    fun c h1 h2 => (hblk c (Nat.lt_of_lt_of_le h1 m.size) fun h => ?_).trans (m.block c h1 h2), m.obound, m.jle, m.anchor⟩, m.defers, m.len, fun t => ?_⟩
  · rw [hX]
    rcases Hp.set_mem H m.ids p hp with rfl | ⟨hp, hne⟩
    · exact ⟨(m.heap _ hmem).1, hr⟩
    · refine ⟨(m.heap p hp).1, HRel.keep hs hkeep (fun _ _ h => h) p (fun c hc => hblk c (m.lt c (List.mem_filterMap.2 ⟨p, hp, hc⟩)) fun h => m.owned_ne hp hmem hne hc h) (m.heap p hp).2⟩
  · rcases (m.mine c (hno c h)).1 with h3 | h3
    · exact h2 h3
    · omega
  · rw [hX]; exact Rel.keep hs hkeep (fun _ _ h => h) _ _ (m.slot t)

/-- An owned thing goes, and a new one comes, maybe in its block. -/
theorem Models.trade (m : Models Γ k L H e a w) {i : Nat} {b : HB} (hH : Hp.get H i = some b) {x : Nat} (hx : ¬ k x) {e' : Env} {w' : World} {hb : HB} (hek : ∀ i, e'.dom i ↔ with1 k x i) (he : ∀ i, e.dom i → e'.β i = e.β i ∧ e'.η i = e.η i)
    (hs : w.heap.size ≤ w'.heap.size) (hos : w'.os = w.os) (htape : w'.tape = w.tape) (hout : w'.output = w.output)
    (hblk : ∀ c, c < w.heap.size → HB.owned e (i, b) ≠ some c → w'.heap[c]? = w.heap[c]?)
    (ho : ∀ c, HB.owned e' (x, hb) = some c → HB.owned e (i, b) = some c ∨ w.heap.size ≤ c)
    (hr0 : (∀ c, c < w.heap.size → Γ.X e' ((x, hb) :: Hp.del H i) c → Γ.X e H c) → HRel (Γ.X e' ((x, hb) :: Hp.del H i)) e' w' (x, hb)) : Models Γ (with1 k x) L ((x, hb) :: Hp.del H i) e' a w' := by
  have hmem := Hp.mem_of hH
  have hlt : ∀ p ∈ H, e.dom p.1 := fun p hp => (m.heap p hp).1
  have hd := Hp.del_mem (i := i) H m.ids
  have hk : ∀ i, e.dom i → e'.dom i := fun i hi => (hek i).2 (.inl ((m.top i).1 hi))
  have hol : ownedL e' (Hp.del H i) = ownedL e (Hp.del H i) := ownedL_ext he _ fun p hp => hlt p (hd p hp).1
  have hsub : ∀ c, c ∈ ownedL e (Hp.del H i) → c ∈ ownedL e H ∧ HB.owned e (i, b) ≠ some c := by
    intro c hc
    obtain ⟨p, hp, hpc⟩ := List.mem_filterMap.1 hc
    exact ⟨List.mem_filterMap.2 ⟨p, (hd p hp).1, hpc⟩, fun h => m.owned_ne (hd p hp).1 hmem (hd p hp).2 hpc h⟩
  have hno : ∀ c, HB.owned e (i, b) = some c → c ∈ ownedL e H := fun c hc => List.mem_filterMap.2 ⟨_, hmem, hc⟩
  have hcons : ∀ c, c ∈ ownedL e' ((x, hb) :: Hp.del H i) → HB.owned e' (x, hb) = some c ∨ c ∈ ownedL e (Hp.del H i) := by
    intro c hbm
    unfold ownedL at hbm
    rw [List.filterMap_cons] at hbm
    split at hbm
    · exact .inr (hol ▸ hbm)
    · rename_i c' hc
      rcases List.mem_cons.1 hbm with rfl | h
      · exact .inl hc
      · exact .inr (hol ▸ h)
  have hX : ∀ c, c < w.heap.size → Γ.X e' ((x, hb) :: Hp.del H i) c → Γ.X e H c := by
    intro c hcl hx
    rcases hx with hx | hx
    · exact .inl hx
    · rcases hcons c hx with h | h
      · rcases ho c h with h | h
        · exact .inr (hno c h)
        · omega
      · exact .inr (hsub c h).1
  have hr := hr0 hX
  have hkeep : ∀ c, c < w.heap.size → ¬ Γ.X e H c → w'.heap[c]? = w.heap[c]? := fun c hc hx => hblk c hc fun h => hx (.inr (hno c h))
  have hnd : (ownedL e (Hp.del H i)).Nodup := filterMap_nodup _ H m.nodup _ (nodup_of_map (Hp.del_ids H m.ids)) fun p hp => (hd p hp).1
  refine ⟨⟨hek, fun p hp => ?_, ?_, ?_, fun c hbm => ?_, hos.trans m.os, htape.trans m.tape, hout.trans m.output, Nat.le_trans m.size hs,
    fun c h1 h2 => (hblk c (Nat.lt_of_lt_of_le h1 m.size) fun h => ?_).trans (m.block c h1 h2), m.obound, fun j hj => .inl (m.jle j hj), fun j hj => (he j ((m.top j).2 (m.jle j hj))).1.trans (m.anchor j hj)⟩, m.defers, m.len, fun t => ?_⟩
  · rcases List.mem_cons.1 hp with rfl | hp
    · exact ⟨(hek x).2 (.inr rfl), hr⟩
    · obtain ⟨hp, hne⟩ := hd p hp
      refine ⟨hk _ (hlt p hp), ?_⟩
      have h1 := HRel.ext hk he p (hlt p hp) (m.heap p hp).2
      refine HRel.keep hs hkeep hX p (fun c hob => ?_) h1
      rw [owned_ext he p (hlt p hp)] at hob
      exact hblk c (m.lt c (List.mem_filterMap.2 ⟨p, hp, hob⟩)) fun h => m.owned_ne hp hmem hne hob h
  · refine List.nodup_cons.2 ⟨fun hm => ?_, Hp.del_ids H m.ids⟩
    obtain ⟨p, hp, hpk⟩ := List.mem_map.1 hm
    have := (m.top _).1 (hlt p (hd p hp).1)
    simp at hpk
    exact hx (hpk ▸ this)
  · unfold ownedL
    rw [List.filterMap_cons]
    split
    · exact (show (ownedL e' (Hp.del H i)).Nodup from hol ▸ hnd)
    · rename_i c hc
      refine List.nodup_cons.2 ⟨fun hm => ?_, (show (ownedL e' (Hp.del H i)).Nodup from hol ▸ hnd)⟩
      have h2 := hsub c (show c ∈ ownedL e (Hp.del H i) from hol ▸ hm)
      rcases ho c hc with h1 | h1
      · exact h2.2 h1
      · have := m.lt c h2.1; omega
  · rcases hcons c hbm with h | h
    · rcases ho c h with h1 | h1
      · exact m.mine c (hno c h1)
      · exact ⟨.inr (Nat.le_trans m.size h1), fun hO => by have := (m.obound c hO).1; have := m.size; omega⟩
    · exact m.mine c (hsub c h).1
  · rcases (m.mine c (hno c h)).1 with h3 | h3
    · exact h2 h3
    · omega
  · exact Rel.keep hs hkeep hX _ _ (Rel.ext hk he _ _ (m.slot t))

def splice (cs : List SV) (o : Nat) (ss : List SV) : List SV := cs.take o ++ ss ++ cs.drop (o + ss.length)

theorem op_store {te tb ty : TypeId} {pos : String} {af : Array Edge} {g : Option (Nat × Bool)} {i o : Nat} {cs : List SV} {s : SV} (hx : opSV L x = .loc i o) (hH : Hp.get H i = some (.blk tb cs)) (hy : opSV L y = s) (hyo : opOkB y = true) (hv : s.isVar = true)
    (hkn : (Γ.sh te).known = true) (hn : Nat.beq s.cells.length (Γ.cells te) = true) (hle : Nat.ble (o + s.cells.length) cs.length = true) :
    OpOk Γ ⟨none, .store te x y, ty, pos, af, g⟩ k L H k L (Hp.set H i (.blk tb (splice cs o s.cells))) := by
  intro e a w Q m
  obtain ⟨inf, z, hi, _, hs, _⟩ := Ctx.info (Sh.known_ne hkn)
  obtain ⟨_, hp⟩ := evT m hx (cSV_loc · _ _)
  have hr := m.op y (opOkB_spec hyo)
  rw [hy] at hr
  obtain ⟨g1, g2⟩ := cells_spec hv hr
  obtain ⟨vs, h1, h2, h3⟩ := (m.heap _ (Hp.mem_of hH)).2
  have hl := RelL.length _ _ h2
  have hl2 := RelL.length _ _ g1
  have hle' := Nat.le_of_ble_eq_true hle
  have hn' := Nat.eq_of_beq_eq_true hn
  have hst := run_storeCells_at Γ.P (e.β i) o tb (a.eval y).cells.toList 0 vs.toArray w h1 (by simp; rw [← hl, ← Array.length_toList, ← hl2]; omega) g2
  have hrun : (execOp a.eval ⟨none, .store te x y, ty, pos, af, g⟩).run Γ.P w = .ok .skip (w.setRow (e.β i) (vs.take o ++ (a.eval y).cells.toList ++ vs.drop (o + (a.eval y).cells.toList.length)).toArray) := by
    have hsz : (a.eval y).cells.size = inf.size := by rw [← Array.length_toList, ← hl2, hn', hs]
    simp only [execOp, Instr.storeAt, hp, Instr.sureAddr]
    simp [storeVar, run_sizeOf hi, hsz, hst]
  unfold Oper.wp
  rw [hrun]
  refine ⟨e, m.turn (b' := .blk tb (splice cs o s.cells)) hH ?_ rfl rfl rfl (fun c _ hc => setRow_other w _ c _ (fun h => hc (by simp [HB.owned, h]))) rfl ?_⟩
  · simp [World.setRow]
  · refine ⟨_, setRow_heap w (e.β i) vs.toArray _ tb (0, 0) h1, ?_, fun v hv => ?_⟩
    · have hkeep : ∀ b, b < w.heap.size → ¬ Γ.X e H b → (w.setRow (e.β i) (vs.take o ++ (a.eval y).cells.toList ++ vs.drop (o + (a.eval y).cells.toList.length)).toArray).heap[b]? = w.heap[b]? := fun b _ hb => setRow_other w _ b _ (fun h => hb (.inr (List.mem_filterMap.2 ⟨_, Hp.mem_of hH, by simp [HB.owned, h]⟩)))
      refine RelL.keep (by simp [World.setRow]) hkeep (fun _ _ h => h) _ _ ?_
      unfold splice
      rw [hl2]
      exact RelL.append _ _ _ _ (RelL.append _ _ _ _ (RelL.take _ _ h2 o) g1) (RelL.drop _ _ h2 _)
    · simp only [List.mem_append] at hv
      rcases hv with (hv | hv) | hv
      · exact h3 v (List.mem_of_mem_take hv)
      · exact g2 v hv
      · exact h3 v (List.mem_of_mem_drop hv)
end
section
variable {Γ : Ctx} {k : Nat} {L : Sl} {H : Hp} {K : Next'} {ops : List Oper} {rest : List Oper} {a : Act} {w : World} {e : Env} {t t' ty : TypeId} {x y : Operand}
theorem dl_store {te tb ty : TypeId} {pos : String} {af : Array Edge} {g : Option (Nat × Bool)} {i o : Nat} {cs : List SV} {s : SV} (hx : opSV L x = .loc i o) (hH : Hp.get H i = some (.blk tb cs)) (hy : opSV L y = s) (hyo : opOkB y = true) (hv : s.isVar = true)
    (hkn : (Γ.sh te).known = true) (hn : Nat.beq s.cells.length (Γ.cells te) = true) (hle : Nat.ble (o + s.cells.length) cs.length = true) (hw : wantedSV ops L g = some true)
    (hk : DL Γ ops rest K k L (Hp.set H i (.blk tb (splice cs o s.cells)))) : DL Γ ops (⟨none, .store te x y, ty, pos, af, g⟩ :: rest) K k L H :=
  dl_op hw (op_store hx hH hy hyo hv hkn hn hle) hk
end
end Go.Proofs.Ytapciiffpnociaa
