/- A plain logic over the walk: slices and memory that is read. No program is named here. Condition: none. -/
import Derived.Test.YtapciiffpnociaaGxOps
namespace Go.Proofs.Ytapciiffpnociaa
open Go Go.RowKit

section
variable {Γ : Ctx} {k : Nat → Prop} {L : Sl} {H : Hp} {K : Next'} {ops : List Oper} {rest : List Oper} {a : Act} {w : World} {e : Env} {t t' ty : TypeId} {x y : Operand}

theorem Addr.add_at (b off j : Nat) : (⟨b, off, none⟩ : Addr).add j = ⟨b, off + j, none⟩ := by
  unfold Go.Addr.add
  split
  · rename_i h; subst h; rfl
  · rfl

/-- What an operand that is not a constant is known to be. -/
theorem evT (m : Models Γ k L H e a w) {x : Operand} {s : SV} (h : opSV L x = s) (hs : ∀ v, cSV v ≠ s) : Rel (Γ.X e H) e w s (a.eval x) := by
  cases x with
  | tmp t => rw [← h]; exact m.slot t
  | const v => exact absurd h (hs v)
  | global g => rw [← h]; trivial
  | func f => rw [← h]; exact ⟨[], rfl, trivial⟩

theorem cSV_slice (v : Value) (es : Nat) (xs : List (List D)) : cSV v ≠ .d (.slice es xs) := by unfold cSV; split <;> simp
theorem cSV_pd (v : Value) (ds : List D) : cSV v ≠ .pd ds := by unfold cSV; split <;> simp
theorem cSV_loc (v : Value) (i o : Nat) : cSV v ≠ .loc i o := by unfold cSV; split <;> simp
theorem cSV_row (v : Value) (i : Nat) : cSV v ≠ .row i := by unfold cSV; split <;> simp
theorem cSV_prow (v : Value) (i j s o : Nat) : cSV v ≠ .prow i j s o := by unfold cSV; split <;> simp
theorem cSV_agg (v : Value) (ss : List SV) : cSV v ≠ .agg ss := by unfold cSV; split <;> simp
theorem cSV_tup (v : Value) (ss : List SV) : cSV v ≠ .tup ss := by unfold cSV; split <;> simp

theorem RepC.slice_inv {X w v es xs} (h : RepC X w v (.slice es xs)) : ∃ ao cap, v = .slice ao xs.length cap ∧ xs.length ≤ cap ∧ cap ≤ maxLen ∧ (ao = none → xs = []) := by
  cases h with
  | nil => exact ⟨none, 0, rfl, by simp, Nat.zero_le _, fun _ => rfl⟩
  | zero => exact ⟨_, 0, rfl, by simp, Nat.zero_le _, fun _ => rfl⟩
  | slice c hn hc hm => subst hn; exact ⟨_, _, rfl, hc, hm, fun h => by cases h⟩

theorem ev_len_d {es : Nat} {xs : List (List D)} (ht : Γ.sh t = .slice t') (hx : opSV L x = .d (.slice es xs)) : Ev Γ k L H (.call { callee := .builtin .len, args := #[x], argTypes := #[t] }) ty (.d (.int .i64 xs.length)) := by
  intro e a w m
  obtain ⟨ao, cap, hv, h1, h2, _⟩ := (evT m hx (cSV_slice · _ _)).slice_inv
  refine ⟨.int .i64 xs.length, fun _ _ _ _ w' _ => ?_, .int (WalkArith.wf_i64 (by unfold maxLen at h2; omega))⟩
  simp [execOp, resolve, invoke, builtin, hv, Builtin.len_, goInt, run_underlying (Ctx.slice ht)]

theorem ev_len_map {α : Type} {es : Nat} {l : List α} {f : α → List D} (ht : Γ.sh t = .slice t') (hx : opSV L x = .d (.slice es (l.map f))) : Ev Γ k L H (.call { callee := .builtin .len, args := #[x], argTypes := #[t] }) ty (.d (.int .i64 l.length)) := by
  have := ev_len_d (Γ := Γ) (k := k) (L := L) (H := H) (ty := ty) ht hx
  simpa using this

theorem ev_len_nils (ht : Γ.sh t = .slice t') (hx : opSV L x = .nils) : Ev Γ k L H (.call { callee := .builtin .len, args := #[x], argTypes := #[t] }) ty (.d (.int .i64 0)) := by
  intro e a w m
  have hv : a.eval x = .slice none 0 0 := by
    have hok : opOk x := by
      cases x with
      | const v => simp only [opSV] at hx; unfold cSV at hx; split at hx <;> simp_all [opOk, cOk]
      | _ => trivial
    have := m.op x hok
    rw [hx] at this; exact this
  refine ⟨.int .i64 0, fun _ _ _ _ w' _ => ?_, .int (by decide)⟩
  simp [execOp, resolve, invoke, builtin, hv, Builtin.len_, goInt, run_underlying (Ctx.slice ht)]

theorem Hp.mem_of {id : Nat} {b : HB} (h : Hp.get H id = some b) : (id, b) ∈ H := Hp.get_mem H id b h

theorem ev_len_row {id es : Nat} {xs : List (List D)} {te : TypeId} (ht : Γ.sh t = .slice t') (hx : opSV L x = .row id) (hH : Hp.get H id = some (.row te es xs)) :
    Ev Γ k L H (.call { callee := .builtin .len, args := #[x], argTypes := #[t] }) ty (.d (.int .i64 xs.length)) := by
  intro e a w m
  have hv := (evT m hx (cSV_row · _)).2.1
  obtain ⟨vs, ho, _⟩ := (m.heap _ (Hp.mem_of hH)).2
  have hs : ∃ ao cap, e.η id = .slice ao xs.length cap ∧ xs.length ≤ maxLen := by
    rcases ho.2 with ⟨h1, h2⟩ | ⟨g, cap, cur, h1, _, _, h3, h4, _⟩
    · exact ⟨none, 0, by rw [h1, h2], by rw [h2]; exact Nat.zero_le _⟩
    · exact ⟨_, _, h1, Nat.le_trans h3 h4⟩
  obtain ⟨ao, cap, hs, hm⟩ := hs
  rw [hs] at hv
  refine ⟨.int .i64 xs.length, fun _ _ _ _ w' _ => ?_, .int (WalkArith.wf_i64 (by unfold maxLen at hm; omega))⟩
  simp [execOp, resolve, invoke, builtin, hv, Builtin.len_, goInt, run_underlying (Ctx.slice ht)]

theorem RepC.at {X w v es} {xs : List (List D)} (h : RepC X w v (.slice es xs)) (i : Nat) (hi : i < xs.length) : ∃ b off n cap, v = .slice (some ⟨b, off, none⟩) n cap ∧ n = xs.length ∧ ¬ X b ∧ b < w.heap.size ∧
    ∀ j (hj : j < xs[i].length), ∃ u, w.cell? ⟨b, off + i * es + j, none⟩ = some u ∧ RepC X w u xs[i][j] := by
  cases h with
  | nil => simp at hi
  | zero => simp at hi
  | slice c hn hc hm hX hb he hcell hrep => exact ⟨_, _, _, _, rfl, hn, hX, hb, fun j hj => ⟨_, hcell i hi j hj, hrep i hi j hj⟩⟩

theorem run_sizeOf {inf : TypeInfo} (h : Γ.P.info? t = some inf) (w : World) : (sizeOf t).run Γ.P w = .ok inf.size w := by
  simp [sizeOf, typeInfo, h]

theorem ev_index_d {es : Nat} {xs : List (List D)} {n : Int} (ht : Γ.sh t = .slice t') (hc : Γ.cells t' = es) (hkn : (Γ.sh t').known = true) (hx : opSV L x = .d (.slice es xs)) (hy : opSV L y = .d (.int .i64 n))
    (h0 : 0 ≤ n) (h1 : n.toNat < xs.length) : Ev Γ k L H (.indexAddr t x y) ty (.pd (xs[n.toNat]'h1)) := by
  intro e a w m
  have ho := Sh.known_ne hkn
  obtain ⟨b, off, n', cap, hv, hn, hX, hb, hcell⟩ := (evT m hx (cSV_slice · _ _)).at _ h1
  obtain ⟨inf, z, hi, _, hs, _⟩ := Ctx.info ho
  refine ⟨.pointer (some ⟨b, off + n.toNat * es, none⟩), fun _ _ _ _ w' _ => ?_, ⟨b, _, rfl, hb, hX, hcell⟩⟩
  have hlt : n < (n' : Int) := by omega
  simp [execOp, Instr.indexAt, hv, evI m hy, asIntOf, run_underlying (Ctx.slice ht), h0, hlt, run_sizeOf hi, hs, hc, Addr.add_at]

/-- At an index that is a plain number, into data that are made one by one. -/
theorem ev_index_map {α : Type} {es : Nat} {l : List α} {f : α → List D} {n : Int} {j : Nat} (ht : Γ.sh t = .slice t') (hc : Γ.cells t' = es) (hkn : (Γ.sh t').known = true) (hx : opSV L x = .d (.slice es (l.map f))) (hy : opSV L y = .d (.int .i64 n))
    (hn : n = j) (h1 : j < l.length) : Ev Γ k L H (.indexAddr t x y) ty (.pd (f (l[j]'h1))) := by
  subst hn
  have := ev_index_d (Γ := Γ) (k := k) (L := L) (H := H) (ty := ty) (t := t) (x := x) (y := y) ht hc hkn hx hy (by omega) (by simpa using h1)
  simpa using this

theorem ev_fieldAddr {s : TypeId} {f off fty sz : Nat} {l} {a0 a1 : SV} (hs : Γ.sh s = .struct l) (hf : l[f]? = some (off, fty, sz)) (hz : Nat.beq sz 0 = false)
    (hx : opSV L x = a0) (ha : (∃ ds, a0 = .pd ds ∧ a1 = .pd (ds.drop off)) ∨ (∃ i o, a0 = .loc i o ∧ a1 = .loc i (o + off)) ∨ (∃ i j es o, a0 = .prow i j es o ∧ a1 = .prow i j es (o + off))) :
    Ev Γ k L H (.fieldAddr s x f) ty a1 := by
  obtain ⟨fs, hu, hl⟩ := Ctx.struct hs
  subst hl
  rw [List.getElem?_map] at hf
  cases hff : fs.toList[f]? with
  | none => rw [hff] at hf; cases hf
  | some fd =>
    rw [hff] at hf
    simp only [Option.map_some, Option.some.injEq, Prod.mk.injEq] at hf
    obtain ⟨h1, h2, h3⟩ := hf
    have hfa : fs[f]? = some fd := by rw [← Array.getElem?_toList]; exact hff
    have hinf : ∃ inf, Γ.P.info? fd.type = some inf ∧ inf.size ≠ 0 := by
      cases hi : Γ.P.info? fd.type with
      | none => rw [hi] at h3; exact absurd h3.symm (Nat.ne_of_beq_eq_false hz)
      | some inf => rw [hi] at h3; exact ⟨inf, rfl, fun h => Nat.ne_of_beq_eq_false hz (by rw [← h3, ← h]; rfl)⟩
    obtain ⟨inf, hi, hne⟩ := hinf
    have run : ∀ (b o : Nat) (A : Act) (dst : Option Tmp) pos after guard w', A.eval x = .pointer (some ⟨b, o, none⟩) →
        (execOp A.eval ⟨dst, .fieldAddr s x f, ty, pos, after, guard⟩).run Γ.P w' = .ok (.value (.pointer (some ⟨b, o + off, none⟩))) w' := by
      intro b o A dst pos after guard w' hA
      simp [execOp, Instr.fieldAt, hA, run_underlying hu, hfa, Instr.sureAddr, fieldPlace, run_sizeOf hi, hne, h1, Addr.add_at]
    intro e A w m
    rcases ha with ⟨ds, rfl, rfl⟩ | ⟨i, o, rfl, rfl⟩ | ⟨i, j, es, o, rfl, rfl⟩
    · obtain ⟨b, o, hv, hb, hX, hcell⟩ := evT m hx (cSV_pd · _)
      refine ⟨_, fun dst pos after guard w' _ => run b o A dst pos after guard w' hv, ⟨b, _, rfl, hb, hX, fun j hj => ?_⟩⟩
      have hj' : off + j < ds.length := by simp at hj; omega
      obtain ⟨u, g1, g2⟩ := hcell (off + j) hj'
      exact ⟨u, by rw [Nat.add_assoc]; exact g1, by simpa using g2⟩
    · obtain ⟨hid, hv⟩ := evT m hx (cSV_loc · _ _)
      exact ⟨_, fun dst pos after guard w' _ => run _ o A dst pos after guard w' hv, ⟨hid, rfl⟩⟩
    · obtain ⟨hid, g, n, cap, h5, hv⟩ := evT m hx (cSV_prow · _ _ _ _)
      exact ⟨_, fun dst pos after guard w' _ => run _ _ A dst pos after guard w' hv, ⟨hid, g, n, cap, h5, by rw [Nat.add_assoc]⟩⟩

theorem ev_field_pd {s : TypeId} {f off fty sz : Nat} {l} {ds : List D} (hs : Γ.sh s = .struct l) (hf : l[f]? = some (off, fty, sz)) (hz : Nat.beq sz 0 = false) (hx : opSV L x = .pd ds) : Ev Γ k L H (.fieldAddr s x f) ty (.pd (ds.drop off)) :=
  ev_fieldAddr hs hf hz hx (.inl ⟨ds, rfl, rfl⟩)
theorem ev_field_loc {s : TypeId} {f off fty sz i o : Nat} {l} (hs : Γ.sh s = .struct l) (hf : l[f]? = some (off, fty, sz)) (hz : Nat.beq sz 0 = false) (hx : opSV L x = .loc i o) : Ev Γ k L H (.fieldAddr s x f) ty (.loc i (o + off)) :=
  ev_fieldAddr hs hf hz hx (.inr (.inl ⟨i, o, rfl, rfl⟩))
theorem ev_field_prow {s : TypeId} {f off fty sz i j es o : Nat} {l} (hs : Γ.sh s = .struct l) (hf : l[f]? = some (off, fty, sz)) (hz : Nat.beq sz 0 = false) (hx : opSV L x = .prow i j es o) : Ev Γ k L H (.fieldAddr s x f) ty (.prow i j es (o + off)) :=
  ev_fieldAddr hs hf hz hx (.inr (.inr ⟨i, j, es, o, rfl, rfl⟩))

theorem run_load1 (ho : Γ.sh t ≠ .other) (hg : (Γ.sh t).isAgg = false) {A : Act} {p : Addr} {v : Value} {w' : World} (hA : A.eval x = .pointer (some p)) (hc : w'.cell? p = some v) (dst : Option Tmp) (pos) (after) (guard) :
    (execOp A.eval ⟨dst, .load t x, ty, pos, after, guard⟩).run Γ.P w' = .ok (.value v) w' := by
  simp [execOp, Instr.loadAt, hA, Instr.sureAddr, loadVar, Ctx.agg ho, hg, hc]

theorem cell_below {w w' : World} (hb : Below w.heap.size w w') {p : Addr} {v : Value} (h : w.cell? p = some v) : w'.cell? p = some v := by
  rw [hb.cell (World.block_lt_of_cell? w p h)]; exact h

theorem ev_load_pd {d0 : D} {ds : List D} (hkn : (Γ.sh t).known = true) (hg : (Γ.sh t).isAgg = false) (hx : opSV L x = .pd (d0 :: ds)) : Ev Γ k L H (.load t x) ty (.d d0) := by
  intro e a w m
  have ho := Sh.known_ne hkn
  obtain ⟨b, off, hv, hb, hX, hcell⟩ := evT m hx (cSV_pd · _)
  obtain ⟨u, g1, g2⟩ := hcell 0 (by simp)
  exact ⟨u, fun _ _ _ _ w' hw => run_load1 ho hg hv (cell_below hw g1) _ _ _ _, g2⟩

theorem HRel.blk_cell {X e w} {id : Nat} {te : TypeId} {cs : List SV} (h : HRel X e w (id, .blk te cs)) {o : Nat} {s : SV} (hc : cs[o]? = some s) : ∃ v, w.cell? ⟨e.β id, o, none⟩ = some v ∧ Rel X e w s v := by
  obtain ⟨vs, h1, h2, _⟩ := h
  obtain ⟨v, g1, g2⟩ := RelL.get cs vs h2 o s hc
  exact ⟨v, by rw [cell_of_row w _ o _ te (0, 0) h1]; simpa using g1, g2⟩

theorem ev_load_loc {i o : Nat} {te : TypeId} {cs : List SV} {s : SV} (hkn : (Γ.sh t).known = true) (hg : (Γ.sh t).isAgg = false) (hx : opSV L x = .loc i o) (hH : Hp.get H i = some (.blk te cs)) (hc : cs[o]? = some s) :
    Ev Γ k L H (.load t x) ty s := by
  intro e a w m
  have ho := Sh.known_ne hkn
  obtain ⟨_, hv⟩ := evT m hx (cSV_loc · _ _)
  obtain ⟨v, g1, g2⟩ := HRel.blk_cell (m.heap _ (Hp.mem_of hH)).2 hc
  exact ⟨v, fun _ _ _ _ w' hw => run_load1 ho hg hv (cell_below hw g1) _ _ _ _, g2⟩

theorem ev_nilCheck {s : SV} (hx : opSV L x = s) (hs : (∃ ds, s = .pd ds) ∨ (∃ i o, s = .loc i o) ∨ (∃ i j es o, s = .prow i j es o)) : Ev Γ k L H (.nilCheck x) ty s := by
  intro e a w m
  have hv : ∃ p, a.eval x = .pointer (some p) ∧ Rel (Γ.X e H) e w s (a.eval x) := by
    rcases hs with ⟨ds, rfl⟩ | ⟨i, o, rfl⟩ | ⟨i, j, es, o, rfl⟩
    · have hr := evT m hx (cSV_pd · _); obtain ⟨b, off, hv, _⟩ := hr; exact ⟨_, hv, evT m hx (cSV_pd · _)⟩
    · have hr := evT m hx (cSV_loc · _ _); exact ⟨_, hr.2, hr⟩
    · have hr := evT m hx (cSV_prow · _ _ _ _); obtain ⟨_, g, n, cap, _, hv⟩ := hr; exact ⟨_, hv, evT m hx (cSV_prow · _ _ _ _)⟩
  obtain ⟨p, hv, hr⟩ := hv
  exact ⟨a.eval x, fun _ _ _ _ w' _ => by simp [execOp, hv], hr⟩

theorem ev_extract {i : Nat} {ss : List SV} {s : SV} (hx : opSV L x = .tup ss) (hi : ss[i]? = some s) : Ev Γ k L H (.extract x i) ty s := by
  intro e a w m
  obtain ⟨vs, hv, hr⟩ := evT m hx (cSV_tup · _)
  obtain ⟨v, g1, g2⟩ := RelL.get ss vs hr i s hi
  exact ⟨v, fun _ _ _ _ w' _ => by simp [execOp, Instr.extract, hv, g1], g2⟩

theorem RelL.drop {X e w} : ∀ (ss : List SV) (vs : List Value), RelL X e w ss vs → ∀ n, RelL X e w (ss.drop n) (vs.drop n)
  | _, _, h, 0 => h
  | [], [], _, _ + 1 => trivial
  | [], _ :: _, h, _ => h.elim
  | _ :: _, [], h, _ => h.elim
  | _ :: ss, _ :: vs, ⟨_, h⟩, n + 1 => RelL.drop ss vs h n
theorem RelL.take {X e w} : ∀ (ss : List SV) (vs : List Value), RelL X e w ss vs → ∀ n, RelL X e w (ss.take n) (vs.take n)
  | _, _, _, 0 => by simp [RelL]
  | [], [], _, _ + 1 => trivial
  | [], _ :: _, h, _ => h.elim
  | _ :: _, [], h, _ => h.elim
  | _ :: ss, _ :: vs, ⟨h1, h2⟩, n + 1 => ⟨h1, RelL.take ss vs h2 n⟩
theorem RelL.append {X e w} : ∀ (ss : List SV) (vs : List Value) (ss' : List SV) (vs' : List Value), RelL X e w ss vs → RelL X e w ss' vs' → RelL X e w (ss ++ ss') (vs ++ vs')
  | [], [], _, _, _, h => h
  | [], _ :: _, _, _, h, _ => h.elim
  | _ :: _, [], _, _, h, _ => h.elim
  | _ :: ss, _ :: vs, ss', vs', ⟨h1, h2⟩, h => ⟨h1, RelL.append ss vs ss' vs' h2 h⟩

theorem HRel.blk_cells {X e w} {id : Nat} {te : TypeId} {cs : List SV} (h : HRel X e w (id, .blk te cs)) (o n : Nat) (hn : o + n ≤ cs.length) :
    ∃ vs : List Value, vs.length = n ∧ (∀ j v, vs[j]? = some v → w.cell? ((⟨e.β id, o, none⟩ : Addr).add j) = some v) ∧ RelL X e w ((cs.drop o).take n) vs ∧ ∀ v ∈ vs, v.oneCell' = true := by
  obtain ⟨vs, h1, h2, h3⟩ := h
  have hl := RelL.length _ _ h2
  refine ⟨(vs.drop o).take n, by simp; omega, fun j v hj => ?_, RelL.take _ _ (RelL.drop _ _ h2 o) n, fun v hv => h3 v (List.mem_of_mem_drop (List.mem_of_mem_take hv))⟩
  rw [Addr.add_at, cell_of_row w _ _ _ te (0, 0) h1]
  rw [List.getElem?_take] at hj
  split at hj
  · simpa using hj
  · cases hj

theorem run_load_agg (ho : Γ.sh t ≠ .other) (hg : (Γ.sh t).isAgg = true) {p : Addr} {vs : List Value} {w' : World} (hn : vs.length = Γ.cells t) (hc : ∀ j v, vs[j]? = some v → w'.cell? (p.add j) = some v) :
    (loadVar t p).run Γ.P w' = .ok (.agg vs.toArray) w' := by
  obtain ⟨inf, z, hi, _, hs, _⟩ := Ctx.info ho
  have := run_loadCells_list (P := Γ.P) (w := w') p vs hc
  rw [hn, ← hs] at this
  simp [loadVar, Ctx.agg ho, hg, run_sizeOf hi, this]

theorem ev_load_agg_loc {i o : Nat} {te : TypeId} {cs : List SV} {l} (ht : Γ.sh t = .struct l) (hx : opSV L x = .loc i o) (hH : Hp.get H i = some (.blk te cs)) (hn : Nat.ble (o + Γ.cells t) cs.length = true) :
    Ev Γ k L H (.load t x) ty (.agg ((cs.drop o).take (Γ.cells t))) := by
  intro e a w m
  obtain ⟨_, hv⟩ := evT m hx (cSV_loc · _ _)
  obtain ⟨vs, g1, g2, g3, _⟩ := HRel.blk_cells (m.heap _ (Hp.mem_of hH)).2 o (Γ.cells t) (Nat.le_of_ble_eq_true hn)
  have ho : Γ.sh t ≠ .other := by rw [ht]; intro h; cases h
  refine ⟨.agg vs.toArray, fun _ _ _ _ w' hw => ?_, ⟨vs, rfl, g3⟩⟩
  have hr := run_load_agg (Γ := Γ) (t := t) (w' := w') (p := ⟨e.β i, o, none⟩) ho (by rw [ht]; rfl) g1 (fun j v hj => cell_below hw (g2 j v hj))
  simp [execOp, Instr.loadAt, hv, Instr.sureAddr, hr]

theorem ev_load_agg_pd {ds : List D} {l} (ht : Γ.sh t = .struct l) (hx : opSV L x = .pd ds) (hnb : Nat.ble (Γ.cells t) ds.length = true) : Ev Γ k L H (.load t x) ty (.agg ((ds.take (Γ.cells t)).map .d)) := by
  intro e a w m
  have hn := Nat.le_of_ble_eq_true hnb
  obtain ⟨b, off, hv, hb, hX, hcell⟩ := evT m hx (cSV_pd · _)
  have ho : Γ.sh t ≠ .other := by rw [ht]; intro h; cases h
  have key : ∀ n, n ≤ ds.length → ∃ vs : List Value, vs.length = n ∧ (∀ j v, vs[j]? = some v → w.cell? ((⟨b, off, none⟩ : Addr).add j) = some v) ∧ RelL (Γ.X e H) e w ((ds.take n).map .d) vs := by
    intro n
    induction n with
    | zero => intro _; exact ⟨[], rfl, by simp, by simp [RelL]⟩
    | succ n ih =>
      intro hle
      obtain ⟨vs, h1, h2, h3⟩ := ih (by omega)
      obtain ⟨u, g1, g2⟩ := hcell n (by omega)
      refine ⟨vs ++ [u], by simp [h1], fun j v hj => ?_, ?_⟩
      · by_cases hlt : j < vs.length
        · rw [List.getElem?_append_left hlt] at hj; exact h2 j v hj
        · rw [List.getElem?_append_right (by omega)] at hj
          have : j = n := by
            rcases Nat.lt_or_ge (j - vs.length) 1 with h | h
            · omega
            · rw [List.getElem?_eq_none (by simpa using h)] at hj; cases hj
          subst this
          rw [Addr.add_at]
          simp [h1] at hj
          rw [← hj]; exact g1
      · rw [List.take_succ_eq_append_getElem (by omega), List.map_append]
        exact RelL.append _ _ _ _ h3 ⟨g2, trivial⟩
  obtain ⟨vs, g1, g2, g3⟩ := key _ hn
  refine ⟨.agg vs.toArray, fun _ _ _ _ w' hw => ?_, ⟨vs, rfl, g3⟩⟩
  have hr := run_load_agg (Γ := Γ) (t := t) (w' := w') (p := ⟨b, off, none⟩) ho (by rw [ht]; rfl) g1 (fun j v hj => cell_below hw (g2 j v hj))
  simp [execOp, Instr.loadAt, hv, Instr.sureAddr, hr]
end
end Go.Proofs.Ytapciiffpnociaa
