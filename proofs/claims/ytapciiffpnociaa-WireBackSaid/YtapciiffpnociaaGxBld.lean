/- A plain logic over the walk: slices that are built, and let go of. No program is named here. Condition: none. -/
import Derived.Test.YtapciiffpnociaaGxApn
namespace Go.Proofs.Ytapciiffpnociaa
open Go Go.RowKit

/-- How many cells an element has, where a cell is a slice. -/
def cellEs (τ : List (Nat × TI)) : Nat → TypeId → List Nat
  | 0, _ => []
  | n + 1, t => match (tiGet τ t).sh with
    | .struct l => l.flatMap fun q => cellEs τ n q.2.1
    | .slice te => [(tiGet τ te).cells]
    | _ => [0]

def toD (es : Nat) : SV → Option D
  | .d x => some x
  | .nils => some (.slice es [])
  | _ => none
def toDs : List Nat → List SV → Option (List D)
  | _, [] => some []
  | [], _ :: _ => none
  | e :: es, s :: ss => match toD e s, toDs es ss with
    | some x, some xs => some (x :: xs)
    | _, _ => none
/-- Elements of so many cells each. -/
def rowsOf (ces : List Nat) (es : Nat) : Nat → List SV → Option (List (List D))
  | 0, _ => some []
  | n + 1, ss => match toDs ces (ss.take es), rowsOf ces es n (ss.drop es) with
    | some x, some xs => some (x :: xs)
    | _, _ => none

theorem toD_rel {X e w es} {s : SV} {v : Value} {x : D} (h : toD es s = some x) (hr : Rel X e w s v) : RepC X w v x := by
  cases s with
  | d y => simp only [toD, Option.some.injEq] at h; subst h; exact hr
  | nils => simp only [toD, Option.some.injEq] at h; subst h; cases hr; exact .nil
  | _ => simp [toD] at h

theorem toDs_rel {X e w} : ∀ (es : List Nat) (ss : List SV) (vs : List Value) (xs : List D), toDs es ss = some xs → RelL X e w ss vs → xs.length = ss.length ∧ ∀ j (hj : j < xs.length), ∃ v, vs[j]? = some v ∧ RepC X w v (xs[j]'hj)
  | _, [], _, xs, h, _ => by simp only [toDs, Option.some.injEq] at h; subst h; exact ⟨rfl, fun j hj => by simp at hj⟩
  | [], _ :: _, _, _, h, _ => by simp [toDs] at h
  | _ :: _, _ :: _, [], _, _, h => h.elim
  | e' :: es, s :: ss, v :: vs, xs, h, ⟨h1, h2⟩ => by
    simp only [toDs] at h
    cases ha : toD e' s with
    | none => simp [ha] at h
    | some x =>
      cases hb : toDs es ss with
      | none => simp [ha, hb] at h
      | some ys =>
        simp only [ha, hb, Option.some.injEq] at h
        subst h
        obtain ⟨g1, g2⟩ := toDs_rel es ss vs ys hb h2
        refine ⟨by simp [g1], fun j hj => ?_⟩
        cases j with
        | zero => exact ⟨v, rfl, toD_rel ha h1⟩
        | succ j => simpa using g2 j (by simpa using hj)

theorem rowsOf_rel {X e w} {ces : List Nat} {es : Nat} : ∀ (n : Nat) (ss : List SV) (vs : List Value) (xs : List (List D)), ss.length = n * es → rowsOf ces es n ss = some xs → RelL X e w ss vs → xs.length = n ∧ (∀ i (h : i < xs.length), (xs[i]'h).length = es) ∧
    ∀ i (h : i < xs.length) j (hj : j < (xs[i]'h).length), ∃ v, vs[i * es + j]? = some v ∧ RepC X w v ((xs[i]'h)[j]'hj)
  | 0, _, _, xs, _, h, _ => by simp only [rowsOf, Option.some.injEq] at h; subst h; exact ⟨rfl, fun i hi => by simp at hi, fun i hi => by simp at hi⟩
  | n + 1, ss, vs, xs, hl, h, hr => by
    simp only [rowsOf] at h
    cases ha : toDs ces (ss.take es) with
    | none => simp [ha] at h
    | some x =>
      cases hb : rowsOf ces es n (ss.drop es) with
      | none => simp [ha, hb] at h
      | some ys =>
        simp only [ha, hb, Option.some.injEq] at h
        subst h
        have hl' : es ≤ ss.length := by rw [hl, Nat.add_mul]; omega
        obtain ⟨g1, g2⟩ := toDs_rel ces _ _ x ha (RelL.take _ _ hr es)
        obtain ⟨k1, k2, k3⟩ := rowsOf_rel n (ss.drop es) (vs.drop es) ys (by simp [hl, Nat.add_mul]) hb (RelL.drop _ _ hr es)
        have hxl : x.length = es := by rw [g1, List.length_take]; omega
        refine ⟨by simp [k1], fun i hi => ?_, fun i hi j hj => ?_⟩
        · cases i with
          | zero => exact hxl
          | succ i => exact k2 i (by simpa using hi)
        · cases i with
          | zero =>
            obtain ⟨v, p1, p2⟩ := g2 j hj
            rw [List.getElem?_take] at p1
            split at p1
            · exact ⟨v, by simpa using p1, p2⟩
            · cases p1
          | succ i =>
            obtain ⟨v, p1, p2⟩ := k3 i (by simpa using hi) j hj
            refine ⟨v, ?_, p2⟩
            rw [List.getElem?_drop] at p1
            rw [← p1]
            congr 1
            rw [Nat.add_mul]; omega

def initSV (z : List SV) (n : Nat) : List SV := (List.range n).map fun i => z.getD (i % z.length) .junk

section
variable {Γ : Ctx} {k : Nat → Prop} {L : Sl} {H : Hp} {K : Next'} {ops : List Oper} {rest : List Oper} {a : Act} {w : World} {e : Env} {t t' ty : TypeId} {x y : Operand}

theorem initSV_rel {X e w} {zs : List SV} {vs : Array Value} (hr : RelL X e w zs vs.toList) (h1 : ∀ v ∈ vs.toList, v.oneCell' = true) (n : Nat) (hpos : 0 < vs.size) :
    RelL X e w (initSV zs n) ((Array.range n).map (vs[· % vs.size]!)).toList ∧ ∀ v ∈ ((Array.range n).map (vs[· % vs.size]!)).toList, v.oneCell' = true := by
  have hl := RelL.length _ _ hr
  simp only [Array.length_toList] at hl
  have hget : ∀ i, vs[i % vs.size]! = vs.toList[i % vs.size]'(by simpa using Nat.mod_lt _ hpos) := by
    intro i
    have := Nat.mod_lt i hpos
    simp [this]
  refine ⟨RelL.mk _ _ (by simp [initSV]) fun i s v hs hv => ?_, fun v hv => ?_⟩
  · simp only [initSV, List.getElem?_map] at hs
    simp only [Array.toList_map, Array.toList_range, List.getElem?_map] at hv
    cases hri : (List.range n)[i]? with
    | none => simp [hri] at hs
    | some q =>
      simp only [hri, Option.map_some, Option.some.injEq] at hs hv
      have hq := Nat.mod_lt q hpos
      rw [← hs, ← hv, hget, hl]
      obtain ⟨v', p1, p2⟩ := RelL.get _ _ hr (q % vs.size) (zs[q % vs.size]'(by omega)) (by simp)
      rw [List.getD_eq_getElem?_getD, List.getElem?_eq_getElem (by omega)]
      rw [List.getElem?_eq_getElem (by simpa using hq)] at p1
      cases p1
      exact p2
  · simp only [Array.toList_map, Array.toList_range, List.mem_map] at hv
    obtain ⟨q, _, rfl⟩ := hv
    rw [hget]
    exact h1 _ (List.getElem_mem _)

/-- A slice that is written out: in a new block. -/
theorem run_buildSlice {te es len : Nat} {ps : List (Nat × Operand)} {cs' : List SV} (ht : Γ.sh t = .slice te) (hkn : (Γ.sh te).known = true) (hes : Γ.cells te = es) (hpos : Nat.blt 0 es = true) (hz : zeroOk (tiGet Γ.τ te).zero = true) (hzl : Nat.beq (tiGet Γ.τ te).zero.length (Γ.cells te) = true) (hok : partsOk ps = true)
    (hlen : Nat.ble (len * es) 16777216 = true) (hf : fillSV (fun i => some (i * es, es)) (initSV (zeroSV Γ.τ te) (len * es)) (partsSV L ps) = some cs') (m : Models Γ k L H e a w) :
    ∃ vs' : Array Value, RelL (Γ.X e H) e w cs' vs'.toList ∧ (∀ v ∈ vs'.toList, v.oneCell' = true) ∧
      ∀ (dst : Option Tmp) pos after guard, (execOp a.eval ⟨dst, .buildSlice t len ps.toArray, ty, pos, after, guard⟩).run Γ.P w = .ok (.value (.slice (some ⟨w.heap.size, 0, none⟩) len len)) (w.alloc (.cells vs' te)) := by
  obtain ⟨inf, z, hi, hzz, hs, hb, hzc⟩ := Ctx.info (Sh.known_ne hkn)
  obtain ⟨g1, g2⟩ := zeroOk_spec (X := Γ.X e H) (e := e) (w := w) _ hz
  rw [← hzc] at g1 g2
  have hzs : z.cells.size = es := by rw [← Array.length_toList, hzc, Nat.eq_of_beq_eq_true hzl, hes]
  have hpos' := Nat.le_of_ble_eq_true hpos
  have hzsv : zeroSV Γ.τ te = z.cells.toList.map cSV := by rw [zeroSV, hzc]
  rw [hzsv] at hf
  obtain ⟨i1, i2⟩ := initSV_rel g1 g2 (len * es) (by rw [hzs]; exact hpos')
  obtain ⟨vs', f1, f2, f3⟩ := fill_rel _ _ _ _ cs' (partsSV_rel m ps hok) i1 i2 hf
  refine ⟨vs', f2, f3, fun dst pos after guard => ?_⟩
  have hle := Nat.le_of_ble_eq_true hlen
  have hse : inf.size = es := by rw [hs, hes]
  simp only [execOp, Instr.buildSlice]
  have hbig : ¬ (16777216 < len * es) := by omega
  by_cases h0 : len * es = 0
  · have : len = 0 := by rcases Nat.mul_eq_zero.1 h0 with h | h; exact h; omega
    subst this
    have e0 : (Array.range 0 : Array Nat) = #[] := rfl
    have f1' : Instr.fill (fun i => some (i * es, es)) #[] (List.map (fun x => (x.1, a.eval x.2)) ps) = some vs' := by
      rw [← f1]; simp [e0]
    simp [run_underlying (Ctx.slice ht), run_sizeOf hi, hse, e0, f1', newRow]
  · simp [run_underlying (Ctx.slice ht), run_sizeOf hi, hse, hbig, h0, zeroValue, typeInfo, hi, hzz]
    rw [show (List.map (fun x => (x.1, a.eval x.2)) ps) = ps.map fun p => (p.1, a.eval p.2) from rfl, f1]
    simp [newRow]

theorem op_buildSlice {d te es len : Nat} {pos : String} {af : Array Edge} {g : Option (Nat × Bool)} {ps : List (Nat × Operand)} {cs' : List SV} {xs : List (List D)} (ht : Γ.sh t = .slice te) (hkn : (Γ.sh te).known = true) (hes : Γ.cells te = es) (hpos : Nat.blt 0 es = true) (hz : zeroOk (tiGet Γ.τ te).zero = true) (hzl : Nat.beq (tiGet Γ.τ te).zero.length (Γ.cells te) = true) (hok : partsOk ps = true)
    (hlen : Nat.ble (len * es) 16777216 = true) (hf : fillSV (fun i => some (i * es, es)) (initSV (zeroSV Γ.τ te) (len * es)) (partsSV L ps) = some cs') (hcl : Nat.beq cs'.length (len * es) = true) (hxs : rowsOf (cellEs Γ.τ 4 te) es len cs' = some xs) (hd : Nat.blt d Γ.n = true) :
    OpOk Γ ⟨some d, .buildSlice t len ps.toArray, ty, pos, af, g⟩ k L H k ((d, .d (.slice es xs)) :: L) H := by
  intro e a w Q m
  obtain ⟨vs', f2, f3, hrun⟩ := run_buildSlice (ty := ty) ht hkn hes hpos hz hzl hok hlen hf m
  unfold Oper.wp
  rw [hrun]
  have hb := below_alloc w (.cells vs' te)
  obtain ⟨k1, k2, k3⟩ := rowsOf_rel len cs' _ xs (Nat.eq_of_beq_eq_true hcl) hxs f2
  have hlen' : xs.length ≤ maxLen := by
    have h1 := Nat.le_of_ble_eq_true hlen
    have h2 := Nat.le_of_ble_eq_true hpos
    have : len ≤ len * es := Nat.le_mul_of_pos_right _ h2
    unfold maxLen; omega
  have hrel : Rel (Γ.X e H) e (w.alloc (.cells vs' te)) (.d (.slice es xs)) (.slice (some ⟨w.heap.size, 0, none⟩) len len) := by
    refine .slice (fun i j => vs'.toList.getD (i * es + j) undef) k1.symm (Nat.le_refl _) (by rw [← k1]; exact hlen') (fun hx => ?_) (by simp) k2 (fun i hi j hj => ?_) (fun i hi j hj => ?_)
    · rcases hx with hx | hx
      · have := (m.obound _ hx).1; have := m.size; omega
      · have := m.lt _ hx; omega
    · obtain ⟨v, p1, p2⟩ := k3 i hi j hj
      rw [cell_of_row (w.alloc (.cells vs' te)) w.heap.size _ vs' te (0, 0) (heap_alloc_new w _)]
      rw [Array.getElem?_toList] at p1
      simp [List.getD, p1]
    · obtain ⟨v, p1, p2⟩ := k3 i hi j hj
      simp only [List.getD, p1, Option.getD_some]
      exact RepC.keep hb.size (fun b hb' _ => hb.block b hb') (fun _ _ h => h) p2
  exact ⟨e, (m.below hb).put (Nat.le_of_ble_eq_true hd) hrel⟩
end
section
variable {Γ : Ctx} {k : Nat} {L : Sl} {H : Hp} {K : Next'} {ops : List Oper} {rest : List Oper} {a : Act} {w : World} {e : Env} {t t' ty : TypeId} {x y : Operand}
theorem dl_buildSlice {d te es len : Nat} {pos : String} {af : Array Edge} {g : Option (Nat × Bool)} {ps : List (Nat × Operand)} {cs' : List SV} {xs : List (List D)} (ht : Γ.sh t = .slice te) (hkn : (Γ.sh te).known = true) (hes : Γ.cells te = es) (hpos : Nat.blt 0 es = true) (hz : zeroOk (tiGet Γ.τ te).zero = true) (hzl : Nat.beq (tiGet Γ.τ te).zero.length (Γ.cells te) = true) (hok : partsOk ps = true)
    (hlen : Nat.ble (len * es) 16777216 = true) (hf : fillSV (fun i => some (i * es, es)) (initSV (zeroSV Γ.τ te) (len * es)) (partsSV L ps) = some cs') (hcl : Nat.beq cs'.length (len * es) = true) (hxs : rowsOf (cellEs Γ.τ 4 te) es len cs' = some xs) (hw : wantedSV ops L g = some true) (hd : Nat.blt d Γ.n = true)
    (hk : DL Γ ops rest K k ((d, .d (.slice es xs)) :: L) H) : DL Γ ops (⟨some d, .buildSlice t len ps.toArray, ty, pos, af, g⟩ :: rest) K k L H :=
  dl_op hw (op_buildSlice ht hkn hes hpos hz hzl hok hlen hf hcl hxs hd) hk
end
end Go.Proofs.Ytapciiffpnociaa
