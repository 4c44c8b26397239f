/- A plain logic over the walk: a region that draws its order, by one walk in the text's order. No program is named here. Condition: none. -/
import Derived.Test.YtapciiffpnociaaGxUp
namespace Go.Proofs.Ytapciiffpnociaa
open Go Go.RowKit

def wantedF (ops : List Oper) (ℓ : Nat → SV) : Option (Nat × Bool) → Option Bool
  | none => some true
  | some (j, want) => match nthOp ops j with
    | some o => match o.dst with
      | some t => match ℓ t with
        | .d (.bool true) => some want
        | .d (.bool false) => some (!want)
        | .tup [] => some false
        | _ => none
      | none => none
    | none => none
theorem wantedF_eq (ops : List Oper) (L : Sl) (g : Option (Nat × Bool)) : wantedF ops L.get g = wantedSV ops L g := by
  cases g with
  | none => rfl
  | some q => rfl

def edgeB (ops : List Oper) (i j : Nat) : Bool := match nthOp ops i with
  | some o => o.after.toList.any fun e => Region.binds .any e && Nat.beq e.on j
  | none => false
def tmpOf : Operand → List Nat
  | .tmp t => [t]
  | _ => []
def usesG (ops : List Oper) : Option (Nat × Bool) → List Nat
  | some (j, _) => match nthOp ops j with
    | some oj => oj.dst.toList
    | none => []
  | none => []
def usesO (ops : List Oper) (o : Oper) : List Nat := o.op.operands.toList.flatMap tmpOf ++ usesG ops o.guard
def nin : Option Nat → List Nat → Bool
  | some d, l => notIn d l
  | none, _ => true
def apartO (ops : List Oper) (a b : Oper) : Bool := nin a.dst (usesO ops b) && (nin b.dst (usesO ops a) && nin a.dst b.dst.toList)
def isCall (o : Oper) : Bool := match o.op with
  | .call { callee := .value _, .. } => true
  | _ => false

def SV.nm : SV → Option Nat
  | .loc i _ => some i
  | .row i => some i
  | .prow i _ _ _ => some i
  | _ => none
/-- Which owned things an operation looks at. -/
def rdsN (g : Operand → SV) (op : Op) : List Nat := op.operands.toList.filterMap fun x => (g x).nm
def disj : List Nat → List Nat → Bool
  | [], _ => true
  | i :: r, l => notIn i l && disj r l
theorem disj_spec : ∀ {l r : List Nat}, disj l r = true → ∀ i, i ∈ l → i ∉ r
  | [], _, _, i, h => by simp at h
  | j :: l, r, h, i, hi => by
    simp only [disj, Bool.and_eq_true] at h
    rcases List.mem_cons.1 hi with rfl | hi
    · exact notIn_spec _ _ h.1
    · exact disj_spec h.2 i hi
theorem disj_of : ∀ {l r : List Nat}, (∀ i, i ∈ l → i ∉ r) → disj l r = true
  | [], _, _ => rfl
  | j :: l, r, h => by
    simp only [disj, Bool.and_eq_true]
    exact ⟨notIn_true (h j (List.mem_cons_self ..)), disj_of fun i hi => h i (List.mem_cons_of_mem _ hi)⟩

abbrev Log := List (Nat × List Nat × List Nat)
def okLog (ops : List Oper) (i : Nat) (rd wr : List Nat) : Log → Bool
  | [] => true
  | q :: lg => ((disj q.2.2 rd && (disj wr q.2.1 && disj wr q.2.2)) || (edgeB ops i q.1 || edgeB ops q.1 i)) && okLog ops i rd wr lg
theorem okLog_spec {ops : List Oper} {i : Nat} {rd wr : List Nat} : ∀ {lg : Log}, okLog ops i rd wr lg = true ↔ ∀ q ∈ lg, ((disj q.2.2 rd && (disj wr q.2.1 && disj wr q.2.2)) || (edgeB ops i q.1 || edgeB ops q.1 i)) = true
  | [] => by simp [okLog]
  | q :: lg => by simp only [okLog, Bool.and_eq_true, okLog_spec (lg := lg), List.mem_cons, forall_eq_or_imp]

/-! What an operation comes to hangs on what it looks at. -/
section
variable {τ : List (Nat × TI)} {g g' : Operand → SV} {η η' : Nat → Option HB}

theorem loadC_congr {t : TypeId} {s : SV} (h : ∀ i, s.nm = some i → η i = η' i) : loadC τ t s η = loadC τ t s η' := by
  cases s with
  | loc i o => simp only [loadC, h i rfl]
  | _ => rfl
theorem lenC_congr {t : TypeId} {s : SV} (h : ∀ i, s.nm = some i → η i = η' i) : lenC τ t s η = lenC τ t s η' := by
  unfold lenC
  split
  · split
    · rfl
    · rfl
    · rw [h _ rfl]
    · rfl
  · rfl
  · rfl

theorem convC_congr {t t' : TypeId} {s : SV} (h : ∀ i, s.nm = some i → η i = η' i) : convC τ t t' s η = convC τ t t' s η' := by
  unfold convC
  split <;> first | rfl | rw [h _ rfl]

theorem evC_congr (op : Op) (hg : ∀ x ∈ op.operands.toList, g x = g' x) (hη : ∀ x ∈ op.operands.toList, ∀ i, (g x).nm = some i → η i = η' i) : evC τ g η op = evC τ g' η' op := by
  cases op with
  | move x => simp only [evC, hg x (by simp [Op.operands])]
  | assign x => simp only [evC, hg x (by simp [Op.operands])]
  | pick c a b => simp only [evC, hg c (by simp [Op.operands]), hg a (by simp [Op.operands]), hg b (by simp [Op.operands])]
  | binOp op t x y t' => simp only [evC, hg x (by simp [Op.operands]), hg y (by simp [Op.operands])]
  | unOp op t x => cases op <;> simp only [evC, hg x (by simp [Op.operands])]
  | load t x =>
    simp only [evC]
    rw [loadC_congr (hη x (by simp [Op.operands])), hg x (by simp [Op.operands])]
  | fieldAddr t x f => simp only [evC, hg x (by simp [Op.operands])]
  | indexAddr t x y => simp only [evC, hg x (by simp [Op.operands]), hg y (by simp [Op.operands])]
  | index t x y => simp only [evC, hg x (by simp [Op.operands]), hg y (by simp [Op.operands])]
  | slice t x lo hi mx =>
    cases mx with
    | some _ => rfl
    | none =>
      simp only [evC, hg x (by simp [Op.operands])]
      have h1 : lo.map g = lo.map g' := by cases lo with
        | none => rfl
        | some z => simp [hg z (by simp [Op.operands])]
      have h2 : hi.map g = hi.map g' := by cases hi with
        | none => rfl
        | some z => simp [hg z (by simp [Op.operands])]
      rw [h1, h2]
  | convert t t' x =>
    simp only [evC]
    rw [convC_congr (hη x (by simp [Op.operands])), hg x (by simp [Op.operands])]
  | nilCheck x => simp only [evC, hg x (by simp [Op.operands])]
  | extract x i => simp only [evC, hg x (by simp [Op.operands])]
  | makeFunc fn first captured =>
    cases fn with
    | func f =>
      simp only [evC]
      have : captured.toList.map g = captured.toList.map g' := List.map_congr_left fun x hx => hg x (by simp [Op.operands] at hx ⊢; exact .inr hx)
      rw [this]
    | _ => rfl
  | build te ps =>
    simp only [evC]
    have : (ps.toList.map fun p => (p.1, g p.2)) = ps.toList.map fun p => (p.1, g' p.2) := List.map_congr_left fun p hp => by
      rw [hg p.2 (by simp [Op.operands]; exact ⟨p.1, by simpa using hp⟩)]
    rw [this]
  | call c =>
    obtain ⟨callee, args, ts⟩ := c
    cases callee with
    | builtin b =>
      cases b <;> try rfl
      case len =>
        obtain ⟨al⟩ := args
        obtain ⟨tl⟩ := ts
        simp only [evC]
        split
        · rename_i x t
          rw [lenC_congr (hη x (by simp [Op.operands, Call.operands])), hg x (by simp [Op.operands, Call.operands])]
        · rfl
    | _ => rfl
  | _ => rfl

theorem storeC_congr {t : TypeId} {s b : SV} (h : ∀ i, s.nm = some i → η i = η' i) : storeC τ t s b η = storeC τ t s b η' := by
  cases s with
  | loc i o => simp only [storeC, h i rfl]
  | _ => rfl
theorem appendC_congr {t z : Nat} {s b : SV} (h : ∀ i, s.nm = some i → η i = η' i) : appendC τ t s b η z = appendC τ t s b η' z := by
  rw [appendC_eq, appendC_eq]
  unfold appendC0
  split
  · split
    · split
      · rw [h _ rfl]
      · rfl
    · rfl
  · rfl

theorem stepC_congr (z : Nat) (dst : Option Nat) (op : Op) (hg : ∀ x ∈ op.operands.toList, g x = g' x) (hη : ∀ x ∈ op.operands.toList, ∀ i, (g x).nm = some i → η i = η' i) : stepC τ g η z dst op = stepC τ g' η' z dst op := by
  have ev := evC_congr (τ := τ) op hg hη
  cases dst with
  | none =>
    cases op with
    | store t x y =>
      simp only [stepC]
      rw [storeC_congr (hη x (by simp [Op.operands])), hg x (by simp [Op.operands]), hg y (by simp [Op.operands])]
    | _ => rfl
  | some d =>
    simp only [stepC]
    cases op with
    | alloc t => rfl
    | box t x => simp only [stepD, hg x (by simp [Op.operands])]
    | buildSlice t len ps =>
      simp only [stepD, buildSliceC]
      have : (ps.toList.map fun p => (p.1, g p.2)) = ps.toList.map fun p => (p.1, g' p.2) := List.map_congr_left fun p hp => by
        rw [hg p.2 (by simp [Op.operands]; exact ⟨p.1, by simpa using hp⟩)]
      rw [this]
    | call c =>
      obtain ⟨callee, args, ts⟩ := c
      cases callee with
      | builtin b =>
        cases b
        case append =>
          obtain ⟨al⟩ := args
          obtain ⟨tl⟩ := ts
          simp only [stepD]
          split
          · rename_i x y t t'
            rw [appendC_congr (hη x (by simp [Op.operands, Call.operands])), hg x (by simp [Op.operands, Call.operands]), hg y (by simp [Op.operands, Call.operands])]
          · rfl
        all_goals (simp only [stepD, ev])
      | _ => simp only [stepD, ev]
    | _ => simp only [stepD, ev]
end

theorem FS.op_app {s : FS} {z : Nat} {dst : Option Nat} {v : SV} {u : Up} {x : Operand} (h : nin dst (tmpOf x) = true) : (s.app z dst v u).op x = s.op x := by
  cases x with
  | tmp t =>
    cases dst with
    | none => rfl
    | some d =>
      have := notIn_spec _ _ h
      show (if d = t then v else s.ℓ t) = s.ℓ t
      rw [if_neg (fun hd => this (by rw [hd]; exact List.mem_cons_self ..))]
  | _ => rfl

theorem Up.app_out {u : Up} {z : Nat} {η : Nat → Option HB} {j : Nat} (h : j ∉ u.names z) : u.app z η j = η j := by
  cases u with
  | no => rfl
  | new b => exact if_neg fun hj => h (by rw [← hj]; exact List.mem_cons_self ..)
  | set i b => exact if_neg fun hj => h (by rw [← hj]; exact List.mem_cons_self ..)
  | trade i b =>
    show (if z = j then _ else (if i = j then none else η j)) = η j
    rw [if_neg fun hj => h (by rw [← hj]; simp [Up.names]), if_neg fun hj => h (by rw [← hj]; simp [Up.names])]
theorem Up.app_in {u : Up} {z : Nat} {η η' : Nat → Option HB} {j : Nat} (h : j ∈ u.names z) : u.app z η j = u.app z η' j := by
  cases u with
  | no => simp [Up.names] at h
  | new b => simp only [Up.names, List.mem_singleton] at h; subst h; simp [Up.app, fset]
  | set i b => simp only [Up.names, List.mem_singleton] at h; subst h; simp [Up.app, fset]
  | trade i b =>
    simp only [Up.names, List.mem_cons, List.not_mem_nil, or_false] at h
    show (if z = j then _ else (if i = j then none else η j)) = (if z = j then _ else (if i = j then none else η' j))
    rcases h with rfl | rfl
    · rw [if_pos rfl, if_pos rfl]
    · rw [if_pos rfl, if_pos rfl]
theorem Up.comm {u u' : Up} {z z' : Nat} (h : disj (u.names z) (u'.names z') = true) (η : Nat → Option HB) : u.app z (u'.app z' η) = u'.app z' (u.app z η) := by
  funext j
  by_cases h1 : j ∈ u.names z
  · have h2 := disj_spec h j h1
    rw [Up.app_out h2]
    exact Up.app_in h1
  · rw [Up.app_out h1]
    by_cases h2 : j ∈ u'.names z'
    · exact Up.app_in h2
    · rw [Up.app_out h2, Up.app_out h2, Up.app_out h1]

theorem FS.app_comm {s : FS} {z z' : Nat} {d d' : Option Nat} {v v' : SV} {u u' : Up} (hd : nin d d'.toList = true) (h : disj (u.names z) (u'.names z') = true) : (s.app z d v u).app z' d' v' u' = (s.app z' d' v' u').app z d v u := by
  have hl : ((s.app z d v u).put d' v').ℓ = ((s.app z' d' v' u').put d v).ℓ := by
    funext t
    cases d with
    | none => cases d' <;> rfl
    | some x =>
      cases d' with
      | none => rfl
      | some y =>
        have hne : x ≠ y := fun he => notIn_spec _ _ hd (by rw [he]; exact List.mem_cons_self ..)
        show (if y = t then v' else if x = t then v else s.ℓ t) = (if x = t then v else if y = t then v' else s.ℓ t)
        by_cases h1 : y = t
        · rw [if_pos h1, if_neg (fun h2 => hne (h2.trans h1.symm)), if_pos h1]
        · rw [if_neg h1, if_neg h1]
  have hh : u'.app z' (u.app z s.η) = u.app z (u'.app z' s.η) := (Up.comm h s.η).symm
  unfold FS.app
  exact FS.mk.injEq .. ▸ ⟨hl, hh⟩

theorem nin_flat {d : Option Nat} {xs : List Operand} (h : nin d (xs.flatMap tmpOf) = true) : ∀ x ∈ xs, nin d (tmpOf x) = true := by
  intro x hx
  cases d with
  | none => rfl
  | some d => exact notIn_true fun hm => notIn_spec _ _ h (List.mem_flatMap.2 ⟨x, hx, hm⟩)
theorem nin_append {d : Option Nat} {l r : List Nat} (h : nin d (l ++ r) = true) : nin d l = true ∧ nin d r = true := by
  cases d with
  | none => exact ⟨rfl, rfl⟩
  | some d => exact ⟨notIn_true fun hm => notIn_spec _ _ h (List.mem_append_left _ hm), notIn_true fun hm => notIn_spec _ _ h (List.mem_append_right _ hm)⟩
theorem nin_uses {ops : List Oper} {d : Option Nat} {o : Oper} (h : nin d (usesO ops o) = true) : (∀ x ∈ o.op.operands.toList, nin d (tmpOf x) = true) ∧ nin d (usesG ops o.guard) = true :=
  ⟨nin_flat (nin_append h).1, (nin_append h).2⟩

theorem wantedF_app {ops : List Oper} {s : FS} {z : Nat} {dst : Option Nat} {v : SV} {u : Up} {gd : Option (Nat × Bool)} (h : nin dst (usesG ops gd) = true) : wantedF ops (s.app z dst v u).ℓ gd = wantedF ops s.ℓ gd := by
  cases dst with
  | none => rfl
  | some d =>
    cases gd with
    | none => rfl
    | some q =>
      obtain ⟨j, want⟩ := q
      simp only [wantedF, usesG] at h ⊢
      cases ho : nthOp ops j with
      | none => rfl
      | some o =>
        simp only [ho] at h ⊢
        cases hd : o.dst with
        | none => rfl
        | some t =>
          simp only [hd] at h ⊢
          have hne : d ≠ t := fun he => notIn_spec _ _ h (by rw [he]; exact List.mem_cons_self ..)
          have : (s.app z (some d) v u).ℓ t = s.ℓ t := if_neg hne
          rw [this]

/-- One operation, in the text's order: what may come of it, and which owned things it looks at and turns. -/
inductive Mv (Γ : Ctx) (ops : List Oper) (κ : Nat) (s : FS) (i : Nat) (o : Oper) : Bool → (SV → Up → Prop) → List Nat → List Nat → Prop
  | skip : wantedF ops s.ℓ o.guard = some false → dstOk Γ o.dst = true → Mv Γ ops κ s i o false (fun v u => v = .tup [] ∧ u = .no) [] []
  | step (p : Prop) (v0 : SV) (u0 : Up) : wantedF ops s.ℓ o.guard = some true → stepC Γ.τ s.op s.η (κ + i) o.dst o.op = some (p, v0, u0) → p → opsOkB o.op = true → dstOk Γ o.dst = true →
      Mv Γ ops κ s i o false (fun v u => v = v0 ∧ u = u0) (rdsN s.op o.op) (u0.names (κ + i))
  | call (d : Nat) (f : FuncId) (x : Operand) (caps : List SV) (xs : List Operand) (ts : Array TypeId) (R : SV → Prop) : wantedF ops s.ℓ o.guard = some true → o.op = .call { callee := .value x, args := xs.toArray, argTypes := ts } → o.dst = some d → s.op x = .fn f caps →
      FnP Γ.P Γ.τ Γ.τok f (xs.map s.op ++ caps) R → SV.lowL 0 (xs.map s.op ++ caps) = true → opsOkB o.op = true → Nat.blt d Γ.n = true → Mv Γ ops κ s i o true (fun v u => R v ∧ u = .no) [] []

/-- The region's operations, in the text's order. -/
inductive DR (Γ : Ctx) (ops : List Oper) (κ : Nat) : List (Nat × Oper) → Log → (FS → Prop) → FS → Prop
  | nil {lg K s} : K s → DR Γ ops κ [] lg K s
  | cons {i : Nat} {o : Oper} {rest lg K s} (c : Bool) (S : SV → Up → Prop) (rd wr : List Nat) : Mv Γ ops κ s i o c S rd wr → okLog ops i rd wr lg = true → (∃ v u, S v u) → (∀ v u, S v u → u.names (κ + i) = wr) →
      (∀ v u, S v u → DR Γ ops κ rest ((i, rd, wr) :: lg) K (s.app (κ + i) o.dst v u)) → DR Γ ops κ ((i, o) :: rest) lg K s

section
variable {Γ : Ctx} {ops : List Oper} {κ : Nat} {s : FS} {i j : Nat} {o oi oj : Oper} {c : Bool} {S S' : SV → Up → Prop} {rd wr rd' wr' : List Nat}

theorem Mv.det (h : Mv Γ ops κ s i o false S rd wr) (h' : Mv Γ ops κ s i o false S' rd' wr') : S = S' ∧ rd = rd' ∧ wr = wr' := by
  cases h with
  | skip hw _ =>
    cases h' with
    | skip _ _ => exact ⟨rfl, rfl, rfl⟩
    | step _ _ _ hw' => rw [hw] at hw'; cases hw'
  | step p v0 u0 hw hs _ _ _ =>
    cases h' with
    | skip hw' _ => rw [hw] at hw'; cases hw'
    | step p' v0' u0' _ hs' _ _ _ =>
      rw [hs] at hs'
      cases hs'
      exact ⟨rfl, rfl, rfl⟩

theorem Mv.call_is (h : Mv Γ ops κ s i o true S rd wr) : isCall o = true := by
  cases h with
  | call d f x caps xs ts R _ ho => unfold isCall; rw [ho]

theorem Mv.one (h : Mv Γ ops κ s i o false S rd wr) {v u v' u'} (h1 : S v u) (h2 : S v' u') : v = v' ∧ u = u' := by
  cases h with
  | skip => exact ⟨h1.1.trans h2.1.symm, h1.2.trans h2.2.symm⟩
  | step => exact ⟨h1.1.trans h2.1.symm, h1.2.trans h2.2.symm⟩

/-- Another operation, apart from it, makes no difference to it. -/
theorem Mv.move {z : Nat} {dst : Option Nat} {v : SV} {u : Up} (ha : nin dst (usesO ops o) = true) (hd : ∀ i, i ∈ rd → i ∉ u.names z) : Mv Γ ops κ (s.app z dst v u) i o c S rd wr ↔ Mv Γ ops κ s i o c S rd wr := by
  obtain ⟨h1, h2⟩ := nin_uses ha
  have hop : ∀ x ∈ o.op.operands.toList, (s.app z dst v u).op x = s.op x := fun x hx => FS.op_app (h1 x hx)
  have hw : wantedF ops (s.app z dst v u).ℓ o.guard = wantedF ops s.ℓ o.guard := wantedF_app h2
  have hrd : rdsN (s.app z dst v u).op o.op = rdsN s.op o.op := by
    unfold rdsN
    exact filterMap_congr' fun x hx => by rw [hop x hx]
  have hst : (∀ i, i ∈ rdsN s.op o.op → i ∉ u.names z) → stepC Γ.τ (s.app z dst v u).op (s.app z dst v u).η (κ + i) o.dst o.op = stepC Γ.τ s.op s.η (κ + i) o.dst o.op := fun hd =>
    stepC_congr _ _ _ hop fun x hx i hi => Up.app_out (hd i (List.mem_filterMap.2 ⟨x, hx, by rw [← hop x hx]; exact hi⟩))
  have hcall : ∀ (x : Operand) (xs : List Operand) (ts : Array TypeId), o.op = .call { callee := .value x, args := xs.toArray, argTypes := ts } → (s.app z dst v u).op x = s.op x ∧ xs.map (s.app z dst v u).op = xs.map s.op := by
    intro x xs ts ho
    exact ⟨hop x (by rw [ho]; simp [Op.operands, Call.operands]), List.map_congr_left fun y hy => hop y (by rw [ho]; simp [Op.operands, Call.operands, hy])⟩
  constructor
  · intro h
    cases h with
    | skip a b => exact .skip (hw ▸ a) b
    | step p v0 u0 a b c d e => exact hrd ▸ .step p v0 u0 (hw ▸ a) (hst (hrd ▸ hd) ▸ b) c d e
    | call d f x caps xs ts R a b c e g h k l =>
      obtain ⟨q1, q2⟩ := hcall x xs ts b
      rw [q1] at e
      rw [q2] at g h
      exact .call d f x caps xs ts R (hw ▸ a) b c e g h k l
  · intro h
    cases h with
    | skip a b => exact .skip (hw ▸ a) b
    | step p v0 u0 a b c d e => exact hrd ▸ .step p v0 u0 (hw ▸ a) ((hst hd).symm ▸ b) c d e
    | call d f x caps xs ts R a b c e g h k l =>
      obtain ⟨q1, q2⟩ := hcall x xs ts b
      rw [← q1] at e
      rw [← q2] at g h
      exact .call d f x caps xs ts R (hw ▸ a) b c e g h k l
end
end Go.Proofs.Ytapciiffpnociaa
