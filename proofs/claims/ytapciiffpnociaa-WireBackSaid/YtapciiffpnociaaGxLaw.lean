/- A plain logic over the walk: a law's row out of a contract over data. No program is named here. Condition: none. -/
import Derived.Test.YtapciiffpnociaaGxRow
import Derived.Carry
import Derived.ChangeSame
import Derived.SizedLaws
namespace Go.Proofs.Ytapciiffpnociaa
open Go Go.RowKit Go.ChangeShapes Go.WideShapes

/-- What an argument of a type of data is known to be. -/
def RT.arg : RT → List D → SV
  | .struct _, xs => .agg (xs.map .d)
  | _, [x] => .d x
  | _, _ => .junk

/-- Arguments of types of data. -/
def ArgsD : List RT → List SV → Prop
  | [], as => as = []
  | r :: rs, as => ∃ xs l, as = r.arg xs :: l ∧ TyD r xs ∧ ArgsD rs l

def rtsB (P : Program) : List RT → List TypeId → Bool
  | [], [] => true
  | r :: rs, t :: ts => rtB P r t && rtsB P rs ts
  | _, _ => false

section
variable {H : Type} {enc : TypeId × Value → H} {P : Program}

theorem repL_agg {W : World} {e : Env} : ∀ (cs : List Value) (xs : List D), RepL W cs xs → RelL (fun _ => False) e W (xs.map .d) cs
  | [], [], _ => trivial
  | [], _ :: _, h => by have := h.1; simp at this
  | _ :: _, [], h => by have := h.1; simp at this
  | c :: cs, x :: xs, h => by
    obtain ⟨h1, h2⟩ := h
    refine ⟨?_, repL_agg cs xs ⟨by simpa using h1, fun j u hj => by simpa using h2 (j + 1) u (by simpa using hj)⟩⟩
    obtain ⟨y, hy, hr⟩ := h2 0 c rfl
    simp at hy
    subst hy
    exact hr

theorem repL_one {W : World} {e : Env} {v : Value} {x : D} (h : RepL W [v] [x]) : Rel (fun _ => False) e W (.d x) v := by
  obtain ⟨y, hy, hr⟩ := h.2 0 v rfl
  simp at hy
  subst hy
  exact hr

theorem rtB_bool {t : TypeId} (h : rtB P .bool t = true) : P.underlying t = some .bool := by
  unfold rtB at h; split at h <;> first | assumption | cases h
theorem rtB_str {t : TypeId} (h : rtB P .str t = true) : P.underlying t = some .string := by
  unfold rtB at h; split at h <;> first | assumption | cases h
theorem rtB_int {t : TypeId} {k : IntKind} (h : rtB P (.int k) t = true) : P.underlying t = some (.int k) := by
  unfold rtB at h
  split at h
  · rename_i k' hk; rw [hk, sameK_spec h]
  · cases h
theorem rtB_slice {t : TypeId} {c b : Nat} {e : RT} (h : rtB P (.slice c b e) t = true) : ∃ te, P.underlying t = some (.slice te) := by
  unfold rtB at h
  split at h
  · rename_i te ht; exact ⟨te, ht⟩
  · cases h
theorem rtB_struct {t : TypeId} {fs : List RT} (h : rtB P (.struct fs) t = true) : ∃ fl, P.underlying t = some (.struct fl) := by
  unfold rtB at h
  split at h
  · rename_i te ht; exact ⟨te, ht⟩
  · cases h

theorem arg_open {W : World} {e : Env} {base : Nat} : ∀ (r : RT) (t : TypeId) (v : Value) (d : DataW H) (ps : List MemPlace), rtB P r t = true → DataW.Trod enc P W 0 (fun _ => true) true t v d ps → Value.okWide P W .any base t v →
    (∀ n ∈ d.weights P t, n ≤ reachBytes) → ∃ xs, TyD r xs ∧ Rel (fun _ => False) e W (r.arg xs) v := by
  intro r t v d ps hb ⟨fuel, hd⟩ hok hw
  obtain ⟨xs, h1, h2⟩ := open_rt r t fuel v.cells.toList (d, ps) hb hd hw
  refine ⟨xs, h1, ?_⟩
  cases r with
  | bool =>
    obtain ⟨b, rfl⟩ := okWide_bool (rtB_bool hb) hok
    obtain ⟨b', rfl⟩ := h1
    exact repL_one h2
  | int k =>
    obtain ⟨b, rfl⟩ := okWide_int (rtB_int hb) hok
    obtain ⟨b', _, rfl⟩ := h1
    exact repL_one h2
  | str =>
    obtain ⟨b, rfl⟩ := okWide_string (rtB_str hb) hok
    obtain ⟨b', _, rfl⟩ := h1
    exact repL_one h2
  | slice c b el =>
    obtain ⟨te, ht⟩ := rtB_slice hb
    obtain ⟨a, n, cap, rfl⟩ := okWide_slice ht hok
    obtain ⟨l, _, _, rfl, _⟩ := h1
    exact repL_one h2
  | struct fs =>
    obtain ⟨fl, ht⟩ := rtB_struct hb
    obtain ⟨cs, rfl, _⟩ := okWide_struct ht hok
    exact ⟨cs.toList, by simp, repL_agg _ _ h2⟩

theorem args_open {W : World} {e : Env} {base : Nat} : ∀ (rs : List RT) (ts : List TypeId) (vs : List Value) (ds : List (DataW H)) (ps : List MemPlace), rtsB P rs ts = true → DataW.TrodAll enc P W 0 (fun _ => true) true ts vs ds ps →
    (∀ (j : Nat) t v, ts[j]? = some t → vs[j]? = some v → Value.okWide P W .any base t v) → (∀ n ∈ DataW.weightsEach P ts ds, n ≤ reachBytes) → ∃ as, ArgsD rs as ∧ RelL (fun _ => False) e W as vs
  | [], [], vs, ds, ps, _, h, _, _ => by
    obtain ⟨rfl, rfl, rfl⟩ := trodAll_nil h
    exact ⟨[], rfl, trivial⟩
  | [], _ :: _, _, _, _, hb, _, _, _ => by simp [rtsB] at hb
  | _ :: _, [], _, _, _, hb, _, _, _ => by simp [rtsB] at hb
  | r :: rs, t :: ts, vs, ds, ps, hb, h, hok, hw => by
    obtain ⟨v, vs', d, ds', p, q, rfl, rfl, rfl, h1, h2⟩ := trodAll_cons h
    simp only [rtsB, Bool.and_eq_true] at hb
    simp only [DataW.weightsEach, List.mem_append] at hw
    obtain ⟨xs, g1, g2⟩ := arg_open (e := e) r t v d p hb.1 h1 (hok 0 t v rfl rfl) fun n hn => hw n (.inl hn)
    obtain ⟨as, g3, g4⟩ := args_open (e := e) rs ts vs' ds' q hb.2 h2 (fun j t v ht hv => hok (j + 1) t v (by simpa using ht) (by simpa using hv)) fun n hn => hw n (.inr hn)
    exact ⟨r.arg xs :: as, ⟨xs, as, rfl, g1, g3⟩, g2, g4⟩

def readB (P : Program) (ts : List TypeId) : Bool := ts.all fun t => P.readableRec t && Nat.blt t P.types.size

theorem args_again {W W' : World} {spare : Nat → Bool} (hl : laidOutB P = true) (hb : Below W.heap.size W W') : ∀ (ts : List TypeId) (vs : List Value) (ds : List (DataW H)) (ps : List MemPlace), readB P ts = true →
    DataW.TrodAll enc P W 0 (fun _ => true) true ts vs ds ps → (∀ p ∈ ps, p.block < W.heap.size) → (∀ p ∈ ps, spare p.block = true) → DataW.TrodAll enc P W' 0 spare true ts vs ds ps
  | [], vs, ds, ps, _, h, _, _ => by
    obtain ⟨rfl, rfl, rfl⟩ := trodAll_nil h
    rfl
  | t :: ts, vs, ds, ps, hr, h, hlt, hsp => by
    obtain ⟨v, vs', d, ds', p, q, rfl, rfl, rfl, h1, h2⟩ := trodAll_cons h
    simp only [readB, List.all_cons, Bool.and_eq_true] at hr
    refine ⟨p, q, ?_, args_again hl hb ts vs' ds' q (by simpa [readB] using hr.2) h2 (fun x hx => hlt x (List.mem_append_right _ hx)) (fun x hx => hsp x (List.mem_append_right _ hx)), rfl⟩
    exact WideElems.Trod_stays hl hr.1.1 (Nat.le_of_ble_eq_true hr.1.2) h1 (fun x hx => hb.same (hlt x (List.mem_append_left _ hx))) fun x hx => hsp x (List.mem_append_left _ hx)

/-- The row's end: the call has answered true, and has turned nothing that was there. -/
theorem law_post {f : Func} {s : ChangeSpec} {apart fresh handsOn : Bool} {W W' : World} {args : Array Value} {ds gs : List (DataW H)} {before : List MemPlace} {tb : TypeId}
    (hv : s.vars = []) (hW : DataW.Whole enc P f.params.toList s.vars apart W args.toList ds gs before) (hfn : gs = [] → s.fn H (ds ++ gs) = { results := [.lit (.bool true)], args := ds })
    (hres : f.resultTypes = #[tb]) (htb : P.underlying tb = some .bool) (hl : laidOutB P = true) (hr : readB P f.params.toList = true) (hb : Below W.heap.size W W') :
    s.post enc P f apart fresh handsOn false W args (.bool true) W' := by
  have hW0 := hW
  have hlt := fun p hp => hW.lt p hp
  obtain ⟨p, q, hA, hV, rfl, hfz, hnd⟩ := hW
  rw [hv] at hV
  obtain ⟨rfl, rfl⟩ := trodVars_none hV
  have hfn := hfn rfl
  refine ⟨ds, [], p ++ [], [], p, [], hW0, ?_, ?_, ?_, hb.frame _, fun h => by cases h⟩
  · rw [hres, hfn]
    exact trodAll_mk1 (shut_bool htb true)
  · rw [hfn]
    exact args_again hl hb _ _ _ _ hr hA (fun x hx => hlt x (List.mem_append_left _ hx)) fun x hx => by simpa using hlt x (List.mem_append_left _ hx)
  · rw [hv, hfn]
    rfl

theorem ctxX_nil {τ τok} {e : Env} {W : World} {n J β0} : ∀ b, Ctx.X ⟨P, τ, τok, fun _ => False, W, fun b => b ∈ ownedL e [], n, J, β0⟩ e [] b → False := by
  rintro b (h | h)
  · exact h
  · simp [ownedL] at h

/-- A contract over data that answers true, at what was handed in. -/
theorem law_calls {τ : List (Nat × TI)} {τok : TabOk P τ} {f : FuncId} {rs : List RT} {ts : List TypeId} {args : Array Value} {ds : List (DataW H)} {ps : List MemPlace} {W : World} {base : Nat}
    (hc : ∀ as, ArgsD rs as → FnP P τ τok f as (fun r => r = .d (.bool true))) (hb : rtsB P rs ts = true) (hA : DataW.TrodAll enc P W 0 (fun _ => true) true ts args.toList ds ps)
    (hok : ∀ (j : Nat) t v, ts[j]? = some t → args.toList[j]? = some v → Value.okWide P W .any base t v) (hw : ∀ n ∈ DataW.weightsEach P ts ds, n ≤ reachBytes) :
    Calls P f args W fun en W' => en = .returned (.bool true) ∧ Below W.heap.size W W' := by
  let e : Env := ⟨fun _ => 0, fun _ => undef, lo 0⟩
  obtain ⟨as, h1, h2⟩ := args_open (e := e) rs ts args.toList ds ps hb hA hok hw
  have hk := (hc as h1).2 (fun _ => False) e W args.toList ?_ ?_
  · rw [Array.toArray_toList] at hk
    refine Calls.mono hk ?_
    rintro en W' ⟨k', r, H', e', v, ⟨rfl, _, rfl⟩, rfl, hH, hr⟩
    have hr' : RepC _ W' v (.bool true) := hr
    cases hr'
    exact ⟨rfl, ⟨hH.os, hH.tape, hH.output, hH.size, fun b hb => hH.block b hb (by simp [ownedL])⟩⟩
  · exact { top := fun _ => Iff.rfl, heap := (fun p hp => nomatch hp), ids := .nil, nodup := .nil, mine := (fun b hb => nomatch hb), os := rfl, tape := rfl, output := rfl, size := Nat.le_refl _, block := (fun _ _ _ => rfl), obound := (fun _ h => h.elim), jle := (fun _ h => nomatch h), anchor := (fun _ h => nomatch h) }
  · exact RelL.keep (Nat.le_refl _) (fun _ _ _ => rfl) (fun b _ hy => ctxX_nil b hy) _ _ h2

/-- A law's row, all but its closed facts. -/
theorem law_lifted {C : Checked} {τ : List (Nat × TI)} {τok : TabOk C.prog τ} {os : Os} (started : os.Started) {f : FuncId} {fn : Func} {s : ChangeSpec} {conds : List PathCond} {apart fresh handsOn : Bool} {rs : List RT} {tb : TypeId}
    (own : ownKnob C.prog.godebug = none) (noInit : C.prog.inits.idxOf? f = none) (hfn : C.prog.funcs[f]? = some fn)
    (witness : ∃ (w : World) (tape : Tape) (i : Input), w.os = os ∧ (w.forCall tape i).Shaped C.prog ∧ i.vars = [] ∧ Input.okWide C.prog (w.forCall tape i) .any w.heap.size f i ∧
      s.pre6 enc C.prog fn conds apart (w.forCall tape i).memory i.args ∧ ({} : Assume).holds C.prog (lone (Frame.enter C.prog f i.args .normal) [] (w.forCall tape i)))
    (hv : s.vars = []) (hvt : s.plain.varTypes C.prog = []) (hs : ∀ (ds : List (DataW H)), ds.length = fn.params.toList.length → s.fn H ds = { results := [.lit (.bool true)], args := ds })
    (hres : fn.resultTypes = #[tb]) (htb : C.prog.underlying tb = some .bool) (hl : laidOutB C.prog = true) (hr : readB C.prog fn.params.toList = true) (hb : rtsB C.prog rs fn.params.toList = true)
    (hc : ∀ as, ArgsD rs as → FnP C.prog τ τok f as (fun r => r = .d (.bool true))) :
    ReturnsInHanded {} C os f .any (s.pre6 enc C.prog fn conds apart) (s.post enc C.prog fn apart fresh handsOn false) := by
  refine returnsInHanded_of_change_sized own started noInit hfn witness ?_
  intro W base args ds gs before hval hW _ hwt _
  obtain ⟨p, q, hA, hV, hpq, hfz, hnd⟩ := id hW
  rw [hv] at hV
  obtain ⟨rfl, rfl⟩ := trodVars_none hV
  rw [hvt, List.append_nil, List.append_nil] at hwt
  have hlen : ∀ (ts : List TypeId) (vs : List Value) (ds : List (DataW H)) (ps : List MemPlace), DataW.TrodAll enc C.prog W 0 (fun _ => true) true ts vs ds ps → ds.length = ts.length := by
    intro ts
    induction ts with
    | nil => intro vs ds ps h; obtain ⟨rfl, rfl, rfl⟩ := trodAll_nil h; rfl
    | cons t ts ih =>
      intro vs ds ps h
      obtain ⟨v, vs', d, ds', p, q, rfl, rfl, rfl, h1, h2⟩ := trodAll_cons h
      simp [ih _ _ _ h2]
  refine (law_calls hc hb hA (fun j t v ht hv => hval j t v (by simpa using ht) (by simpa using hv)) (fun n hn => by simpa using List.all_eq_true.1 hwt n hn)).mono ?_
  rintro en W' ⟨rfl, hbl⟩
  exact ⟨_, rfl, law_post hv hW (fun _ => by rw [List.append_nil]; exact hs ds (hlen _ _ _ _ hA)) hres htb hl hr hbl⟩
end
end Go.Proofs.Ytapciiffpnociaa
