/- Several texts in one: GxLaw StrIn StrV. Condition: none. -/
import Derived.Test.YtapciiffpnociaaB17
import Derived.Carry
import Derived.ChangeSame
import Derived.SizedLaws

/- A plain logic over the walk: a law's row out of a contract over data. No program is named here. Condition: none. -/
namespace Go.Proofs.Ytapciiffpnociaa
open Go Go.RowKit Go.ChangeShapes Go.WideShapes

/-- What an argument of a type of data is known to be. -/
def RT.arg : RT → List D → SV
  | .struct _, xs => .agg (xs.map .d)
  | _, [x] => .d x
  | _, _ => .junk

/-- Arguments of types of data. -/
def ArgsD : List RT → List SV → Prop
  | [], az => az = []
  | r :: rs, az => ∃ xs l, az = r.arg xs :: l ∧ TyD r xs ∧ ArgsD rs l

def rtsB (P : Program) : List RT → List TypeId → Bool
  | [], [] => true
  | r :: rs, t :: ts => rtB P r t && rtsB P rs ts
  | _, _ => false

section
variable {H : Type} {enc : TypeId × Value → H} {P : Program}

theorem repL_agg {W : World} {e : Env} : ∀ (cs : List Value) (xs : List D), RepL W cs xs → RelL (fun _ => False) e W (xs.map .d) cs
  | [], [], _ => trivial
  | [], _ :: _, h => by have := h.1; simp at this
  | _ :: _, [], h => by have := h.1; simp at this
  | c :: cs, x :: xs, h => by
    obtain ⟨h1, h2⟩ := h
    refine ⟨?_, repL_agg cs xs ⟨by simpa using h1, fun j u hj => by simpa using h2 (j + 1) u (by simpa using hj)⟩⟩
    obtain ⟨y, hy, hr⟩ := h2 0 c rfl
    simp at hy
    subst hy
    exact hr

theorem repL_one {W : World} {e : Env} {v : Value} {x : D} (h : RepL W [v] [x]) : Rel (fun _ => False) e W (.d x) v := by
  obtain ⟨y, hy, hr⟩ := h.2 0 v rfl
  simp at hy
  subst hy
  exact hr

theorem rtB_bool {t : TypeId} (h : rtB P .bool t = true) : P.underlying t = some .bool := by
  unfold rtB at h; split at h <;> first | assumption | cases h
theorem rtB_str {t : TypeId} (h : rtB P .str t = true) : P.underlying t = some .string := by
  unfold rtB at h; split at h <;> first | assumption | cases h
theorem rtB_int {t : TypeId} {k : IntKind} (h : rtB P (.int k) t = true) : P.underlying t = some (.int k) := by
  unfold rtB at h
  split at h
  · rename_i k' hk; rw [hk, sameK_spec h]
  · cases h
theorem rtB_slice {t : TypeId} {c b : Nat} {e : RT} (h : rtB P (.slice c b e) t = true) : ∃ te, P.underlying t = some (.slice te) := by
  unfold rtB at h
  split at h
  · rename_i te ht; exact ⟨te, ht⟩
  · cases h
theorem rtB_struct {t : TypeId} {fs : List RT} (h : rtB P (.struct fs) t = true) : ∃ fl, P.underlying t = some (.struct fl) := by
  unfold rtB at h
  split at h
  · rename_i te ht; exact ⟨te, ht⟩
  · cases h

theorem arg_open {W : World} {e : Env} {base : Nat} : ∀ (r : RT) (t : TypeId) (v : Value) (d : DataW H) (ps : List MemPlace), rtB P r t = true → DataW.Trod enc P W 0 (fun _ => true) true t v d ps → Value.okWide P W .any base t v →
    (∀ n ∈ d.weights P t, n ≤ reachBytes) → ∃ xs, TyD r xs ∧ Rel (fun _ => False) e W (r.arg xs) v := by
  intro r t v d ps hb ⟨fuel, hd⟩ hok hw
  obtain ⟨xs, h1, h2⟩ := open_rt r t fuel v.cells.toList (d, ps) hb hd hw
  refine ⟨xs, h1, ?_⟩
  cases r with
  | bool =>
    obtain ⟨b, rfl⟩ := okWide_bool (rtB_bool hb) hok
    obtain ⟨b', rfl⟩ := h1
    exact repL_one h2
  | int k =>
    obtain ⟨b, rfl⟩ := okWide_int (rtB_int hb) hok
    obtain ⟨b', _, rfl⟩ := h1
    exact repL_one h2
  | str =>
    obtain ⟨b, rfl⟩ := okWide_string (rtB_str hb) hok
    obtain ⟨b', _, rfl⟩ := h1
    exact repL_one h2
  | slice c b el =>
    obtain ⟨te, ht⟩ := rtB_slice hb
    obtain ⟨a, n, cap, rfl⟩ := okWide_slice ht hok
    obtain ⟨l, _, _, rfl, _⟩ := h1
    exact repL_one h2
  | struct fs =>
    obtain ⟨fl, ht⟩ := rtB_struct hb
    obtain ⟨cs, rfl, _⟩ := okWide_struct ht hok
    exact ⟨cs.toList, by simp, repL_agg _ _ h2⟩

theorem args_open {W : World} {e : Env} {base : Nat} : ∀ (rs : List RT) (ts : List TypeId) (vs : List Value) (ds : List (DataW H)) (ps : List MemPlace), rtsB P rs ts = true → DataW.TrodAll enc P W 0 (fun _ => true) true ts vs ds ps →
    (∀ (j : Nat) t v, ts[j]? = some t → vs[j]? = some v → Value.okWide P W .any base t v) → (∀ n ∈ DataW.weightsEach P ts ds, n ≤ reachBytes) → ∃ az, ArgsD rs az ∧ RelL (fun _ => False) e W az vs
  | [], [], vs, ds, ps, _, h, _, _ => by
    obtain ⟨rfl, rfl, rfl⟩ := trodAll_nil h
    exact ⟨[], rfl, trivial⟩
  | [], _ :: _, _, _, _, hb, _, _, _ => by simp [rtsB] at hb
  | _ :: _, [], _, _, _, hb, _, _, _ => by simp [rtsB] at hb
  | r :: rs, t :: ts, vs, ds, ps, hb, h, hok, hw => by
    obtain ⟨v, vs', d, ds', p, q, rfl, rfl, rfl, h1, h2⟩ := trodAll_cons h
    simp only [rtsB, Bool.and_eq_true] at hb
    simp only [DataW.weightsEach, List.mem_append] at hw
    obtain ⟨xs, g1, g2⟩ := arg_open (e := e) r t v d p hb.1 h1 (hok 0 t v rfl rfl) fun n hn => hw n (.inl hn)
    obtain ⟨az, g3, g4⟩ := args_open (e := e) rs ts vs' ds' q hb.2 h2 (fun j t v ht hv => hok (j + 1) t v (by simpa using ht) (by simpa using hv)) fun n hn => hw n (.inr hn)
    exact ⟨r.arg xs :: az, ⟨xs, az, rfl, g1, g3⟩, g2, g4⟩

def readB (P : Program) (ts : List TypeId) : Bool := ts.all fun t => P.readableRec t && Nat.blt t P.types.size

theorem args_again {W W' : World} {spare : Nat → Bool} (hl : laidOutB P = true) (hb : Below W.heap.size W W') : ∀ (ts : List TypeId) (vs : List Value) (ds : List (DataW H)) (ps : List MemPlace), readB P ts = true →
    DataW.TrodAll enc P W 0 (fun _ => true) true ts vs ds ps → (∀ p ∈ ps, p.block < W.heap.size) → (∀ p ∈ ps, spare p.block = true) → DataW.TrodAll enc P W' 0 spare true ts vs ds ps
  | [], vs, ds, ps, _, h, _, _ => by
    obtain ⟨rfl, rfl, rfl⟩ := trodAll_nil h
    rfl
  | t :: ts, vs, ds, ps, hr, h, hlt, hsp => by
    obtain ⟨v, vs', d, ds', p, q, rfl, rfl, rfl, h1, h2⟩ := trodAll_cons h
    simp only [readB, List.all_cons, Bool.and_eq_true] at hr
    refine ⟨p, q, ?_, args_again hl hb ts vs' ds' q (by simpa [readB] using hr.2) h2 (fun x hx => hlt x (List.mem_append_right _ hx)) (fun x hx => hsp x (List.mem_append_right _ hx)), rfl⟩
    exact WideElems.Trod_stays hl hr.1.1 (Nat.le_of_ble_eq_true hr.1.2) h1 (fun x hx => hb.same (hlt x (List.mem_append_left _ hx))) fun x hx => hsp x (List.mem_append_left _ hx)

/-- The row's end: the call has answered true, and has turned nothing that was there. -/
theorem law_post {f : Func} {s : ChangeSpec} {apart fresh handsOn : Bool} {W W' : World} {args : Array Value} {ds gs : List (DataW H)} {before : List MemPlace} {tb : TypeId}
    (hv : s.vars = []) (hW : DataW.Whole enc P f.params.toList s.vars apart W args.toList ds gs before) (hfn : gs = [] → s.fn H (ds ++ gs) = { results := [.lit (.bool true)], args := ds })
    (hres : f.resultTypes = #[tb]) (htb : P.underlying tb = some .bool) (hl : laidOutB P = true) (hr : readB P f.params.toList = true) (hb : Below W.heap.size W W') :
    s.post enc P f apart fresh handsOn false W args (.bool true) W' := by
  have hW0 := hW
  have hlt := fun p hp => hW.lt p hp
  obtain ⟨p, q, hA, hV, rfl, hfz, hnd⟩ := hW
  rw [hv] at hV
  obtain ⟨rfl, rfl⟩ := trodVars_none hV
  have hfn := hfn rfl
  refine ⟨ds, [], p ++ [], [], p, [], hW0, ?_, ?_, ?_, hb.frame _, fun h => by cases h⟩
  · rw [hres, hfn]
    exact trodAll_mk1 (shut_bool htb true)
  · rw [hfn]
    exact args_again hl hb _ _ _ _ hr hA (fun x hx => hlt x (List.mem_append_left _ hx)) fun x hx => by simpa using hlt x (List.mem_append_left _ hx)
  · rw [hv, hfn]
    rfl

theorem ctxX_nil {τ τok} {e : Env} {W : World} {n J β0} : ∀ b, Ctx.X ⟨P, τ, τok, fun _ => False, W, fun b => b ∈ ownedL e [], n, J, β0, none, noPan, true⟩ e [] b → False := by
  rintro b (h | h)
  · exact h
  · simp [ownedL] at h

/-- A contract over data that answers true, at what was handed in. -/
theorem law_calls {τ : List (Nat × TI)} {τok : TabOk P τ} {f : FuncId} {rs : List RT} {ts : List TypeId} {args : Array Value} {ds : List (DataW H)} {ps : List MemPlace} {W : World} {base : Nat}
    (hc : ∀ az, ArgsD rs az → FnP P τ τok f az (fun r => r = .d (.bool true))) (hb : rtsB P rs ts = true) (hA : DataW.TrodAll enc P W 0 (fun _ => true) true ts args.toList ds ps)
    (hok : ∀ (j : Nat) t v, ts[j]? = some t → args.toList[j]? = some v → Value.okWide P W .any base t v) (hw : ∀ n ∈ DataW.weightsEach P ts ds, n ≤ reachBytes) :
    Calls P f args W fun en W' => en = .returned (.bool true) ∧ Below W.heap.size W W' := by
  let e : Env := ⟨fun _ => 0, fun _ => undef, lo 0⟩
  obtain ⟨az, h1, h2⟩ := args_open (e := e) rs ts args.toList ds ps hb hA hok hw
  have hk := (hc az h1).2 (fun _ => False) e W args.toList ?_ ?_
  · rw [Array.toArray_toList] at hk
    refine Calls.mono hk ?_
    rintro en W' ⟨k', r, H', e', v, ⟨rfl, _, rfl⟩, rfl, hH, hr⟩
    have hr' : RepC _ W' v (.bool true) := hr
    cases hr'
    exact ⟨rfl, ⟨hH.os, hH.tape, hH.output, hH.size, fun b hb => hH.block b hb (by simp [ownedL])⟩⟩
  · exact { top := fun _ => Iff.rfl, heap := (fun p hp => nomatch hp), ids := .nil, nodup := .nil, mine := (fun b hb => nomatch hb), os := rfl, tape := rfl, output := rfl, size := Nat.le_refl _, block := (fun _ _ _ => rfl), obound := (fun _ h => h.elim), jle := (fun _ h => nomatch h), anchor := (fun _ h => nomatch h) }
  · exact RelL.keep (Nat.le_refl _) (fun _ _ _ => rfl) (fun b _ hy => ctxX_nil b hy) _ _ h2

/-- A law's row, all but its closed facts. -/
theorem law_lifted {C : Checked} {τ : List (Nat × TI)} {τok : TabOk C.prog τ} {os : Os} (started : os.Started) {f : FuncId} {fn : Func} {s : ChangeSpec} {conds : List PathCond} {apart fresh handsOn : Bool} {rs : List RT} {tb : TypeId}
    (own : ownKnob C.prog.godebug = none) (noInit : C.prog.inits.idxOf? f = none) (hfn : C.prog.funcs[f]? = some fn)
    (witness : ∃ (w : World) (tape : Tape) (i : Input), w.os = os ∧ (w.forCall tape i).Shaped C.prog ∧ i.vars = [] ∧ Input.okWide C.prog (w.forCall tape i) .any w.heap.size f i ∧
      s.pre6 enc C.prog fn conds apart (w.forCall tape i).memory i.args ∧ ({} : Assume).holds C.prog (lone (Frame.enter C.prog f i.args .normal) [] (w.forCall tape i)))
    (hv : s.vars = []) (hvt : s.plain.varTypes C.prog = []) (hs : ∀ (ds : List (DataW H)), ds.length = fn.params.toList.length → s.fn H ds = { results := [.lit (.bool true)], args := ds })
    (hres : fn.resultTypes = #[tb]) (htb : C.prog.underlying tb = some .bool) (hl : laidOutB C.prog = true) (hr : readB C.prog fn.params.toList = true) (hb : rtsB C.prog rs fn.params.toList = true)
    (hc : ∀ az, ArgsD rs az → FnP C.prog τ τok f az (fun r => r = .d (.bool true))) :
    ReturnsInHanded {} C os f .any (s.pre6 enc C.prog fn conds apart) (s.post enc C.prog fn apart fresh handsOn false) := by
  refine returnsInHanded_of_change_sized own started noInit hfn witness ?_
  intro W base args ds gs before hval hW _ hwt _
  obtain ⟨p, q, hA, hV, hpq, hfz, hnd⟩ := id hW
  rw [hv] at hV
  obtain ⟨rfl, rfl⟩ := trodVars_none hV
  rw [hvt, List.append_nil, List.append_nil] at hwt
  have hlen : ∀ (ts : List TypeId) (vs : List Value) (ds : List (DataW H)) (ps : List MemPlace), DataW.TrodAll enc C.prog W 0 (fun _ => true) true ts vs ds ps → ds.length = ts.length := by
    intro ts
    induction ts with
    | nil => intro vs ds ps h; obtain ⟨rfl, rfl, rfl⟩ := trodAll_nil h; rfl
    | cons t ts ih =>
      intro vs ds ps h
      obtain ⟨v, vs', d, ds', p, q, rfl, rfl, rfl, h1, h2⟩ := trodAll_cons h
      simp [ih _ _ _ h2]
  refine (law_calls hc hb hA (fun j t v ht hv => hval j t v (by simpa using ht) (by simpa using hv)) (fun n hn => by simpa using List.all_eq_true.1 hwt n hn)).mono ?_
  rintro en W' ⟨rfl, hbl⟩
  exact ⟨_, rfl, law_post hv hW (fun _ => by rw [List.append_nil]; exact hs ds (hlen _ _ _ _ hA)) hres htb hl hr hbl⟩
end
end Go.Proofs.Ytapciiffpnociaa

/- Programs that are handed in, read as data. Condition: none. -/
namespace Go.Proofs.Ytapciiffpnociaa
open Go Go.RowKit

theorem plistOf {α : Type} {e : RT} {enc : α → List D} (h : ∀ x, TyD e x → ∃ t, x = enc t) : ∀ (l : List (List D)), (∀ x ∈ l, TyD e x) → ∃ ts : List α, l = ts.map enc
  | [], _ => ⟨[], rfl⟩
  | x :: l, hl => by
    obtain ⟨t, rfl⟩ := h x (hl x (List.mem_cons_self ..))
    obtain ⟨ts, rfl⟩ := plistOf h l fun y hy => hl y (List.mem_cons_of_mem _ hy)
    exact ⟨t :: ts, rfl⟩
theorem psliceOf {α : Type} {c b : Nat} {e : RT} {enc : α → List D} (h : ∀ x, TyD e x → ∃ t, x = enc t) (x : List D) (hx : TyD (.slice c b e) x) : ∃ ts : List α, x = [.slice c (ts.map enc)] := by
  obtain ⟨l, _, _, rfl, h3⟩ := hx
  obtain ⟨ts, rfl⟩ := plistOf h l h3
  exact ⟨ts, rfl⟩
abbrev rtTrm : RT := .struct [.int .i64, .int .i64]
abbrev rtLtl : RT := .struct [.int .i64, .int .i64, .int .i64, .slice 2 16 rtTrm]
abbrev rtRul : RT := .struct [.int .i64, .slice 2 16 rtTrm, .int .i64, .slice 4 48 rtLtl, .int .i64]
abbrev rtPrg : RT := .struct [.slice 1 8 (.int .i64), .slice 1 16 .str, .slice 5 72 rtRul]
theorem pint_of (x : List D) (h : TyD (.int .i64) x) : ∃ n : Int, x = encI n := by
  obtain ⟨n, _, rfl⟩ := h
  exact ⟨n, rfl⟩
theorem pstr_of (x : List D) (h : TyD .str x) : ∃ n : ByteArray, x = encT n := by
  obtain ⟨n, _, rfl⟩ := h
  exact ⟨n, rfl⟩
theorem trm_of (x : List D) (h : TyD rtTrm x) : ∃ t : Trm, x = encTrm t := by
  obtain ⟨a, b, rfl, ⟨k, _, rfl⟩, c, d, rfl, ⟨p, _, rfl⟩, rfl⟩ := h
  exact ⟨⟨k, p⟩, rfl⟩
theorem ltl_of (x : List D) (h : TyD rtLtl x) : ∃ t : Ltl, x = encLtl t := by
  obtain ⟨a, b, rfl, ⟨k, _, rfl⟩, c, d, rfl, ⟨p, _, rfl⟩, e, f, rfl, ⟨q, _, rfl⟩, g, i, rfl, h4, rfl⟩ := h
  obtain ⟨l, rfl⟩ := psliceOf trm_of g h4
  exact ⟨⟨k, p, q, l⟩, rfl⟩
theorem rul_of (x : List D) (h : TyD rtRul x) : ∃ t : Rul, x = encRul t := by
  obtain ⟨a, b, rfl, ⟨k, _, rfl⟩, c, d, rfl, h2, e, f, rfl, ⟨q, _, rfl⟩, g, i, rfl, h4, j, m, rfl, ⟨v, _, rfl⟩, rfl⟩ := h
  obtain ⟨l, rfl⟩ := psliceOf trm_of c h2
  obtain ⟨n, rfl⟩ := psliceOf ltl_of g h4
  exact ⟨⟨k, l, q, n, v⟩, rfl⟩
theorem prg_arg (x : List D) (h : TyD rtPrg x) : ∃ p : Prg, RT.arg rtPrg x = elPrg p := by
  obtain ⟨c, d, rfl, h2, e, f, rfl, h3, g, h, rfl, h4, rfl⟩ := h
  obtain ⟨l, rfl⟩ := psliceOf pint_of c h2
  obtain ⟨m, rfl⟩ := psliceOf pstr_of e h3
  obtain ⟨n, rfl⟩ := psliceOf rul_of g h4
  exact ⟨⟨l, m, n⟩, rfl⟩
abbrev rtInts : RT := .slice 1 8 (.int .i64)
theorem ints_arg (x : List D) (h : TyD rtInts x) : ∃ l : List Int, RT.arg rtInts x = .d (.slice 1 (l.map encI)) := by
  obtain ⟨l, rfl⟩ := psliceOf pint_of x h
  exact ⟨l, rfl⟩
end Go.Proofs.Ytapciiffpnociaa

/- StrataLeast walked. Condition: none. -/
namespace Go.Proofs.Ytapciiffpnociaa
open Go Go.RowKit
attribute [local irreducible] DW DS DL DQ Ev FnOk FnP thenD inBlockD DWr
theorem least_same (p : Prg) (pred : Int) (h : readyE p pred = 0) : Fn 30 [elPrg (focusP p pred), .d (.int .i64 pred)] (fun res => res = .tup [elPrg (focusP p pred), .d (.int .i64 0)]) ∧ Fn 38 [elPrg (focusP p pred), elPrg (focusP p pred)] (fun res => res = .d (.bool true)) := by
  have h1 := focus_fn (focusP p pred) pred
  rw [(focus_twice h).1, (focus_twice h).2] at h1
  refine ⟨h1, ?_⟩
  obtain ⟨g1, g2⟩ := readyE_ok h
  have hq : focusP p pred = ⟨p.arity, p.names, focusL (needsL p pred) p.rules⟩ := if_pos h
  have ho := progE_ok (focus_progE g1 (needsL p pred))
  rw [hq]
  exact same_fn _ (by have := ho.names; have := ho.preds; omega) ho.rules (fun r hr => (ho.each r hr).body)
set_option maxHeartbeats 8000000 in
theorem strataLeast_fn (p : Prg) (pred : Int) (lv : List Int) : Fn 10 [elPrg p, .d (.int .i64 pred), .d (.slice 1 (lv.map encI))] (fun res => res = .d (.bool true)) := by
  refine fnp_enter' _ Try.func10 rfl rfl (by kernel_rfl) ?_
  intro O w0 E0 β0
  have hl := levels_fn p
  have hf := focus_fn p pred
  have hc := rcheck_fn p
  have hb := begun_fn
  have hs := least_same p pred
  have la : (p.arity.map encI).length = p.arity.length := List.length_map _
  have ll : (lv.map encI).length = lv.length := List.length_map _
  by_cases h0 : progE nameR p = 0
  · have hok := progE_ok h0
    rw [h0] at hc
    have ha10 := hok.preds
    have ht := fits_fn p lv hok
    cases hdoc : docOk p with
    | false =>
      have e1 : levE p = 4 := by unfold levE; rw [if_neg (by rw [h0]; simp), if_neg (by rw [hdoc]; simp)]
      have e2 : levL p = [] := if_neg (fun h => by rw [hdoc] at h; cases h.2)
      rw [e1, e2] at hl
      rw [doc_none hok hdoc] at ht
      by_cases hr : readyE p pred = 0
      · rw [hr] at hf
        obtain ⟨s1, s2⟩ := hs hr
        generalize focusP p pred = q at hf s1 s2
        repeat' (first | (apply ds_evC; exact rfl; (with_reducible exact trivial); (with_reducible exact rfl); exact rfl; exact rfl; exact rfl) | apply ds_nil | apply dw_seq2 | (apply ds_region; exact rfl) | apply dw_skip | apply dw_ret | (apply dw_condT; exact rfl) | (apply dw_condF; exact rfl) | apply thenD_n | apply thenD_r | (apply ds_call; exact rfl; exact rfl; apply hl; exact rfl; (exact rfl); exact rfl; rintro _ rfl) | (apply ds_call; exact rfl; exact rfl; apply hf; exact rfl; (exact rfl); exact rfl; rintro _ rfl) | (apply ds_call; exact rfl; exact rfl; apply hc; exact rfl; (exact rfl); exact rfl; rintro _ rfl) | (apply ds_call; exact rfl; exact rfl; apply hb; exact rfl; (exact rfl); exact rfl; rintro _ rfl) | (apply ds_call; exact rfl; exact rfl; apply s1; exact rfl; (exact rfl); exact rfl; rintro _ rfl) | (apply ds_call; exact rfl; exact rfl; apply s2; exact rfl; (exact rfl); exact rfl; rintro _ rfl) | (apply ds_call; exact rfl; exact rfl; apply ht; exact rfl; (exact rfl); exact rfl; rintro _ rfl) | (apply ds_newC; exact rfl; (with_reducible exact trivial); exact rfl; exact rfl; exact rfl) | (apply ds_setC; exact rfl; exact rfl; exact rfl; exact rfl))
        all_goals try (exfalso; omega)
        all_goals exact ⟨.inl rfl, _, rfl, rfl, rfl⟩
      · generalize readyE p pred = e at hf hr
        generalize focusP p pred = q at hf
        repeat' (first | (apply ds_evC; exact rfl; (with_reducible exact trivial); (with_reducible exact rfl); exact rfl; exact rfl; exact rfl) | apply ds_nil | apply dw_seq2 | (apply ds_region; exact rfl) | apply dw_skip | apply dw_ret | (apply dw_condT; exact rfl) | (apply dw_condF; exact rfl) | apply thenD_n | apply thenD_r | (apply ds_call; exact rfl; exact rfl; apply hl; exact rfl; (exact rfl); exact rfl; rintro _ rfl) | (apply ds_call; exact rfl; exact rfl; apply hf; exact rfl; (exact rfl); exact rfl; rintro _ rfl) | (apply ds_call; exact rfl; exact rfl; apply hc; exact rfl; (exact rfl); exact rfl; rintro _ rfl) | (apply ds_call; exact rfl; exact rfl; apply hb; exact rfl; (exact rfl); exact rfl; rintro _ rfl) | (apply ds_call; exact rfl; exact rfl; apply ht; exact rfl; (exact rfl); exact rfl; rintro _ rfl) | (apply ds_newC; exact rfl; (with_reducible exact trivial); exact rfl; exact rfl; exact rfl) | (apply ds_setC; exact rfl; exact rfl; exact rfl; exact rfl) | (apply dw_condP; exact rfl; all_goals intro hg))
        all_goals try (exfalso; omega)
        all_goals exact ⟨.inl rfl, _, rfl, rfl, rfl⟩
    | true =>
      have e1 : levE p = 0 := by unfold levE; rw [if_neg (by rw [h0]; simp), if_pos hdoc]
      have e2 : levL p = docLv p := if_pos ⟨h0, hdoc⟩
      have hd := fits_fn p (docLv p) hok
      rw [doc_fits hok hdoc] at hd
      rw [e1, e2] at hl
      have ldv : (docLv p).length = p.arity.length := (doc_rest hok hdoc).2.1
      have hbel := fun h => doc_below hok hdoc (lv := lv) h
      have hlen : fitsB p lv = true → lv.length = p.arity.length := fun h => (fits_iff.1 h).1
      generalize docLv p = dv at hl hd ldv hbel
      generalize fitsB p lv = fb at ht hbel hlen
      have ld : (dv.map encI).length = dv.length := List.length_map _
      cases fb with
      | false =>
        by_cases hr : readyE p pred = 0
        · rw [hr] at hf
          obtain ⟨s1, s2⟩ := hs hr
          generalize focusP p pred = q at hf s1 s2
          repeat' (first | (apply ds_evC; exact rfl; (with_reducible exact trivial); (with_reducible exact rfl); exact rfl; exact rfl; exact rfl) | apply ds_nil | apply dw_seq2 | (apply ds_region; exact rfl) | apply dw_skip | apply dw_ret | (apply dw_condT; exact rfl) | (apply dw_condF; exact rfl) | apply thenD_n | (apply ds_call; exact rfl; exact rfl; apply hl; exact rfl; (exact rfl); exact rfl; rintro _ rfl) | (apply ds_call; exact rfl; exact rfl; apply hf; exact rfl; (exact rfl); exact rfl; rintro _ rfl) | (apply ds_call; exact rfl; exact rfl; apply hb; exact rfl; (exact rfl); exact rfl; rintro _ rfl) | (apply ds_call; exact rfl; exact rfl; apply s1; exact rfl; (exact rfl); exact rfl; rintro _ rfl) | (apply ds_call; exact rfl; exact rfl; apply s2; exact rfl; (exact rfl); exact rfl; rintro _ rfl) | (apply ds_call; exact rfl; exact rfl; apply ht; exact rfl; (exact rfl); exact rfl; rintro _ rfl) | (apply ds_call; exact rfl; exact rfl; apply hd; exact rfl; (exact rfl); exact rfl; rintro _ rfl) | (apply ds_newC; exact rfl; (with_reducible exact trivial); exact rfl; exact rfl; exact rfl) | (apply ds_setC; exact rfl; exact rfl; exact rfl; exact rfl))
          all_goals try (exfalso; omega)
          all_goals exact ⟨.inl rfl, _, rfl, rfl, rfl⟩
        · generalize readyE p pred = e at hf hr
          generalize focusP p pred = q at hf
          repeat' (first | (apply ds_evC; exact rfl; (with_reducible exact trivial); (with_reducible exact rfl); exact rfl; exact rfl; exact rfl) | apply ds_nil | apply dw_seq2 | (apply ds_region; exact rfl) | apply dw_skip | apply dw_ret | (apply dw_condF; exact rfl) | apply thenD_n | (apply ds_call; exact rfl; exact rfl; apply hl; exact rfl; (exact rfl); exact rfl; rintro _ rfl) | (apply ds_call; exact rfl; exact rfl; apply hf; exact rfl; (exact rfl); exact rfl; rintro _ rfl) | (apply ds_call; exact rfl; exact rfl; apply hb; exact rfl; (exact rfl); exact rfl; rintro _ rfl) | (apply ds_call; exact rfl; exact rfl; apply ht; exact rfl; (exact rfl); exact rfl; rintro _ rfl) | (apply ds_call; exact rfl; exact rfl; apply hd; exact rfl; (exact rfl); exact rfl; rintro _ rfl) | (apply ds_newC; exact rfl; (with_reducible exact trivial); exact rfl; exact rfl; exact rfl) | (apply ds_setC; exact rfl; exact rfl; exact rfl; exact rfl) | (apply dw_condP; exact rfl; all_goals intro hg))
          all_goals try (exfalso; omega)
          all_goals exact ⟨.inl rfl, _, rfl, rfl, rfl⟩
      | true =>
        have hlen := hlen rfl
        have hbel := hbel rfl
        by_cases hr : readyE p pred = 0
        · rw [hr] at hf
          obtain ⟨s1, s2⟩ := hs hr
          generalize focusP p pred = q at hf s1 s2
          repeat' (first | (apply ds_evC; exact rfl; (with_reducible exact trivial); (with_reducible exact rfl); exact rfl; exact rfl; exact rfl) | apply ds_nil | apply dw_seq2 | (apply ds_region; exact rfl) | apply dw_block | apply dw_skip | (apply dw_condT; exact rfl) | (apply dw_condF; exact rfl) | apply thenD_n | (apply ds_call; exact rfl; exact rfl; apply hl; exact rfl; (exact rfl); exact rfl; rintro _ rfl) | (apply ds_call; exact rfl; exact rfl; apply hf; exact rfl; (exact rfl); exact rfl; rintro _ rfl) | (apply ds_call; exact rfl; exact rfl; apply hb; exact rfl; (exact rfl); exact rfl; rintro _ rfl) | (apply ds_call; exact rfl; exact rfl; apply s1; exact rfl; (exact rfl); exact rfl; rintro _ rfl) | (apply ds_call; exact rfl; exact rfl; apply s2; exact rfl; (exact rfl); exact rfl; rintro _ rfl) | (apply ds_call; exact rfl; exact rfl; apply ht; exact rfl; (exact rfl); exact rfl; rintro _ rfl) | (apply ds_call; exact rfl; exact rfl; apply hd; exact rfl; (exact rfl); exact rfl; rintro _ rfl) | (apply ds_newC; exact rfl; (with_reducible exact trivial); exact rfl; exact rfl; exact rfl) | (apply ds_setC; exact rfl; exact rfl; exact rfl; exact rfl))
          all_goals try (exfalso; omega)
          refine ds_loop (ι := Nat) (fun i => ⟨0, [(2, .d (.slice 1 (lv.map encI))), (7, .d (.slice 1 (dv.map encI))), (13, .d (.int .i64 i))], []⟩)
            (fun i => i ≤ dv.length) (fun i => dv.length - i) 0 (Nat.zero_le _) (ent_ren id ⟨rfl, rfl, rfl, trivial⟩ trivial rfl rfl rfl rfl rfl rfl) ?_
          intro i hi
          by_cases hi2 : i < dv.length
          · have hb2 := hbel i
            rw [List.getD, List.getElem?_eq_getElem hi2, List.getD, List.getElem?_eq_getElem (show i < lv.length by omega)] at hb2
            have hb2 : dv[i] ≤ lv[i]'(by omega) := hb2
            repeat' (first | (apply ds_evC; exact rfl; (first | (with_reducible exact trivial) | omega); (with_reducible exact rfl); exact rfl; exact rfl; exact rfl) | apply ds_nil | (apply dt_ev; exact rfl; exact rfl; (first | (with_reducible exact trivial) | omega); (first | ((with_reducible apply hv_row); (exact rfl); (omega)) | (with_reducible exact rfl)); exact rfl; exact rfl; exact rfl; exact rfl) | (apply dt_nil0; exact rfl; exact rfl; exact rfl; exact rfl) | apply dw_seq2 | (apply ds_region; exact rfl) | (apply dw_any; kernel_rfl; kernel_rfl; exact rfl; exact rfl) | apply dw_block | apply dw_skip | apply dw_exit | apply dw_ret | apply thenD_n | apply thenD_e | apply thenD_r | apply inB_n | apply inB_r | (apply inB_e; exact rfl) | (apply dw_condP; exact rfl; all_goals intro hg))
            all_goals try (exfalso; omega)
            exact ⟨i + 1, hi2, ent_ren id ⟨rfl, rfl, rfl, trivial⟩ trivial rfl rfl rfl rfl rfl rfl, by show dv.length - (i + 1) < dv.length - i; omega⟩
          · repeat' (first | (apply ds_evC; exact rfl; (first | (with_reducible exact trivial) | omega); (with_reducible exact rfl); exact rfl; exact rfl; exact rfl) | apply ds_nil | (apply dt_ev; exact rfl; exact rfl; (first | (with_reducible exact trivial) | omega); (first | ((with_reducible apply hv_row); (exact rfl); (omega)) | (with_reducible exact rfl)); exact rfl; exact rfl; exact rfl; exact rfl) | (apply dt_nil0; exact rfl; exact rfl; exact rfl; exact rfl) | apply dw_seq2 | (apply ds_region; exact rfl) | (apply dw_any; kernel_rfl; kernel_rfl; exact rfl; exact rfl) | apply dw_block | apply dw_skip | apply dw_exit | apply dw_ret | apply thenD_n | apply thenD_e | apply thenD_r | apply inB_n | apply inB_r | (apply inB_e; exact rfl) | (apply dw_condP; exact rfl; all_goals intro hg))
            all_goals try (exfalso; omega)
            all_goals exact ⟨.inl rfl, _, rfl, rfl, rfl⟩
        · generalize readyE p pred = e at hf hr
          generalize focusP p pred = q at hf
          repeat' (first | (apply ds_evC; exact rfl; (with_reducible exact trivial); (with_reducible exact rfl); exact rfl; exact rfl; exact rfl) | apply ds_nil | apply dw_seq2 | (apply ds_region; exact rfl) | apply dw_block | apply dw_skip | (apply dw_condT; exact rfl) | (apply dw_condF; exact rfl) | apply thenD_n | (apply ds_call; exact rfl; exact rfl; apply hl; exact rfl; (exact rfl); exact rfl; rintro _ rfl) | (apply ds_call; exact rfl; exact rfl; apply hf; exact rfl; (exact rfl); exact rfl; rintro _ rfl) | (apply ds_call; exact rfl; exact rfl; apply hb; exact rfl; (exact rfl); exact rfl; rintro _ rfl) | (apply ds_call; exact rfl; exact rfl; apply ht; exact rfl; (exact rfl); exact rfl; rintro _ rfl) | (apply ds_call; exact rfl; exact rfl; apply hd; exact rfl; (exact rfl); exact rfl; rintro _ rfl) | (apply ds_newC; exact rfl; (with_reducible exact trivial); exact rfl; exact rfl; exact rfl) | (apply ds_setC; exact rfl; exact rfl; exact rfl; exact rfl) | (apply dw_condP; exact rfl; all_goals intro hg))
          all_goals try (exfalso; omega)
          refine ds_loop (ι := Nat) (fun i => ⟨0, [(2, .d (.slice 1 (lv.map encI))), (7, .d (.slice 1 (dv.map encI))), (13, .d (.int .i64 i))], []⟩)
            (fun i => i ≤ dv.length) (fun i => dv.length - i) 0 (Nat.zero_le _) (ent_ren id ⟨rfl, rfl, rfl, trivial⟩ trivial rfl rfl rfl rfl rfl rfl) ?_
          intro i hi
          by_cases hi2 : i < dv.length
          · have hb2 := hbel i
            rw [List.getD, List.getElem?_eq_getElem hi2, List.getD, List.getElem?_eq_getElem (show i < lv.length by omega)] at hb2
            have hb2 : dv[i] ≤ lv[i]'(by omega) := hb2
            repeat' (first | (apply ds_evC; exact rfl; (first | (with_reducible exact trivial) | omega); (with_reducible exact rfl); exact rfl; exact rfl; exact rfl) | apply ds_nil | (apply dt_ev; exact rfl; exact rfl; (first | (with_reducible exact trivial) | omega); (first | ((with_reducible apply hv_row); (exact rfl); (omega)) | (with_reducible exact rfl)); exact rfl; exact rfl; exact rfl; exact rfl) | (apply dt_nil0; exact rfl; exact rfl; exact rfl; exact rfl) | apply dw_seq2 | (apply ds_region; exact rfl) | (apply dw_any; kernel_rfl; kernel_rfl; exact rfl; exact rfl) | apply dw_block | apply dw_skip | apply dw_exit | apply dw_ret | apply thenD_n | apply thenD_e | apply thenD_r | apply inB_n | apply inB_r | (apply inB_e; exact rfl) | (apply dw_condP; exact rfl; all_goals intro hg))
            all_goals try (exfalso; omega)
            exact ⟨i + 1, hi2, ent_ren id ⟨rfl, rfl, rfl, trivial⟩ trivial rfl rfl rfl rfl rfl rfl, by show dv.length - (i + 1) < dv.length - i; omega⟩
          · repeat' (first | (apply ds_evC; exact rfl; (first | (with_reducible exact trivial) | omega); (with_reducible exact rfl); exact rfl; exact rfl; exact rfl) | apply ds_nil | (apply dt_ev; exact rfl; exact rfl; (first | (with_reducible exact trivial) | omega); (first | ((with_reducible apply hv_row); (exact rfl); (omega)) | (with_reducible exact rfl)); exact rfl; exact rfl; exact rfl; exact rfl) | (apply dt_nil0; exact rfl; exact rfl; exact rfl; exact rfl) | apply dw_seq2 | (apply ds_region; exact rfl) | (apply dw_any; kernel_rfl; kernel_rfl; exact rfl; exact rfl) | apply dw_block | apply dw_skip | apply dw_exit | apply dw_ret | apply thenD_n | apply thenD_e | apply thenD_r | apply inB_n | apply inB_r | (apply inB_e; exact rfl) | (apply dw_condP; exact rfl; all_goals intro hg))
            all_goals try (exfalso; omega)
            all_goals exact ⟨.inl rfl, _, rfl, rfl, rfl⟩
  · have e1 : levE p = progE nameR p := if_pos h0
    have e2 : levL p = [] := if_neg (fun h => h0 h.1)
    have e3 : readyE p pred = progE nameR p := if_pos h0
    rw [e1, e2] at hl
    rw [e3] at hf
    generalize focusP p pred = q at hf
    generalize progE nameR p = e at *
    repeat' (first | (apply ds_evC; exact rfl; (with_reducible exact trivial); (with_reducible exact rfl); exact rfl; exact rfl; exact rfl) | (apply ds_skip; exact rfl; exact rfl) | apply ds_nil | apply dw_seq2 | (apply ds_region; exact rfl) | apply dw_skip | apply dw_ret | (apply dw_condF; exact rfl) | apply thenD_n | apply thenD_r | (apply ds_call; exact rfl; exact rfl; apply hl; exact rfl; (exact rfl); exact rfl; rintro _ rfl) | (apply ds_call; exact rfl; exact rfl; apply hf; exact rfl; (exact rfl); exact rfl; rintro _ rfl) | (apply ds_call; exact rfl; exact rfl; apply hc; exact rfl; (exact rfl); exact rfl; rintro _ rfl) | (apply ds_call; exact rfl; exact rfl; apply hb; exact rfl; (exact rfl); exact rfl; rintro _ rfl) | (apply ds_newC; exact rfl; (with_reducible exact trivial); exact rfl; exact rfl; exact rfl) | (apply ds_setC; exact rfl; exact rfl; exact rfl; exact rfl) | (apply dw_condP; exact rfl; all_goals intro hg) | ((fail_if_success (apply ds_known; exact rfl)); apply ds_guardP; exact rfl; exact rfl; exact rfl; all_goals intro hg))
    all_goals try (exfalso; omega)
    all_goals exact ⟨.inl rfl, _, rfl, rfl, rfl⟩
end Go.Proofs.Ytapciiffpnociaa
