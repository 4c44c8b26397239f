/- A plain logic over the walk: a region that draws its order. No program is named here. Condition: none. -/
import Derived.Test.YtapciiffpnociaaGxAny
namespace Go.Proofs.Ytapciiffpnociaa
open Go Go.RowKit

section
variable {Γ : Ctx} {ops : List Oper} {κ : Nat} {s : FS} {i j : Nat} {o oi oj : Oper}

theorem okLog_sub {rd wr : List Nat} {lg lg' : Log} (h : ∀ q ∈ lg', q ∈ lg) (hk : okLog ops i rd wr lg = true) : okLog ops i rd wr lg' = true :=
  okLog_spec.2 fun q hq => okLog_spec.1 hk q (h q hq)

theorem DR.log_sub {l : List (Nat × Oper)} {lg lg' : Log} {K : FS → Prop} (h : DR Γ ops κ l lg K s) (hs : ∀ q ∈ lg', q ∈ lg) : DR Γ ops κ l lg' K s := by
  induction h generalizing lg' with
  | nil h => exact .nil h
  | cons c S rd wr hm hl hne hn _ ih =>
    refine .cons c S rd wr hm (okLog_sub hs hl) hne hn fun v u hv => ih v u hv fun q hq => ?_
    rcases List.mem_cons.1 hq with rfl | hq
    · exact List.mem_cons_self ..
    · exact List.mem_cons_of_mem _ (hs q hq)

theorem notIn_comm {l r : List Nat} (h : disj l r = true) : disj r l = true := disj_of fun i hi hl => disj_spec h i hl hi

/-- May one that stands ahead come behind? -/
def swapOk (ops : List Oper) (j : Nat) (oj : Oper) (i : Nat) (oi : Oper) : Prop :=
  edgeB ops i j = false ∧ edgeB ops j i = false ∧ apartO ops oj oi = true ∧ (isCall oj = true → isCall oi = false)

theorem DR.swap {rest : List (Nat × Oper)} {lg : Log} {K : FS → Prop} (hs : swapOk ops j oj i oi) (h : DR Γ ops κ ((j, oj) :: (i, oi) :: rest) lg K s) : DR Γ ops κ ((i, oi) :: (j, oj) :: rest) lg K s := by
  obtain ⟨e1, e2, hap, hcc⟩ := hs
  simp only [apartO, Bool.and_eq_true] at hap
  obtain ⟨a1, a2, a3⟩ := hap
  have a3' : nin oi.dst oj.dst.toList = true := by
    cases hi : oi.dst with
    | none => rfl
    | some x =>
      cases hj : oj.dst with
      | none => rfl
      | some y =>
        rw [hi, hj] at a3
        refine notIn_true fun hm => notIn_spec _ _ a3 ?_
        simp only [Option.toList, List.mem_singleton] at hm ⊢
        exact hm.symm
  cases h with
  | cons cj Sj rdj wrj hmj hlj hnej hnj hkj =>
    obtain ⟨v0, u0, h0⟩ := hnej
    have hk0 := hkj v0 u0 h0
    -- what the second one is, behind the first
    have second : ∀ v u, Sj v u → ∃ ci Si rdi wri, Mv Γ ops κ s i oi ci Si rdi wri ∧ okLog ops i rdi wri lg = true ∧ disj wrj rdi = true ∧ disj wri rdj = true ∧ disj wri wrj = true ∧ (∃ v u, Si v u) ∧ (∀ v u, Si v u → u.names (κ + i) = wri) ∧
        ∀ vi ui, Si vi ui → DR Γ ops κ rest ((i, rdi, wri) :: (j, rdj, wrj) :: lg) K ((s.app (κ + j) oj.dst v u).app (κ + i) oi.dst vi ui) := by
      intro v u hv
      have hk := hkj v u hv
      cases hk with
      | cons ci Si rdi wri hmi hli hnei hni hki =>
        simp only [okLog, Bool.and_eq_true, e1, e2, Bool.or_false] at hli
        obtain ⟨⟨d1, d2, d3⟩, hl⟩ := hli
        have hmi' := (Mv.move a1 (fun x hx hu => disj_spec d1 x (by rw [← hnj v u hv]; exact hu) hx)).1 hmi
        exact ⟨ci, Si, rdi, wri, hmi', hl, d1, d2, d3, hnei, hni, hki⟩
    obtain ⟨ci, Si, rdi, wri, hmi, hli, d1, d2, d3, hnei, hni, hki⟩ := second v0 u0 h0
    refine .cons ci Si rdi wri hmi hli hnei hni fun vi ui hvi => ?_
    have hnui := hni vi ui hvi
    have hmj' : Mv Γ ops κ (s.app (κ + i) oi.dst vi ui) j oj cj Sj rdj wrj := (Mv.move a2 (fun x hx hu => disj_spec d2 x (by rw [← hnui]; exact hu) hx)).2 hmj
    refine .cons cj Sj rdj wrj hmj' ?_ ⟨v0, u0, h0⟩ hnj fun vj uj hvj => ?_
    · simp only [okLog, Bool.and_eq_true, e1, e2, Bool.or_false]
      exact ⟨⟨d2, d1, notIn_comm d3⟩, hlj⟩
    · have hcomm : (s.app (κ + i) oi.dst vi ui).app (κ + j) oj.dst vj uj = (s.app (κ + j) oj.dst vj uj).app (κ + i) oi.dst vi ui :=
        FS.app_comm a3' (by rw [hnui, hnj vj uj hvj]; exact d3)
      rw [hcomm]
      have hlog : ∀ q ∈ ((j, rdj, wrj) :: (i, rdi, wri) :: lg), q ∈ ((i, rdi, wri) :: (j, rdj, wrj) :: lg) := fun q hq => by
        simp only [List.mem_cons] at hq ⊢
        rcases hq with h | h | h
        · exact .inr (.inl h)
        · exact .inl h
        · exact .inr (.inr h)
      cases cj with
      | false =>
        obtain ⟨r1, r2⟩ := Mv.one hmj hvj h0
        subst r1; subst r2
        exact (hki vi ui hvi).log_sub hlog
      | true =>
        have hci := hcc (Mv.call_is hmj)
        obtain ⟨ci', Si', rdi', wri', hmi', _, _, _, _, _, _, hki'⟩ := second vj uj hvj
        have f1 : ci = false := by
          cases ci with
          | false => rfl
          | true => rw [Mv.call_is hmi] at hci; cases hci
        have f2 : ci' = false := by
          cases ci' with
          | false => rfl
          | true => rw [Mv.call_is hmi'] at hci; cases hci
        subst f1; subst f2
        obtain ⟨r1, r2, r3⟩ := Mv.det hmi hmi'
        subst r1; subst r2; subst r3
        exact (hki' vi ui hvi).log_sub hlog

theorem DR.mono {l : List (Nat × Oper)} {lg : Log} {K K' : FS → Prop} (h : DR Γ ops κ l lg K s) (hK : ∀ s, K s → K' s) : DR Γ ops κ l lg K' s := by
  induction h with
  | nil h => exact .nil (hK _ h)
  | cons c S rd wr hm hl hne hn _ ih => exact .cons c S rd wr hm hl hne hn fun v u hv => ih v u hv hK

/-- One that may come first is taken first. -/
theorem DR.pull {post : List (Nat × Oper)} {K : FS → Prop} : ∀ (pre : List (Nat × Oper)) (lg : Log) (s : FS), (∀ q ∈ pre, swapOk ops q.1 q.2 i oi) → DR Γ ops κ (pre ++ (i, oi) :: post) lg K s → DR Γ ops κ ((i, oi) :: (pre ++ post)) lg K s
  | [], _, _, _, h => h
  | (j, oj) :: pre, lg, s, hs, h => by
    refine DR.swap (hs _ (List.mem_cons_self ..)) ?_
    cases h with
    | cons c S rd wr hm hl hne hn hk =>
      exact .cons c S rd wr hm hl hne hn fun v u hv => DR.pull pre _ _ (fun q hq => hs q (List.mem_cons_of_mem _ hq)) (hk v u hv)

/-- A state that a world bears out. -/
def Rep (Γ : Ctx) (k : Nat → Prop) (s : FS) (e : Env) (a : Act) (w : World) : Prop := ∃ L H, Models Γ k L H e a w ∧ ofL L H = s

theorem Models.putO {k : Nat → Prop} {L : Sl} {H : Hp} {e : Env} {a : Act} {w : World} (m : Models Γ k L H e a w) {dst : Option Nat} {v : SV} {u : Value} (hd : dstOk Γ dst = true) (hr : Rel (Γ.X e H) e w v u) : Models Γ k (putL dst v L) H e (a.put dst u) w := by
  cases dst with
  | none => exact m
  | some d => exact m.put (Nat.le_of_ble_eq_true hd) hr

theorem appL_get {L : Sl} {H : Hp} (hnd : (H.map (·.1)).Nodup) {dst : Option Nat} {p : Prop} {v : SV} {u : Up} {z : Nat} {op : Op} (h : stepC Γ.τ (opSV L) (Hp.get H) z dst op = some (p, v, u)) : ofL (putL dst v L) (u.appL z H) = (ofL L H).app z dst v u := by
  have h1 : ((ofL L H).put dst v).ℓ = (putL dst v L).get := by rw [ofL_put]; rfl
  have h2 : Hp.get (u.appL z H) = u.app z (Hp.get H) := by
    funext t
    cases u with
    | no => rfl
    | new b => exact Hp.get_cons z b H t
    | set i b =>
      have : ∃ b0, Hp.get H i = some b0 := by
        cases dst with
        | none =>
          cases op <;> simp only [stepC] at h <;> try cases h
          case store te x y =>
            simp only [storeC, forceL_eq] at h
            split at h
            · split at h
              · rename_i hH
                split at h
                · cases h; exact ⟨_, hH⟩
                · cases h
              · cases h
            · cases h
        | some d =>
          exfalso
          simp only [stepC] at h
          cases op <;> simp only [stepD, forceL_eq] at h
          case alloc => split at h <;> cases h
          case box => split at h <;> cases h
          case buildSlice =>
            unfold buildSliceC at h
            repeat' (split at h)
            all_goals cases h
          case call c =>
            obtain ⟨callee, args, ts⟩ := c
            cases callee with
            | builtin bb =>
              cases bb <;> dsimp only at h
              case append =>
                split at h
                · split at h
                  · rw [appendC_eq] at h
                    unfold appendC0 at h
                    repeat' (split at h)
                    all_goals cases h
                  · cases h
                · cases h
              all_goals (split at h <;> cases h)
            | _ => dsimp only at h; split at h <;> cases h
          all_goals (split at h <;> cases h)
      obtain ⟨b0, hb0⟩ := this
      exact Hp.get_set i b H b0 hb0 t
    | trade i b =>
      show Hp.get ((z, b) :: Hp.del H i) t = _
      rw [Hp.get_cons, Hp.get_del i H hnd]
      rfl
  unfold FS.app
  rw [h1]
  unfold ofL
  rw [h2]

/-- What the model does at an operation. -/
theorem Mv.sound {k : Nat → Prop} {c : Bool} {S : SV → Up → Prop} {rd wr : List Nat} (h : Mv Γ ops κ s i o c S rd wr) {e : Env} {a : Act} {w : World} (hr : Rep Γ k s e a w) (hz : ¬ k (κ + i)) (hi : ops[i]? = some o) (Q : Exit → Act → World → Prop) (K : Act → World → Prop)
    (hK : ∀ v u a' w' e', S v u → Rep Γ (with1 k (κ + i)) (s.app (κ + i) o.dst v u) e' a' w' → K a' w') : wpOp Γ.P ops.toArray Q i K a w := by
  obtain ⟨L, H, m, rfl⟩ := hr
  have hwanted : ∀ b, wantedF ops (ofL L H).ℓ o.guard = some b → Region.wanted o (yielded ops.toArray a.tmps) = b := fun b hb => wantedSV_spec m ((wantedF_eq ops L o.guard) ▸ hb)
  unfold wpOp
  have hi' : ops.toArray[i]? = some o := by simpa using hi
  rw [hi']
  cases h with
  | skip hw hd =>
    simp only [hwanted _ hw]
    obtain ⟨e', m'⟩ := (m.putO (v := .tup []) (u := undef) hd ⟨[], rfl, trivial⟩).widen (κ + i)
    exact hK _ _ _ _ e' ⟨rfl, rfl⟩ ⟨_, _, m', (ofL_put L H o.dst (.tup [])).symm ▸ by cases o.dst <;> rfl⟩
  | step p v0 u0 hw hs hp hok hd =>
    simp only [hwanted _ hw, if_true]
    rw [ofL_op] at hs
    have hss := stepC_sound (k := k) (ty := o.type) (pos := o.pos) (af := o.after) (gd := o.guard) hs hp hok hd hz
    refine .inl (Oper.wp_mono ?_ (hss e a w Q m))
    rintro a' w' ⟨e', m'⟩
    exact hK _ _ _ _ e' ⟨rfl, rfl⟩ ⟨_, _, m', appL_get m.ids hs⟩
  | call d f x caps xs ts R hw ho hdst hx hc hlow hok hd =>
    simp only [hwanted _ hw, if_true]
    rw [ofL_op] at hx
    have e1 : xs.map (ofL L H).op = opsL L xs := by rw [ofL_op, opsL_map]
    rw [e1] at hc hlow
    have hok' : opOkB x = true ∧ opsOk xs = true := by
      unfold opsOkB at hok
      rw [ho] at hok
      simp only [Op.operands, Call.operands, List.all_append, Array.toList_append, Bool.and_eq_true] at hok
      exact ⟨by simpa using hok.1, opsOk_all _ (by simpa using hok.2)⟩
    refine .inl ?_
    have hrx := m.op x (opOkB_spec hok'.1)
    rw [hx] at hrx
    obtain ⟨us, hu, hru⟩ := hrx
    obtain ⟨dst, op, ty, pos, af, gd⟩ := o
    simp only at ho hdst
    subst ho; subst hdst
    unfold Oper.wp
    rw [run_callV hc.1 a x us hu, Oper.upon_enter]
    refine (hc.use (τ := Γ.τ) (τok := Γ.τok) (Γ := Γ) m hlow _ (RelL.append _ _ _ _ (opsL_rel m xs hok'.2) hru)).mono ?_
    rintro en w' ⟨r, v, hR, rfl, hb, hlr, hrel⟩
    obtain ⟨e', m'⟩ := ((m.below hb).put (Nat.le_of_ble_eq_true hd) (Rel.keep (Nat.le_refl _) (fun _ _ _ => rfl) (fun _ _ hy => hy) _ _ hrel)).widen (κ + i)
    exact hK r .no _ _ e' ⟨hR, rfl⟩ ⟨_, _, m', (ofL_put L H (some d) r).symm⟩
end
end Go.Proofs.Ytapciiffpnociaa
