/- Several texts in one: TokN GxRst RstA GxRow GxLaw TokIn GxTie. Condition: none. -/
import Derived.Test.YtapciiffpnociabGreatDoorR16
import Derived.Test.YtapciiffpnociabGreatDoorR08
import Derived.Test.YtapciiffpnociabGreatDoorR15
import Derived.ProofKit
import Derived.SizedLaws
import Derived.Carry
import Derived.ChangeSame
import Derived.JoinedCond
import Derived.Deep.DeepWitnessRowRef
import Derived.LaidMore
import Derived.MakeChecks
import Derived.Lib.LaidTab
import Derived.Lib.ItoaNum
namespace Go.Proofs.YtapciiffpnociabGreatDoor
open Go Go.RowKit
attribute [local irreducible] DW DS DL DQ Ev FnOk FnP thenD inBlockD DT
def begunText:ByteArray:=⟨#[97,98,32,60,61,32,55,46,37,120]⟩
def begunToks:List Tok:=[⟨1,0,⟨#[97,98]⟩⟩,⟨4,3,⟨#[60,61]⟩⟩,⟨3,6,⟨#[55]⟩⟩,⟨4,7,⟨#[46]⟩⟩]
theorem begun_scan:scanS begunText=(begunToks,0,0):=by kernel_rfl
theorem begun_join:joinS begunToks=(⟨#[97,98,32,60,61,32,55,32,46]⟩,0):=by kernel_rfl
set_option maxHeartbeats 8000000 in
theorem begun_fn:Fn 16 [] (fun r=>r = .d (.bool true)):=by
 refine fnp_enter' _ Tryz.func16 rfl rfl (by kernel_rfl) ?_
 intro O w0 E0 β0
 have h1:=scan_fn begunText
 have h2:=tjoin_fn begunToks (by decide)
 rw [begun_scan] at h1
 rw [begun_join] at h2
 unfold encScan at h1
 unfold encJoin at h2
 unfold encToks begunToks at h1 h2
 unfold begunText at h1
 dsimp only at h1 h2
 repeat' (first|refine z0 ?_|apply ds_nil|apply dw_seq2|refine z16 ?_|apply dw_ret|apply thenD_n|refine z21 ?_ (hc:=by apply h1)|refine z21 ?_ (hc:=by apply h2)|fail)
 all_goals exact ret_b rfl (by decide)
end Go.Proofs.YtapciiffpnociabGreatDoor
namespace Go.Proofs.YtapciiffpnociabGreatDoor
open Go Go.RowKit
def SimV (v v':Value):Prop:=v' = v∨(∃ k n m,v = .int k n∧v' = .int k m∧(Lit.int k m).wf=true)∨(∃ s t,v = .string s∧v' = .string t∧t.size≤maxLen)
structure SimW (w w':World):Prop where
 size:w.heap.size≤w'.heap.size
 cell:∀ b o v,w.cell? ⟨b,o,none⟩=some v→(∃ v',w'.cell? ⟨b,o,none⟩=some v'∧SimV v v')∧w'.frozen? ⟨b,o,none⟩=w.frozen? ⟨b,o,none⟩
theorem ShpC.sim {X:Nat→Prop} {w w':World} (hw:SimW w w') {v:Value} {x:D} (h:ShpC X w v x):∀ v',SimV v v'→ShpC X w' v' x:=by
 induction h with
 | int h =>
  rintro v' (rfl|⟨_,_,_,h1,rfl,h3⟩|⟨_,_,h1,_⟩)
  ·exact .int h
  ·cases h1;exact .int h3
  ·cases h1
 | bool =>
  rintro v' (rfl|⟨_,_,_,h1,_⟩|⟨_,_,h1,_⟩)
  ·exact .bool
  ·cases h1
  ·cases h1
 | str h =>
  rintro v' (rfl|⟨_,_,_,h1,_⟩|⟨_,_,h1,rfl,h3⟩)
  ·exact .str h
  ·cases h1
  ·exact .str h3
 | nil =>
  rintro v' (rfl|⟨_,_,_,h1,_⟩|⟨_,_,h1,_⟩)
  ·exact .nil
  ·cases h1
  ·cases h1
 | zero =>
  rintro v' (rfl|⟨_,_,_,h1,_⟩|⟨_,_,h1,_⟩)
  ·exact .zero
  ·cases h1
  ·cases h1
 | slice c hn hc hm hX hb he hcell hrep hz ih =>
  rename_i b off n cap es xs
  rintro v' (rfl|⟨_,_,_,h1,_⟩|⟨_,_,h1,_⟩)
  ·refine .slice (fun i j=>(w'.cell? ⟨b,off + i * es + j,none⟩).getD undef) hn hc hm hX (Nat.lt_of_lt_of_le hb hw.size) he (fun i h j hj=>?_) (fun i h j hj=>?_) (fun i h j hj=>?_)
   ·obtain⟨⟨u,h1,h2⟩,h3⟩:=hw.cell _ _ _ (hcell i h j hj)
    rw [h1];rfl
   ·obtain⟨⟨u,h1,h2⟩,h3⟩:=hw.cell _ _ _ (hcell i h j hj)
    rw [h1];exact ih i h j hj u h2
   ·obtain⟨⟨u,h1,h2⟩,h3⟩:=hw.cell _ _ _ (hcell i h j hj)
    rw [h3];exact hz i h j hj
  ·cases h1
  ·cases h1
 | ptr c hX hb hcell hrep hz ih =>
  rename_i b off ds
  rintro v' (rfl|⟨_,_,_,h1,_⟩|⟨_,_,h1,_⟩)
  ·refine .ptr (fun j=>(w'.cell? ⟨b,off + j,none⟩).getD undef) hX (Nat.lt_of_lt_of_le hb hw.size) (fun j hj=>?_) (fun j hj=>?_) (fun j hj=>?_)
   ·obtain⟨⟨u,h1,h2⟩,h3⟩:=hw.cell _ _ _ (hcell j hj)
    rw [h1];rfl
   ·obtain⟨⟨u,h1,h2⟩,h3⟩:=hw.cell _ _ _ (hcell j hj)
    rw [h1];exact ih j hj u h2
   ·obtain⟨⟨u,h1,h2⟩,h3⟩:=hw.cell _ _ _ (hcell j hj)
    rw [h3];exact hz j hj
  ·cases h1
  ·cases h1
mutual
def SV.safe (B:Nat):SV→Prop
 | .d (.int _ _)=>True
 | .d (.bool _)=>True
 | .d (.str _)=>True
 | .d (.slice _ _)=>False
 | .d (.ptr _)=>False
 | .pd _=>False
 | .md _ _=>False
 | .rg B' 0 _=>B'≤B
 | .rg _ 2 _=>True
 | .rg _ _ _=>False
 | .fn _ caps=>SV.safeL B caps
 | .agg ss=>SV.safeL B ss
 | .tup ss=>SV.safeL B ss
 | .junk=>True
 | .nils=>True
 | .loc _ _=>True
 | .row _=>True
 | .mp _=>True
 | .prow _ _ _ _=>True
 | .sl _ _ _ _=>True
 | .rsl _ _ _ _=>True
 | .val _=>True
def SV.safeL (B:Nat):List SV→Prop
 | []=>True
 | s::ss=>SV.safe B s∧SV.safeL B ss
end
def Sl.safe (B:Nat):Sl→Prop
 | []=>True
 | (_,s)::r=>SV.safe B s∧Sl.safe B r
def Hp.safe (B:Nat):Hp→Prop
 | []=>True
 | (_,.blk _ cs)::r=>SV.safeL B cs∧Hp.safe B r
 | (_,.row _ _ _)::_=>False
 | (_,.map _ _)::_=>False
theorem Hp.safe_mem {B:Nat}:∀ {H:Hp},Hp.safe B H→∀ p∈H,∃ i ty cs,p=(i,.blk ty cs)∧SV.safeL B cs
 | [],_,_,hp=>nomatch hp
 | (i,.blk ty cs)::r,h,p,hp=>by
  rcases List.mem_cons.1 hp with rfl|hp
  ·exact⟨_,_,_,rfl,h.1⟩
  ·exact Hp.safe_mem h.2 p hp
 | (_,.row _ _ _)::_,h,_,_=>h.elim
 | (_,.map _ _)::_,h,_,_=>h.elim
theorem Sl.safe_get {B:Nat}:∀ {L:Sl},Sl.safe B L→∀ t,(L.get t).safe B
 | [],_,_=>trivial
 | (d,s)::r,h,t=>by
  rw [Sl.get_cons]
  split
  ·exact h.1
  ·exact Sl.safe_get h.2 t
section
variable {X : Nat → Prop} {e : Env} {w w' : World} {B : Nat}
mutual
theorem Rel.sim (hw:SimW w w') (hb:∀ b,b < B→w'.heap[b]? = w.heap[b]?):∀ (s:SV) (v:Value),s.safe B→Rel X e w s v→Rel X e w' s v
 | .junk,_,_,_=>trivial
 | .d (.int _ _),_,_,h=>by
  have h:RepC _ _ _ _:=h
  cases h with
  | int hq=>exact RepC.int hq
 | .d (.bool _),_,_,h=>by
  have h:RepC _ _ _ _:=h
  cases h
  exact RepC.bool
 | .d (.str _),_,_,h=>by
  have h:RepC _ _ _ _:=h
  cases h with
  | str hq=>exact RepC.str hq
 | .d (.slice _ _),_,hs,_=>hs.elim
 | .d (.ptr _),_,hs,_=>hs.elim
 | .nils,_,_,h=>h
 | .pd _,_,hs,_=>hs.elim
 | .loc _ _,_,_,h=>h
 | .row _,_,_,h=>h
 | .mp _,_,_,h=>h
 | .md _ _,_,hs,_=>hs.elim
 | .prow _ _ _ _,_,_,h=>h
 | .sl _ _ _ _,_,_,h=>h
 | .rsl _ _ _ _,_,_,h=>h
 | .rg B' 0 _,_,hs,h=>⟨Nat.le_trans h.1 hw.size,RepC.keep hw.size (fun b _ hx=>hb b (Nat.lt_of_lt_of_le (Nat.lt_of_not_le fun hy=>hx (.inr hy)) hs)) (fun _ _ hy=>hy) h.2⟩
 | .rg _ 1 _,_,hs,_=>hs.elim
 | .rg _ 2 _,v,_,h=>⟨Nat.le_trans h.1 hw.size,ShpC.sim hw h.2 v (.inl rfl)⟩
 | .rg _ (_ + 3) _,_,hs,_=>hs.elim
 | .fn _ caps,_,hs,⟨vs,h1,h2⟩=>⟨vs,h1,RelL.sim hw hb caps vs hs h2⟩
 | .agg ss,_,hs,⟨vs,h1,h2⟩=>⟨vs,h1,RelL.sim hw hb ss vs hs h2⟩
 | .tup ss,_,hs,⟨vs,h1,h2⟩=>⟨vs,h1,RelL.sim hw hb ss vs hs h2⟩
 | .val _,_,_,h=>h
theorem RelL.sim (hw:SimW w w') (hb:∀ b,b < B→w'.heap[b]? = w.heap[b]?):∀ (ss:List SV) (vs:List Value),SV.safeL B ss→RelL X e w ss vs→RelL X e w' ss vs
 | [],[],_,_=>trivial
 | [],_::_,_,h=>h.elim
 | _::_,[],_,h=>h.elim
 | s::ss,v::vs,hs,⟨h1,h2⟩=>⟨Rel.sim hw hb s v hs.1 h1,RelL.sim hw hb ss vs hs.2 h2⟩
end
end
theorem simW_set {w:World} {b o:Nat} {u v:Value} (hc:w.cell? ⟨b,o,none⟩=some v) (hv:SimV v u):∃ w',w.setCell ⟨b,o,none⟩ u=w'∧SimW w w'∧(∀ b',b'≠b→w'.heap[b']? = w.heap[b']?)∧(∃ c t p,w.heap[b]? = some (.cells c t p)) ∧
  w'.heap.size=w.heap.size∧w'.os=w.os∧w'.tape=w.tape∧w'.output=w.output∧w'.drawn=w.drawn:=by
 have hh:∃ c t p,w.heap[b]? = some (.cells c t p)∧c[o]? = some v:=by
  unfold World.cell? at hc
  split at hc
  ·rename_i c t p h
   exact⟨c,t,p,h,by simpa using hc⟩
  ·cases hc
 obtain⟨c,t,p,h1,h2⟩:=hh
 refine⟨_,rfl,?_⟩
 rw [setCell_eq_setRow w b o c t p u h1]
 have hn:(w.setRow b (c.setIfInBounds o u)).heap[b]? = some (.cells (c.setIfInBounds o u) t p):=setRow_heap w b c _ t p h1
 have ho:∀ b',b'≠b→(w.setRow b (c.setIfInBounds o u)).heap[b']? = w.heap[b']?:=fun b' h=>setRow_other w b b' _ h
 refine⟨⟨by simp [World.setRow],fun b' o' v' hv'=>?_⟩,ho,⟨c,t,p,h1⟩,by simp [World.setRow],rfl,rfl,rfl,rfl⟩
 by_cases hbb:b' = b
 ·subst hbb
  refine⟨?_,by simp only [World.frozen?,hn,h1]⟩
  have hv2:c[o']? = some v':=by
   simp only [World.cell?,h1] at hv'
   simpa using hv'
  simp only [World.cell?,hn]
  by_cases hoo:o=o'
  ·subst hoo
   rw [h2] at hv2
   cases hv2
   have hlt:o < c.size:=(Array.getElem?_eq_some_iff.1 h2).1
   exact⟨u,by simp [hlt],hv⟩
  ·exact⟨v',by simp [hoo,hv2],.inl rfl⟩
 ·exact⟨⟨v',(World.cell?_of_block (w:=w) (ho b' hbb)).trans hv',.inl rfl⟩,frozen_of_block (ho b' hbb)⟩
def likeD:D→D→Bool
 | .int k _,.int k' _=>sameK k k'
 | .str _,.str _=>true
 | _,_=>false
theorem likeD_sim {X Y:Nat→Prop} {w:World} {v u:Value} {x y:D} (h:likeD x y=true) (hx:ShpC X w v x) (hy:RepC Y w u y):SimV v u:=by
 unfold likeD at h
 split at h
 ·cases hx;cases hy with
  | int hw=>have:=sameK_spec h;subst this;exact .inr (.inl ⟨_,_,_,rfl,rfl,hw⟩)
 ·cases hx;cases hy with
  | str hw=>exact .inr (.inr ⟨_,_,rfl,rfl,hw⟩)
 ·cases h
theorem RgC.shp {X:Nat→Prop} {w:World} {B q:Nat} {v:Value} {x:D} (h:RgC X w B q v x):ShpC (lim X B q) w v x:=by
 have h2:=h.2
 split at h2
 ·exact h2
 ·exact RepC.shp h2
theorem cSV_rg (v:Value) (B q:Nat) (x:D):cSV v≠.rg B q x:=by unfold cSV;split <;> simp
section
variable {Γ : Ctx} {k : Nat → Prop} {L : Sl} {H : Hp} {K : Next'} {ops : List Oper} {rest : List Oper} {a : Act} {w : World} {e : Env} {t t' ty : TypeId} {x y : Operand}
theorem op_spoil {te ty:TypeId} {pos:String} {af:Array Edge} {g:Option (Nat × Bool)} {B:Nat} {d0 y0:D} {ds:List D} (hx:opSV L x = .rg B 2 (.ptr (d0::ds))) (hy:opSV L y = .d y0) (hyo:opOkB y=true) (hl:likeD d0 y0=true)
  (hkn:(Γ.sh te).known=true) (hn:Nat.beq 1 (Γ.cells te)=true) (hB:Γ.w0.heap.size≤B) (hs:Sl.safe B L) (hH:Hp.safe B H):OpOk Γ ⟨none,.store te x y,ty,pos,af,g⟩ k L H k L H:=by
 intro e a w Q m
 obtain⟨inf,z,hi,_,hsz,_⟩:=Ctx.info (Sh.known_ne hkn)
 have hp:RgC (Γ.X e H) w B 2 (a.eval x) (.ptr (d0::ds)):=by
  have:=evT m hx (cSV_rg · _ _ _)
  exact this
 have hp:=hp.shp
 have hr:RepC (Γ.X e H) w (a.eval y) y0:=by
  have:=m.op y (opOkB_spec hyo)
  rw [hy] at this
  exact this
 have hn':=Nat.eq_of_beq_eq_true hn
 generalize hv:a.eval x=v at hp
 cases hp with
 | ptr c hX hb hcell hrep hz =>
  rename_i b off
  have hc0:=hcell 0 (by simp)
  have hsim:=likeD_sim hl (hrep 0 (by simp)) hr
  have hz0:=hz 0 (by simp)
  rw [Nat.add_zero] at hc0 hz0
  obtain⟨w',hw',h1,h2,⟨c1,t1,p1,h3⟩,h4,h5,h6,h7,h8⟩:=simW_set hc0 hsim
  have hbB:B≤b:=Nat.le_of_not_lt fun h=>hX (.inr h)
  have hone:(a.eval y).oneCell' = true∧(a.eval y).cells = #[a.eval y]:=RepC.one hr
  have hrun:(execOp a.eval ⟨none,.store te x y,ty,pos,af,g⟩).run Γ.P w = .ok .skip w':=by
   have hst:(store (⟨b,off,none⟩:Addr) (a.eval y)).run Γ.P w = .ok () w':=by
    rw [run_store Γ.P w _ _ _ hone.1,hc0]
    simp [hz0,hw']
   have hadd:(⟨b,off,none⟩:Addr).add 0=⟨b,off,none⟩:=by rw [Addr.add_at,Nat.add_zero]
   simp only [execOp,Instr.storeAt,hv,Instr.sureAddr]
   simp [storeVar,run_sizeOf hi,hsz,← hn',hone.2,storeCells,hadd,hst]
  unfold Oper.wp
  rw [hrun]
  have hown:∀ c∈ownedL e H,c≠b:=fun c hc he=>hX (.inl (.inr (he▸hc)))
  have hheap:∀ p∈H,e.dom p.1∧HRel (Γ.X e H) e w' p:=by
   intro p hp
   obtain⟨hd,hpr⟩:=m.heap p hp
   refine⟨hd,?_⟩
   obtain⟨i,T,cs,rfl,hcs⟩:=Hp.safe_mem hH p hp
   obtain⟨vs,g1,g2,g3⟩:=hpr
   exact⟨vs,(h2 _ (hown _ (List.mem_filterMap.2 ⟨_,hp,rfl⟩))).trans g1,RelL.sim h1 (fun b' hb'=>h2 b' (by omega)) _ _ hcs g2,g3⟩
  refine⟨e,⟨⟨m.top,hheap,m.ids,m.nodup,m.mine,h5.trans m.os,h6.trans m.tape,h7.trans m.output,fun hd=>h8▸m.drawn hd,h4▸m.size,fun b' hb' hE=>(h2 b' (by omega)).trans (m.block b' hb' hE),m.obound,m.tabs,m.jle,m.anchor⟩,
   m.defers.keep fun r hr=>h2 r fun he=>?_,m.len,fun t=>Rel.sim h1 (fun b' hb'=>h2 b' (by omega)) _ _ (Sl.safe_get hs t) (m.slot t)⟩⟩
  subst he
  rw [hr] at h3
  cases h3
theorem ev_len_rg {B q es:Nat} {xs:List (List D)} (ht:Γ.sh t = .slice t') (hx:opSV L x = .rg B q (.slice es xs)):Ev Γ k L H (.call { callee:=.builtin .len,args:=#[x],argTypes:=#[t] }) ty (.d (.int .i64 xs.length)):=by
 intro e a w m
 have hp:RgC (Γ.X e H) w B q (a.eval x) (.slice es xs):=by
  have:=evT m hx (cSV_rg · _ _ _)
  exact this
 have hp:=hp.shp
 obtain⟨ao,cap,hv,h1,h2⟩:∃ ao cap,a.eval x = .slice ao xs.length cap∧xs.length≤cap∧cap≤maxLen:=by
  generalize a.eval x=v at hp
  cases hp with
  | nil=>exact⟨none,0,rfl,by simp,Nat.zero_le _⟩
  | zero=>exact⟨_,0,rfl,by simp,Nat.zero_le _⟩
  | slice c hn hc hm=>subst hn;exact⟨_,_,rfl,hc,hm⟩
 refine⟨.int .i64 xs.length,fun _ _ _ _ w' _=>?_,.int (WalkArith.wf_i64 (by unfold maxLen at h2;omega))⟩
 simp [execOp,resolve,invoke,builtin,hv,Builtin.len_,goInt,run_underlying (Ctx.slice ht)]
theorem ev_index_rg {B es:Nat} {xs:List (List D)} {n:Int} {j:Nat} (ht:Γ.sh t = .slice t') (hc:Γ.cells t' = es) (hkn:(Γ.sh t').known=true) (hx:opSV L x = .rg B 2 (.slice es xs)) (hy:opSV L y = .d (.int .i64 n))
  (hn:n=j) (h1:j < xs.length):Ev Γ k L H (.indexAddr t x y) ty (.rg B 2 (.ptr (xs[j]'h1))):=by
 subst hn
 intro e a w m
 have ho:=Sh.known_ne hkn
 have hp:=evT m hx (cSV_rg · _ _ _)
 obtain⟨hB,hp⟩:=hp
 generalize hv:a.eval x=v at hp
 have hp:ShpC (lim (Γ.X e H) B 2) w v (.slice es xs):=hp
 obtain⟨inf,z,hi,_,hs,_⟩:=Ctx.info ho
 cases hp with
 | nil=>simp at h1
 | zero=>simp at h1
 | slice c hn hcc hm hX hb he hcell hrep hz =>
  rename_i b off n' cap
  refine⟨.pointer (some ⟨b,off + j * es,none⟩),fun _ _ _ _ w' _=>?_,hB,.ptr (c j) hX hb (hcell j h1) (hrep j h1) (hz j h1)⟩
  have hlt:j < n':=by omega
  simp [execOp,Instr.indexAt,hv,evI m hy,asIntOf,run_underlying (Ctx.slice ht),hlt,run_sizeOf hi,hs,hc,Addr.add_at]
theorem ev_field_rg {s:TypeId} {f off fty sz B:Nat} {l} {ds:List D} (hs:Γ.sh s = .struct l) (hf:l[f]? = some (off,fty,sz)) (hz:Nat.beq sz 0=false)
  (hx:opSV L x = .rg B 2 (.ptr ds)):Ev Γ k L H (.fieldAddr s x f) ty (.rg B 2 (.ptr (ds.drop off))):=by
 obtain⟨fs,hu,hl⟩:=Ctx.struct hs
 subst hl
 rw [List.getElem?_map] at hf
 cases hff:fs.toList[f]? with
 | none=>rw [hff] at hf;cases hf
 | some fd =>
  rw [hff] at hf
  simp only [Option.map_some,Option.some.injEq,Prod.mk.injEq] at hf
  obtain⟨h1,h2,h3⟩:=hf
  have hfa:fs[f]? = some fd:=by rw [← Array.getElem?_toList];exact hff
  have hinf:∃ inf,Γ.P.info? fd.type=some inf∧inf.size≠0:=by
   cases hi:Γ.P.info? fd.type with
   | none=>rw [hi] at h3;exact absurd h3.symm (Nat.ne_of_beq_eq_false hz)
   | some inf=>rw [hi] at h3;exact⟨inf,rfl,fun h=>Nat.ne_of_beq_eq_false hz (by rw [← h3,← h];rfl)⟩
  obtain⟨inf,hi,hne⟩:=hinf
  intro e A w m
  have hp:=evT m hx (cSV_rg · _ _ _)
  obtain⟨hB,hp⟩:=hp
  generalize hv:A.eval x=v at hp
  have hp:ShpC (lim (Γ.X e H) B 2) w v (.ptr ds):=hp
  cases hp with
  | ptr c hX hb hcell hrep hz =>
   rename_i b o
   refine⟨.pointer (some ⟨b,o + off,none⟩),fun _ _ _ _ w' _=>?_,hB,.ptr (fun j=>c (off + j)) hX hb (fun j hj=>?_) (fun j hj=>?_) (fun j hj=>?_)⟩
   ·simp [execOp,Instr.fieldAt,hv,run_underlying hu,hfa,Instr.sureAddr,fieldPlace,run_sizeOf hi,hne,h1,Addr.add_at]
   ·have hj':off + j < ds.length:=by simp at hj;omega
    rw [Nat.add_assoc];exact hcell (off + j) hj'
   ·have hj':off + j < ds.length:=by simp at hj;omega
    simpa using hrep (off + j) hj'
   ·have hj':off + j < ds.length:=by simp at hj;omega
    rw [Nat.add_assoc];exact hz (off + j) hj'
theorem ev_load_rg {B:Nat} {d0:D} {ds:List D} (hkn:(Γ.sh t).known=true) (hg:(Γ.sh t).isAgg=false) (hx:opSV L x = .rg B 2 (.ptr (d0::ds))):Ev Γ k L H (.load t x) ty (.rg B 2 d0):=by
 intro e a w m
 have ho:=Sh.known_ne hkn
 have hp:=evT m hx (cSV_rg · _ _ _)
 obtain⟨hB,hp⟩:=hp
 generalize hv:a.eval x=v at hp
 have hp:ShpC (lim (Γ.X e H) B 2) w v (.ptr (d0::ds)):=hp
 cases hp with
 | ptr c hX hb hcell hrep hz =>
  have h1:=hcell 0 (by simp)
  rw [Nat.add_zero] at h1
  exact⟨c 0,fun _ _ _ _ w' hw=>run_load1 ho hg hv (cell_below hw h1) _ _ _ _,hB,hrep 0 (by simp)⟩
end
mutual
def SV.fresh (B:Nat):SV→SV
 | .d (.slice es xs)=>.rg B 1 (.slice es xs)
 | .d (.ptr ds)=>.rg B 1 (.ptr ds)
 | .agg ss=>.agg (SV.freshL B ss)
 | .tup ss=>.tup (SV.freshL B ss)
 | s=>s
def SV.freshL (B:Nat):List SV→List SV
 | []=>[]
 | s::ss=>SV.fresh B s::SV.freshL B ss
end
mutual
def SV.old (B:Nat):SV→SV
 | .d (.slice es xs)=>.rg B 0 (.slice es xs)
 | .d (.ptr ds)=>.rg B 0 (.ptr ds)
 | .agg ss=>.agg (SV.oldL B ss)
 | .tup ss=>.tup (SV.oldL B ss)
 | s=>s
def SV.oldL (B:Nat):List SV→List SV
 | []=>[]
 | s::ss=>SV.old B s::SV.oldL B ss
end
mutual
def SV.dull:SV→SV
 | .rg B 1 x=>.rg B 2 x
 | .agg ss=>.agg (SV.dullL ss)
 | .tup ss=>.tup (SV.dullL ss)
 | s=>s
def SV.dullL:List SV→List SV
 | []=>[]
 | s::ss=>SV.dull s::SV.dullL ss
end
section
variable {X Y : Nat → Prop} {e : Env} {w : World} {B : Nat}
mutual
theorem Rel.fresh (hB:B≤w.heap.size) (h1:∀ b,b < w.heap.size→X b→Y b) (h2:∀ b,b < B→Y b):∀ (s:SV) (v:Value),Rel Y e w s v→Rel X e w (s.fresh B) v
 | .d (.slice _ _),_,h=>⟨hB,RepC.anyX (fun b hb hy=>hy.elim (h1 b hb) (h2 b)) h⟩
 | .d (.ptr _),_,h=>⟨hB,RepC.anyX (fun b hb hy=>hy.elim (h1 b hb) (h2 b)) h⟩
 | .agg ss,_,⟨vs,g1,g2⟩=>⟨vs,g1,RelL.fresh hB h1 h2 ss vs g2⟩
 | .tup ss,_,⟨vs,g1,g2⟩=>⟨vs,g1,RelL.fresh hB h1 h2 ss vs g2⟩
 | .junk,_,h=>h
 | .d (.int _ _),_,h=>RepC.anyX h1 h
 | .d (.bool _),_,h=>RepC.anyX h1 h
 | .d (.str _),_,h=>RepC.anyX h1 h
 | .nils,_,h=>h
 | .pd ds,v,h=>Rel.keep (Nat.le_refl _) (fun _ _ _=>rfl) h1 (.pd ds) v h
 | .loc _ _,_,h=>h
 | .row _,_,h=>h
 | .mp _,_,h=>h
 | .md kd kvs,v,h=>Rel.keep (Nat.le_refl _) (fun _ _ _=>rfl) h1 (.md kd kvs) v h
 | .prow _ _ _ _,_,h=>h
 | .sl _ _ _ _,_,h=>h
 | .rsl _ _ _ _,_,h=>h
 | .rg b q x,v,h=>Rel.keep (Nat.le_refl _) (fun _ _ _=>rfl) h1 (.rg b q x) v h
 | .fn f caps,v,h=>Rel.keep (Nat.le_refl _) (fun _ _ _=>rfl) h1 (.fn f caps) v h
 | .val _,_,h=>h
theorem RelL.fresh (hB:B≤w.heap.size) (h1:∀ b,b < w.heap.size→X b→Y b) (h2:∀ b,b < B→Y b):∀ (ss:List SV) (vs:List Value),RelL Y e w ss vs→RelL X e w (SV.freshL B ss) vs
 | [],[],_=>trivial
 | [],_::_,h=>h.elim
 | _::_,[],h=>h.elim
 | s::ss,v::vs,h=>⟨Rel.fresh hB h1 h2 s v h.1,RelL.fresh hB h1 h2 ss vs h.2⟩
end
mutual
theorem Rel.old (hB:B=w.heap.size):∀ (s:SV) (v:Value),Rel X e w s v→Rel X e w (s.old B) v
 | .d (.slice _ _),_,h=>⟨Nat.le_of_eq hB,RepC.anyX (fun b hb hy=>hy.elim id fun (h3:B≤b)=>absurd hb (by omega)) h⟩
 | .d (.ptr _),_,h=>⟨Nat.le_of_eq hB,RepC.anyX (fun b hb hy=>hy.elim id fun (h3:B≤b)=>absurd hb (by omega)) h⟩
 | .agg ss,_,⟨vs,g1,g2⟩=>⟨vs,g1,RelL.old hB ss vs g2⟩
 | .tup ss,_,⟨vs,g1,g2⟩=>⟨vs,g1,RelL.old hB ss vs g2⟩
 | .junk,_,h=>h
 | .d (.int _ _),_,h=>h
 | .d (.bool _),_,h=>h
 | .d (.str _),_,h=>h
 | .nils,_,h=>h
 | .pd _,_,h=>h
 | .loc _ _,_,h=>h
 | .row _,_,h=>h
 | .mp _,_,h=>h
 | .md _ _,_,h=>h
 | .prow _ _ _ _,_,h=>h
 | .sl _ _ _ _,_,h=>h
 | .rsl _ _ _ _,_,h=>h
 | .rg _ _ _,_,h=>h
 | .fn _ _,_,h=>h
 | .val _,_,h=>h
theorem RelL.old (hB:B=w.heap.size):∀ (ss:List SV) (vs:List Value),RelL X e w ss vs→RelL X e w (SV.oldL B ss) vs
 | [],[],_=>trivial
 | [],_::_,h=>h.elim
 | _::_,[],h=>h.elim
 | s::ss,v::vs,h=>⟨Rel.old hB s v h.1,RelL.old hB ss vs h.2⟩
end
mutual
theorem Rel.dull:∀ (s:SV) (v:Value),Rel X e w s v→Rel X e w s.dull v
 | .rg _ 0 _,_,h=>h
 | .rg _ 1 _,_,h=>⟨h.1,RepC.shp h.2⟩
 | .rg _ (_ + 2) _,_,h=>h
 | .agg ss,_,⟨vs,g1,g2⟩=>⟨vs,g1,RelL.dull ss vs g2⟩
 | .tup ss,_,⟨vs,g1,g2⟩=>⟨vs,g1,RelL.dull ss vs g2⟩
 | .junk,_,h=>h
 | .d _,_,h=>h
 | .nils,_,h=>h
 | .pd _,_,h=>h
 | .loc _ _,_,h=>h
 | .row _,_,h=>h
 | .mp _,_,h=>h
 | .md _ _,_,h=>h
 | .prow _ _ _ _,_,h=>h
 | .sl _ _ _ _,_,h=>h
 | .rsl _ _ _ _,_,h=>h
 | .fn _ _,_,h=>h
 | .val _,_,h=>h
theorem RelL.dull:∀ (ss:List SV) (vs:List Value),RelL X e w ss vs→RelL X e w (SV.dullL ss) vs
 | [],[],_=>trivial
 | [],_::_,h=>h.elim
 | _::_,[],h=>h.elim
 | s::ss,v::vs,h=>⟨Rel.dull s v h.1,RelL.dull ss vs h.2⟩
end
end
def scalR:List SV→Bool
 | []=>true
 | .d (.int _ _)::r=>scalR r
 | .d (.bool _)::r=>scalR r
 | .d (.str _)::r=>scalR r
 | _=>false
theorem scalR_any {X Y:Nat→Prop} {e:Env} {w:World}:∀ (ss:List SV) (vs:List Value),scalR ss=true→RelL X e w ss vs→RelL Y e w ss vs
 | [],[],_,_=>trivial
 | [],_::_,_,h=>h.elim
 | _::_,[],_,h=>h.elim
 | .d (.int _ _)::r,v::vs,hs,h=>⟨by
   have h1:RepC _ _ _ _:=h.1
   cases h1 with|int hq=>exact RepC.int hq,scalR_any r vs hs h.2⟩
 | .d (.bool _)::r,v::vs,hs,h=>⟨by
   have h1:RepC _ _ _ _:=h.1
   cases h1
   exact RepC.bool,scalR_any r vs hs h.2⟩
 | .d (.str _)::r,v::vs,hs,h=>⟨by
   have h1:RepC _ _ _ _:=h.1
   cases h1 with|str hq=>exact RepC.str hq,scalR_any r vs hs h.2⟩
theorem FnP.ofWeak {dr:Bool} {P:Program} {τ:List (Nat × TI)} {τok:TabOk P τ} {f:FuncId} {args:List SV} {R:SV→Prop} (ss:List SV) (hc:FnP dr P τ τok f args R) (ha:SV.weakL ss=args):FnP dr P τ τok f ss R :=
 ⟨hc.1,fun O e w vs hH hr=>hc.2 O e w vs hH (ha▸RelL.weak _ _ hr)⟩
theorem FnP.useNew {dr:Bool} {Γ:Ctx} {τ:List (Nat × TI)} {τok:TabOk Γ.P τ} {f:FuncId} {args:List SV} {R:SV→Prop} (hc:FnP dr Γ.P τ τok f args R) {k:Nat→Prop} {L:Sl} {H:Hp} {e:Env} {w:World} {a:Act} (m:Models Γ k L H e a w) (hlow:SV.lowL 0 args=true) (hsc:scalR args=true)
  (vs:List Value) (hr:RelL (Γ.X e H) e w args vs) :
  Calls Γ.P f vs.toArray w (fun en w'=>∃ r v,R r∧en = .returned v∧Beld dr w.heap.size w w'∧r.low 0=true∧Rel (fun b=>b < w.heap.size) e w' r v):=by
 have hX:∀ e' b,Ctx.X ⟨Γ.P,τ,τok,fun b=>b < w.heap.size,w,fun b=>b∈ownedL (e.ren id 0) [],0,0,(e.ren id 0).an,none,noPan,true,dr⟩ e' [] b↔b < w.heap.size:=by
  intro e' b
  unfold Ctx.X
  simp [ownedL]
 refine (hc.2 (fun b=>b < w.heap.size) (e.ren id 0) w vs ⟨fun _=>Iff.rfl,by simp,by simp,by simp [ownedL],by simp [ownedL],rfl,rfl,rfl,fun _=>Nat.le_refl _,Nat.le_refl _,fun _ _ _=>rfl,fun b hb=>⟨hb,by simp [ownedL]⟩,m.tabsAt.sub (by simp [ownedL]),fun j hj=>absurd hj (Nat.not_lt_zero j),fun j hj=>absurd hj (Nat.not_lt_zero j)⟩ ?_).mono ?_
 ·exact scalR_any _ _ hsc (RelL.env _ _ hlow hr)
 ·rintro en w' ⟨k',r,H',e',v,⟨rfl,hlr,hR⟩,rfl,hH,hrel⟩
  refine⟨r,v,hR,rfl,⟨⟨hH.os,hH.tape,hH.output,hH.size,fun b hb=>hH.block b hb (by simp [ownedL])⟩,hH.drawn⟩,hlr,?_⟩
  exact Rel.keep (Nat.le_refl _) (fun _ _ _=>rfl) (fun b _ hy=>(hX _ b).2 hy) _ _ (Rel.env _ _ hlr hrel)
section
variable {Γ : Ctx} {k : Nat} {L : Sl} {H : Hp} {K : Next'} {Q : Post} {ops : List Oper} {rest : List Oper}
inductive HasB (B:Nat) (L:Sl) (H:Hp):Prop
 | slot (t q:Nat) (x:D) (h:L.get t = .rg B q x)
 | cell (i j q:Nat) (T:TypeId) (cs:List SV) (x:D) (h:Hp.get H i=some (.blk T cs)) (hj:cs[j]? = some (.rg B q x))
theorem HasB.le {k:Nat→Prop} {e:Env} {a:Act} {w:World} {B:Nat} (h:HasB B L H) (m:Models Γ k L H e a w):B≤w.heap.size:=by
 cases h with
 | slot t q x h =>
  have hs:=m.slot t
  rw [h] at hs
  exact hs.1
 | cell i j q T cs x h hj =>
  obtain⟨vs,g1,g2,g3⟩:=(m.heap _ (Hp.mem_of h)).2
  obtain⟨v,_,hv⟩:=RelL.get _ _ g2 j _ hj
  exact hv.1
theorem ds_callNew {f:FuncId} {xs:List Operand} {ts:Array TypeId} {ty:TypeId} {pos:String} {af:Array Edge} {g:Option (Nat × Bool)} {d:Nat} {args:List SV} {R:SV→Prop} {B:Nat} (hw:wantedSV ops L g=some true)
  (ha:opsL L xs=args) (hB:HasB B L H) (hc:FnP Γ.dr Γ.P Γ.τ Γ.τok f args R) (hok:opsOk xs=true) (hlow:SV.lowL 0 args=true) (hsc:scalR args=true) (hd:Nat.blt d Γ.n=true)
  (hk:∀ r,R r→DS false Γ ops rest K k ((d,r.fresh B)::L) H) :
  DS false Γ ops (⟨some d,.call { callee:=.value (.func f),args:=xs.toArray,argTypes:=ts },ty,pos,af,g⟩::rest) K k L H:=by
 refine dl_run hw fun e a w m=>?_
 unfold Oper.wp
 rw [run_callOp hc.1]
 rw [Oper.upon_enter]
 have hBw:B≤w.heap.size:=hB.le m
 have hXw:∀ b,Γ.X e H b→b < w.heap.size:=fun b hb=>hb.elim (fun h=>Nat.lt_of_lt_of_le (m.obound b h).1 m.size) (m.lt b)
 refine (hc.useNew (τ:=Γ.τ) (τok:=Γ.τok) (Γ:=Γ) m hlow hsc _ (ha▸opsL_rel m xs hok)).mono ?_
 rintro en w' ⟨r,v,hR,rfl,hb,hlr,hrel⟩
 exact⟨k,_,H,e,(m.below hb).put (Nat.le_of_ble_eq_true hd) (Rel.fresh (Nat.le_trans hBw hb.size) (fun b _=>hXw b) (fun b h=>Nat.lt_of_lt_of_le h hBw) _ _ hrel),hk r hR⟩
theorem ds_spoil {te ty:TypeId} {x y:Operand} {pos:String} {af:Array Edge} {g:Option (Nat × Bool)} {B:Nat} {d0 y0:D} {ds:List D} (hw:wantedSV ops L g=some true) (hx:opSV L x = .rg B 2 (.ptr (d0::ds))) (hy:opSV L y = .d y0) (hyo:opOkB y=true) (hl:likeD d0 y0=true)
  (hkn:(Γ.sh te).known=true) (hn:Nat.beq 1 (Γ.cells te)=true) (hB:Γ.w0.heap.size≤B) (hs:Sl.safe B L) (hH:Hp.safe B H) (hk:DS false Γ ops rest K k L H):DS false Γ ops (⟨none,.store te x y,ty,pos,af,g⟩::rest) K k L H :=
 dl_op hw (op_spoil hx hy hyo hl hkn hn hB hs hH) hk
theorem dw_turn {c:Code} {s:SV} (t:Nat) (g:SV→SV) (hg:∀ X e w s v,Rel X e w s v→Rel X e w (g s) v) (hL:L.get t=s) (h:DW Γ c Q k ((t,g s)::L) H):DW Γ c Q k L H:=fun e a w m =>
 h e a w ⟨m.toHeap,m.defers,m.len,fun t'=>by
  rw [Sl.get_cons]
  split
  ·rename_i ht
   subst ht
   have:=m.slot t
   rw [hL] at this
   exact hg _ _ _ _ _ this
  ·exact m.slot t'⟩
theorem dw_dull {c:Code} {s:SV} (t:Nat) (hL:L.get t=s) (h:DW Γ c Q k ((t,s.dull)::L) H):DW Γ c Q k L H:=dw_turn t SV.dull (fun _ _ _ s v=>Rel.dull s v) hL h
theorem dw_turnB {c:Code} {i:Nat} {T:TypeId} {cs:List SV} (g:List SV→List SV) (hg:∀ X e w ss vs,RelL X e w ss vs→RelL X e w (g ss) vs) (hL:Hp.get H i=some (.blk T cs)) (h:DW Γ c Q k L (Hp.set H i (.blk T (g cs)))):DW Γ c Q k L H:=fun e a w m=>by
 refine h e a w (m.turn (b':=.blk T (g cs)) hL (Nat.le_refl _) rfl rfl rfl (fun _=>Nat.le_refl _) (fun _ _ _=>rfl) rfl ?_)
 obtain⟨vs,g1,g2,g3⟩:=(m.heap _ (Hp.mem_of hL)).2
 exact⟨vs,g1,hg _ _ _ _ _ g2,g3⟩
theorem dw_dullB {c:Code} {T:TypeId} {cs:List SV} (i:Nat) (hL:Hp.get H i=some (.blk T cs)) (h:DW Γ c Q k L (Hp.set H i (.blk T (SV.dullL cs)))):DW Γ c Q k L H:=dw_turnB SV.dullL (fun _ _ _ ss vs=>RelL.dull ss vs) hL h
theorem dw_weakB {c:Code} {T:TypeId} {cs:List SV} (i:Nat) (hL:Hp.get H i=some (.blk T cs)) (h:DW Γ c Q k L (Hp.set H i (.blk T (SV.weakL cs)))):DW Γ c Q k L H:=dw_turnB SV.weakL (fun _ _ _ ss vs=>RelL.weak ss vs) hL h
theorem dw_markB {c:Code} {T:TypeId} {cs:List SV} (i:Nat) (hL:Hp.get H i=some (.blk T cs)) (h:∀ B,Γ.w0.heap.size≤B→DW Γ c Q k L (Hp.set H i (.blk T (SV.oldL B cs)))):DW Γ c Q k L H:=fun e a w m=>by
 refine h w.heap.size m.size e a w (m.turn (b':=.blk T (SV.oldL w.heap.size cs)) hL (Nat.le_refl _) rfl rfl rfl (fun _=>Nat.le_refl _) (fun _ _ _=>rfl) rfl ?_)
 obtain⟨vs,g1,g2,g3⟩:=(m.heap _ (Hp.mem_of hL)).2
 exact⟨vs,g1,RelL.old rfl _ _ g2,g3⟩
end
section
variable {Γ : Ctx} {q : Bool} {k : Nat} {L : Sl} {H : Hp} {K : Next'} {Q : Post} {ops : List Oper} {rest : List Oper} {t t' ty : TypeId} {pos : String} {af : Array Edge} {g : Option (Nat × Bool)} {d : Nat} {B p es : Nat} {x y : Operand}
theorem ev_index_rgm {α:Type} {f:α→List D} {l:List α} {n:Int} {j:Nat} (ht:Γ.sh t = .slice t') (hc:Γ.cells t' = es) (hkn:(Γ.sh t').known=true) (hx:opSV L x = .rg B 2 (.slice es (l.map f))) (hy:opSV L y = .d (.int .i64 n))
  (hn:n=j) (h1:j < l.length):Ev Γ k L H (.indexAddr t x y) ty (.rg B 2 (.ptr (f (l[j]'h1)))):=by
 have:=ev_index_rg (Γ:=Γ) (k:=k) (H:=H) (ty:=ty) ht hc hkn hx hy hn (by simpa using h1)
 simpa using this
theorem dsr_len {xs:List (List D)} (hk:DS q Γ ops rest K k ((d,.d (.int .i64 xs.length))::L) H) (ht:Γ.sh t = .slice t':=by exact rfl) (hx:opSV L x = .rg B p (.slice es xs):=by exact rfl) (hw:wantedSV ops L g=some true:=by exact rfl) (hd:Nat.blt d Γ.n=true:=by exact rfl) :
  DS q Γ ops (⟨some d,.call { callee:=.builtin .len,args:=#[x],argTypes:=#[t] },ty,pos,af,g⟩::rest) K k L H:=ds_ev (ev_len_rg ht hx) hw hd hk
theorem dsr_index {α:Type} {f:α→List D} {l:List α} {n:Int} {j:Nat} {h1:j < l.length} (hk:DS q Γ ops rest K k ((d,.rg B 2 (.ptr (f (l[j]'h1))))::L) H) (ht:Γ.sh t = .slice t':=by exact rfl) (hc:Γ.cells t' = es:=by exact rfl) (hkn:(Γ.sh t').known=true:=by exact rfl)
  (hx:opSV L x = .rg B 2 (.slice es (l.map f)):=by exact rfl) (hy:opSV L y = .d (.int .i64 n):=by exact rfl) (hn:n=j:=by exact rfl) (hw:wantedSV ops L g=some true:=by exact rfl) (hd:Nat.blt d Γ.n=true:=by exact rfl) :
  DS q Γ ops (⟨some d,.indexAddr t x y,ty,pos,af,g⟩::rest) K k L H:=ds_ev (ev_index_rgm ht hc hkn hx hy hn h1) hw hd hk
theorem dsr_field {s:TypeId} {f off fty sz:Nat} {l} {ds:List D} (hk:DS q Γ ops rest K k ((d,.rg B 2 (.ptr (ds.drop off)))::L) H) (hs:Γ.sh s = .struct l:=by exact rfl) (hf:l[f]? = some (off,fty,sz):=by exact rfl) (hz:Nat.beq sz 0=false:=by exact rfl)
  (hx:opSV L x = .rg B 2 (.ptr ds):=by exact rfl) (hw:wantedSV ops L g=some true:=by exact rfl) (hd:Nat.blt d Γ.n=true:=by exact rfl):DS q Γ ops (⟨some d,.fieldAddr s x f,ty,pos,af,g⟩::rest) K k L H:=ds_ev (ev_field_rg hs hf hz hx) hw hd hk
theorem dsr_load {d0:D} {ds:List D} (hk:DS q Γ ops rest K k ((d,.rg B 2 d0)::L) H) (hkn:(Γ.sh t).known=true:=by exact rfl) (hg:(Γ.sh t).isAgg=false:=by exact rfl) (hx:opSV L x = .rg B 2 (.ptr (d0::ds)):=by exact rfl) (hw:wantedSV ops L g=some true:=by exact rfl) (hd:Nat.blt d Γ.n=true:=by exact rfl) :
  DS q Γ ops (⟨some d,.load t x,ty,pos,af,g⟩::rest) K k L H:=ds_ev (ev_load_rg hkn hg hx) hw hd hk
theorem dsr_spoil {te:TypeId} {d0 y0:D} {ds:List D} (hk:DS false Γ ops rest K k L H) (hB:Γ.w0.heap.size≤B:=by assumption) (hw:wantedSV ops L g=some true:=by exact rfl) (hx:opSV L x = .rg B 2 (.ptr (d0::ds)):=by exact rfl) (hy:opSV L y = .d y0:=by exact rfl) (hyo:opOkB y=true:=by exact rfl) (hl:likeD d0 y0=true:=by exact rfl)
  (hkn:(Γ.sh te).known=true:=by exact rfl) (hn:Nat.beq 1 (Γ.cells te)=true:=by exact rfl) (hs:Sl.safe B L:=by (repeat' (first|exact trivial|exact Nat.le_refl _|refine⟨?_,?_⟩))) (hH:Hp.safe B H:=by (repeat' (first|exact trivial|exact Nat.le_refl _|refine⟨?_,?_⟩))) :
  DS false Γ ops (⟨none,.store te x y,ty,pos,af,g⟩::rest) K k L H:=ds_spoil hw hx hy hyo hl hkn hn hB hs hH hk
end
def Lens (xs:List (List D)):Prop:=xs.length≤9223372036854775807∧∀ r∈xs,∀ d∈r,∀ es ys,d = .slice es ys→ys.length≤9223372036854775807
theorem ShpC.len1 {X:Nat→Prop} {w:World} {v:Value} {es:Nat} {xs:List (List D)} (h:ShpC X w v (.slice es xs)):xs.length≤9223372036854775807:=by
 cases h with
 | nil=>simp
 | zero=>simp
 | slice c hn hc hm=>unfold maxLen at hm;omega
theorem ShpC.lens {X:Nat→Prop} {w:World} {v:Value} {es:Nat} {xs:List (List D)} (h:ShpC X w v (.slice es xs)):Lens xs:=by
 refine⟨h.len1,?_⟩
 rintro r hr d hd es' ys rfl
 cases h with
 | nil=>cases hr
 | zero=>cases hr
 | slice c hn hc hm hX hb he hcell hrep hz =>
  obtain⟨i,hi,rfl⟩:=List.getElem_of_mem hr
  obtain⟨j,hj,hq⟩:=List.getElem_of_mem hd
  have:=hrep i hi j hj
  rw [hq] at this
  exact this.len1
section
variable {Γ : Ctx} {k : Nat} {L : Sl} {H : Hp} {Q : Post} {B q es : Nat} {xs : List (List D)}
theorem dw_lens {c:Code} (t:Nat) (hL:L.get t = .rg B q (.slice es xs)) (hk:Lens xs→DW Γ c Q k L H):DW Γ c Q k L H:=fun e a w m=>by
 have hs:=m.slot t
 rw [hL] at hs
 have hs:RgC _ _ _ _ _ _:=hs
 exact hk hs.shp.lens e a w m
theorem dw_lensB {c:Code} {T:TypeId} (i:Nat) (hL:Hp.get H i=some (.blk T [.rg B q (.slice es xs)])) (hk:Lens xs→DW Γ c Q k L H):DW Γ c Q k L H:=fun e a w m=>by
 obtain⟨vs,g1,g2,g3⟩:=(m.heap _ (Hp.mem_of hL)).2
 obtain⟨v,_,hv⟩:=RelL.get _ _ g2 0 _ rfl
 have hv:RgC _ _ _ _ _ _:=hv
 exact hk hv.shp.lens e a w m
end
attribute [local irreducible] DW DS DL DQ Ev FnOk FnP thenD inBlockD DT
theorem parse_okR {s:ByteArray} (h:(parseS s).2.2=0):checkT (parseS s).1=0:=by
 unfold parseS at h ⊢
 obtain⟨⟨l,p,er⟩,hq⟩:∃ q,q=scanS s:=⟨_,rfl⟩
 rw [← hq] at h ⊢
 dsimp only at h ⊢
 by_cases he:er=0
 ·rw [if_neg (fun h=>h he)] at h ⊢
  cases hr:rulesGo l s.size (l.length + 1) 0 [] with
  | error j=>rw [hr] at h;cases h
  | ok rs =>
   rw [hr] at h
   dsimp only at h ⊢
   by_cases hc:checkT rs=0
   ·rw [if_pos hc];exact hc
   ·rw [if_neg hc] at h;exact absurd h hc
 ·rw [if_pos he] at h;exact absurd h he
theorem parse_noR {s:ByteArray} (h:(parseS s).2.2≠0):(parseS s).1=[]:=by
 unfold parseS at h ⊢
 obtain⟨⟨l,p,er⟩,hq⟩:∃ q,q=scanS s:=⟨_,rfl⟩
 rw [← hq] at h ⊢
 dsimp only at h ⊢
 by_cases he:er=0
 ·rw [if_neg (fun h=>h he)] at h ⊢
  cases hr:rulesGo l s.size (l.length + 1) 0 [] with
  | error j=>rfl
  | ok rs =>
   rw [hr] at h
   dsimp only at h ⊢
   by_cases hc:checkT rs=0
   ·rw [if_pos hc] at h;exact absurd rfl h
   ·rw [if_neg hc]
 ·rw [if_pos he]
set_option maxHeartbeats 8000000 in
theorem restTexts_fn (s:ByteArray):Fn 7 [.d (.str s)] (fun r=>r = .d (.bool true)):=by
 refine fnp_enter' _ Tryz.func7 rfl rfl (by kernel_rfl) ?_
 intro O w0 E0 β0
 have h0:=begun_fn
 have h1:=treeBegun_fn
 have h2:=showBegun_fn
 have p4:=tparse_fn s
 have p5:=parseOf_fn s
 have sc:=scan_fn s
 have hok:=parse_okR (s:=s)
 have hno:=parse_noR (s:=s)
 obtain⟨⟨ws,at2,e2⟩,hp⟩:∃ q,q=parseS s:=⟨_,rfl⟩
 rw [← hp] at p4 p5 hok hno
 obtain⟨⟨ls,sa,se⟩,hs⟩:∃ q,q=scanS s:=⟨_,rfl⟩
 rw [← hs] at sc
 dsimp only at hok hno
 unfold encParse treeV at p4 p5
 unfold encScan at sc
 dsimp only at p4 p5 sc
 clear hp hs
 obtain⟨S,w8,w10⟩:∃ S,(Fn 8 [.agg [.d (.slice 5 (ws.map encTRu))]] fun r=>r = .tup [.d (.str S),.d (.int .i64 0)])∧(Fn 10 [.agg [.d (.slice 5 (ws.map encTRu))]] fun r=>r = .d (.str S)):=by
  by_cases he:e2=0
  ·obtain⟨c1,c2,c3⟩:=check_show (hok he)
   refine⟨showS ws,?_,treeText_fn ws c1 c2 c3⟩
   cases ws with
   | nil=>exact sshow_nil
   | cons r l=>exact sshow_fn _ (by simp) (hok he) c1 c2
  ·rw [hno he]
   exact⟨showS [],sshow_nil,treeText_fn [] (Nat.zero_le _) (fun _ h=>nomatch h) (fun _ h=>nomatch h)⟩
 have w15:=sameTree_fn ws ws true
 rw [sameL_refl (sameTRu_self true)] at w15
 clear hok hno
 repeat' (first|(apply ds_slD;exact rfl;exact rfl;exact rfl;exact rfl;exact rfl;exact rfl;(refine⟨?_,?_,?_⟩ <;> (simp only [List.length_map];omega));((with_reducible apply hv_take);(first|exact nat_add_2 _|exact nat_sub_1 _));exact rfl;exact rfl)|refine z0 ?_|apply ds_nil|apply dw_seq2|refine z16 ?_|apply dw_block|apply dw_skip|refine z19 ?_|apply thenD_n|refine z21 ?_ (hc:=by apply h0)|refine z21 ?_ (hc:=by apply h1)|refine z21 ?_ (hc:=by apply h2)|refine z21 ?_ (hc:=by apply p5)|refine z1 ?_|refine z3 ?_|fail)
 refine ds_loop (ι:=Nat) (fun i=>⟨1,[(0,.d (.str s)),(5,.d (.int .i64 e2)),(3,.loc 0 0),(6,.d (.int .i64 (i:Int)))],[(0,.blk 24 [.d (.slice 5 (ws.map encTRu))])]⟩)
  (fun i=>i≤2) (fun i=>2 - i) 0 (Nat.zero_le _) (ent_ren id ⟨rfl,rfl,rfl,rfl,trivial⟩ ⟨rfl,trivial⟩ rfl rfl rfl rfl rfl rfl) ?_
 intro i hi
 dsimp only
 repeat' (first|refine z0 ?_|apply ds_nil|apply dw_seq2|refine z16 ?_|apply thenD_n)
 refine dw_condP rfl (fun hlt=>?_) (fun hge=>?_)
 rotate_left
 ·repeat' (first|refine z0 ?_|apply ds_nil|apply dw_seq2|refine z16 ?_|apply dw_exit|apply dw_ret|apply thenD_n|apply thenD_e|refine z17 ?_|fail)
  exact ret_b rfl rfl
 refine dw_markB 0 rfl fun B hB=>?_
 have hB:w0.heap.size≤B:=hB
 refine dw_ent (k':=1) (L':=[(0,.d (.str s)),(5,.d (.int .i64 e2)),(3,.loc 0 0),(6,.d (.int .i64 (i:Int)))]) (H':=[(0,.blk 24 [.rg B 0 (.slice 5 (ws.map encTRu))])]) (ent_ren id ⟨rfl,rfl,rfl,rfl,trivial⟩ ⟨rfl,trivial⟩ rfl rfl rfl rfl rfl rfl) ?_
 repeat' (first|refine z0 ?_|apply dw_seq2|refine z16 ?_|apply dw_block|apply dw_skip|apply thenD_n)
 refine ds_callNew (B:=B) rfl rfl (.cell 0 0 0 _ _ _ rfl rfl) sc rfl rfl rfl rfl ?_
 rintro _ rfl
 dsimp only [encToks,SV.fresh,SV.freshL]
 repeat' (first|refine z0 ?_|apply ds_nil|apply dw_seq2|refine z16 ?_|apply thenD_n)
 refine ds_callNew (B:=B) rfl rfl (.cell 0 0 0 _ _ _ rfl rfl) p4 rfl rfl rfl rfl ?_
 rintro _ rfl
 dsimp only [SV.fresh,SV.freshL]
 have v15:Fn 15 [.agg [.rg B 1 (.slice 5 (ws.map encTRu))],.agg [.rg B 0 (.slice 5 (ws.map encTRu))],.d (.bool true)] (fun o=>o = .d (.bool true)):=w15.ofWeak _ rfl
 have v8:Fn 8 [.agg [.rg B 1 (.slice 5 (ws.map encTRu))]] (fun r=>r = .tup [.d (.str S),.d (.int .i64 0)]):=w8.ofWeak _ rfl
 have v10:Fn 10 [.agg [.rg B 0 (.slice 5 (ws.map encTRu))]] (fun r=>r = .d (.str S)):=w10.ofWeak _ rfl
 repeat' (first|refine z0 ?_|refine z12 ?_|apply ds_nil|apply dw_seq2|refine z16 ?_|apply dw_block|apply dw_skip|apply dw_ret|refine z18 ?_|refine z19 ?_|apply thenD_n|apply thenD_r|apply inB_r|refine z21 ?_ (hc:=by apply v15)|refine z21 ?_ (hc:=by apply v8)|refine z21 ?_ (hc:=by apply v10)|refine z1 ?_|refine z3 ?_|(refine z23 ?_ ?_ <;> intro hg)|((fail_if_success (apply ds_known;exact rfl));apply ds_guardP;exact rfl;exact rfl;exact rfl;all_goals intro hg))
 all_goals try (exfalso;exact absurd rfl (by assumption))
 all_goals
  refine dw_lens 7 rfl fun lens1=>?_
  refine dw_lensB 1 rfl fun lens2=>?_
  have len1:ls.length≤9223372036854775807:=by simpa using lens1.1
  have len2:ws.length≤9223372036854775807:=by simpa using lens2.1
  refine dw_dull 7 rfl ?_
  refine dw_dullB 1 rfl ?_
  refine ds_loop (ι:=Nat) (fun n=>⟨2,[(0,.d (.str s)),(5,.d (.int .i64 e2)),(3,.loc 0 0),(6,.d (.int .i64 (i:Int))),(10,.loc 1 0),(7,.rg B 2 (.slice 3 (ls.map encTok))),(14,.d (.int .i64 (n:Int)))],[(0,.blk 24 [.rg B 0 (.slice 5 (ws.map encTRu))]),(1,.blk 24 [.rg B 2 (.slice 5 (ws.map encTRu))])]⟩)
   (fun n=>n≤ls.length) (fun n=>ls.length - n) 0 (Nat.zero_le _) (ent_ren id ⟨rfl,rfl,rfl,rfl,rfl,rfl,rfl,trivial⟩ ⟨rfl,rfl,trivial⟩ rfl rfl rfl rfl rfl rfl) ?_
  intro n hn
  dsimp only
  repeat' (first|(first|refine z0 ?_|apply ds_nil|apply dw_seq2|refine z16 ?_|apply thenD_n)|refine dsr_len ?_)
  refine dw_condP rfl (fun hl=>?_) (fun hl=>?_)
  ·have hj:n < ls.length:=by simpa using hl
   repeat' (first|(first|refine z0 ?_|apply ds_nil|apply dw_seq2|refine z16 ?_|apply dw_block|apply dw_skip|apply thenD_n|apply inB_n)|refine dsr_index (h1:=hj) ?_|refine dsr_field ?_|refine dsr_spoil ?_)
   exact⟨n + 1,hj,(ent_ren id ⟨rfl,rfl,rfl,rfl,rfl,rfl,rfl,trivial⟩ ⟨rfl,rfl,trivial⟩ rfl rfl rfl rfl rfl rfl),by omega⟩
  repeat' (first|refine z0 ?_|apply ds_nil|apply dw_seq2|refine z16 ?_|apply dw_block|apply dw_exit|apply thenD_n|apply thenD_e|refine z17 ?_|fail)
  refine ds_loop (ι:=Nat) (fun j=>⟨2,[(0,.d (.str s)),(5,.d (.int .i64 e2)),(3,.loc 0 0),(6,.d (.int .i64 (i:Int))),(10,.loc 1 0),(15,.d (.int .i64 (j:Int)))],[(0,.blk 24 [.rg B 0 (.slice 5 (ws.map encTRu))]),(1,.blk 24 [.rg B 2 (.slice 5 (ws.map encTRu))])]⟩)
   (fun j=>j≤ws.length) (fun j=>ws.length - j) 0 (Nat.zero_le _) (ent_ren id ⟨rfl,rfl,rfl,rfl,rfl,rfl,trivial⟩ ⟨rfl,rfl,trivial⟩ rfl rfl rfl rfl rfl rfl) ?_
  intro j hjl
  dsimp only
  repeat' (first|(first|refine z0 ?_|apply ds_nil|apply dw_seq2|refine z16 ?_|apply thenD_n)|refine dsr_len ?_)
  refine dw_condP rfl (fun hl=>?_) (fun hl=>?_)
  ·have hj:j < ws.length:=by simpa using hl
   have mem:encTRu ws[j]∈ws.map encTRu:=List.mem_map.2 ⟨_,List.getElem_mem hj,rfl⟩
   have len3:(ws[j]).terms.length≤9223372036854775807:=by
    have:=lens2.2 _ mem (.slice 2 ((ws[j]).terms.map encTTm)) (by simp [encTRu]) 2 _ rfl
    simpa using this
   have len4:(ws[j]).body.length≤9223372036854775807:=by
    have:=lens2.2 _ mem (.slice 5 ((ws[j]).body.map encTLt)) (by simp [encTRu]) 5 _ rfl
    simpa using this
   repeat' (first|(first|refine z0 ?_|apply ds_nil|apply dw_seq2|refine z16 ?_|apply dw_block|apply dw_skip|apply thenD_n)|refine dsr_index (h1:=hj) ?_|refine dsr_field ?_|refine dsr_spoil ?_)
   refine ds_loop (ι:=Nat) (fun m=>⟨2,[(0,.d (.str s)),(5,.d (.int .i64 e2)),(3,.loc 0 0),(6,.d (.int .i64 (i:Int))),(10,.loc 1 0),(15,.d (.int .i64 (j:Int))),(16,.d (.int .i64 (m:Int)))],[(0,.blk 24 [.rg B 0 (.slice 5 (ws.map encTRu))]),(1,.blk 24 [.rg B 2 (.slice 5 (ws.map encTRu))])]⟩)
    (fun m=>m≤(ws[j]).terms.length) (fun m=>(ws[j]).terms.length - m) 0 (Nat.zero_le _) (ent_ren id ⟨rfl,rfl,rfl,rfl,rfl,rfl,rfl,trivial⟩ ⟨rfl,rfl,trivial⟩ rfl rfl rfl rfl rfl rfl) ?_
   intro m hml
   dsimp only
   repeat' (first|(first|refine z0 ?_|apply ds_nil|apply dw_seq2|refine z16 ?_|apply thenD_n)|refine dsr_len ?_|refine dsr_index (h1:=hj) ?_|refine dsr_field ?_|refine dsr_load ?_)
   refine dw_condP rfl (fun hk=>?_) (fun hk=>?_)
   ·have hm:m < (ws[j]).terms.length:=by simpa using hk
    repeat' (first|(first|refine z0 ?_|apply ds_nil|apply dw_seq2|refine z16 ?_|apply dw_block|apply dw_skip|apply thenD_n|apply inB_n)|refine dsr_index (h1:=hj) ?_|refine dsr_index (h1:=hm) ?_|refine dsr_field ?_|refine dsr_load ?_|refine dsr_spoil ?_)
    exact⟨m + 1,hm,(ent_ren id ⟨rfl,rfl,rfl,rfl,rfl,rfl,rfl,trivial⟩ ⟨rfl,rfl,trivial⟩ rfl rfl rfl rfl rfl rfl),by omega⟩
   repeat' (first|refine z0 ?_|apply ds_nil|apply dw_seq2|refine z16 ?_|apply dw_block|apply dw_exit|apply thenD_n|apply thenD_e|refine z17 ?_|fail)
   refine ds_loop (ι:=Nat) (fun m=>⟨2,[(0,.d (.str s)),(5,.d (.int .i64 e2)),(3,.loc 0 0),(6,.d (.int .i64 (i:Int))),(10,.loc 1 0),(15,.d (.int .i64 (j:Int))),(17,.d (.int .i64 (m:Int)))],[(0,.blk 24 [.rg B 0 (.slice 5 (ws.map encTRu))]),(1,.blk 24 [.rg B 2 (.slice 5 (ws.map encTRu))])]⟩)
    (fun m=>m≤(ws[j]).body.length) (fun m=>(ws[j]).body.length - m) 0 (Nat.zero_le _) (ent_ren id ⟨rfl,rfl,rfl,rfl,rfl,rfl,rfl,trivial⟩ ⟨rfl,rfl,trivial⟩ rfl rfl rfl rfl rfl rfl) ?_
   intro m hml
   dsimp only
   repeat' (first|(first|refine z0 ?_|apply ds_nil|apply dw_seq2|refine z16 ?_|apply thenD_n)|refine dsr_len ?_|refine dsr_index (h1:=hj) ?_|refine dsr_field ?_|refine dsr_load ?_)
   refine dw_condP rfl (fun hk=>?_) (fun hk=>?_)
   ·have hm:m < (ws[j]).body.length:=by simpa using hk
    repeat' (first|(first|refine z0 ?_|apply ds_nil|apply dw_seq2|refine z16 ?_|apply dw_block|apply dw_skip|apply thenD_n|apply inB_n)|refine dsr_index (h1:=hj) ?_|refine dsr_index (h1:=hm) ?_|refine dsr_field ?_|refine dsr_load ?_|refine dsr_spoil ?_)
    exact⟨m + 1,hm,(ent_ren id ⟨rfl,rfl,rfl,rfl,rfl,rfl,rfl,trivial⟩ ⟨rfl,rfl,trivial⟩ rfl rfl rfl rfl rfl rfl),by omega⟩
   repeat' (first|refine z0 ?_|apply ds_nil|refine z16 ?_|apply dw_exit|apply thenD_n|apply thenD_e|apply inB_n|refine z17 ?_|fail)
   exact⟨j + 1,hj,(ent_ren id ⟨rfl,rfl,rfl,rfl,rfl,rfl,trivial⟩ ⟨rfl,rfl,trivial⟩ rfl rfl rfl rfl rfl rfl),by omega⟩
  refine dw_weakB 0 rfl ?_
  repeat' (first|refine z0 ?_|apply ds_nil|refine z16 ?_|apply dw_exit|apply thenD_n|apply thenD_e|apply inB_n|refine z17 ?_|fail)
  exact⟨i + 1,by omega,ent_ren id ⟨rfl,rfl,rfl,rfl,trivial⟩ ⟨rfl,trivial⟩ rfl rfl rfl rfl rfl rfl,by omega⟩
end Go.Proofs.YtapciiffpnociabGreatDoor
namespace Go.Proofs.YtapciiffpnociabGreatDoor
open Go Go.RowKit
inductive RT where
 | bool
 | int (k:IntKind)
 | str
 | slice (cells bytes:Nat) (e:RT)
 | struct (fs:List RT)
mutual
def RT.size:RT→Nat
 | .struct fs=>RT.sizeL fs
 | .bool=>1
 | .int _=>1
 | .str=>1
 | .slice _ _ _=>1
def RT.sizeL:List RT→Nat
 | []=>0
 | r::rs=>r.size + RT.sizeL rs
end
mutual
def rtB (P:Program):RT→TypeId→Bool
 | .bool,t=>match P.underlying t with|some .bool=>true|_=>false
 | .int k,t=>match P.underlying t with|some (.int k')=>sameK k k'|_=>false
 | .str,t=>match P.underlying t with|some .string=>true|_=>false
 | .slice _ _ _,_=>false
 | .struct fs,t=>match P.underlying t with
  | some (.struct fl)=>rtL P fs fl.toList 0 && Nat.beq (P.cellsOf t) (RT.sizeL fs)
  | _=>false
def rtL (P:Program):List RT→List Field→Nat→Bool
 | [],[],_=>true
 | r::rs,f::fl,o=>Nat.beq f.offset o && (Nat.beq (P.cellsOf f.type) r.size && (rtB P r f.type && rtL P rs fl (o + r.size)))
 | _,_,_=>false
end
mutual
def TyDR (R:Nat):RT→List D→Prop
 | .bool,xs=>∃ b,xs=[.bool b]
 | .int k,xs=>∃ n,(Lit.int k n).wf=true∧xs=[.int k n]
 | .str,xs=>∃ s:ByteArray,s.size≤R∧xs=[.str s]
 | .slice c b e,xs=>∃ l:List (List D),l.length * b≤R∧l.length≤maxLen∧xs=[.slice c l]∧∀ x∈l,TyDR R e x
 | .struct fs,xs=>TyFR R fs xs
def TyFR (R:Nat):List RT→List D→Prop
 | [],xs=>xs=[]
 | r::rs,xs=>∃ a b,xs=a++b∧TyDR R r a∧TyFR R rs b
end
section
variable {H : Type} {enc : TypeId × Value → H} {P : Program} {w : World} {R : Nat}
def RepL (w:World) (cs:List Value) (xs:List D):Prop:=cs.length=xs.length∧∀ (j:Nat) (u:Value),cs[j]? = some u→∃ x,xs[j]? = some x∧RepC (fun _=>False) w u x
theorem RepL.append {cs cs':List Value} {xs xs':List D} (h:RepL w cs xs) (h':RepL w cs' xs'):RepL w (cs++cs') (xs++xs'):=by
 obtain⟨h1,h2⟩:=h
 obtain⟨g1,g2⟩:=h'
 refine⟨by simp [h1,g1],fun j u hj=>?_⟩
 by_cases hlt:j < cs.length
 ·rw [List.getElem?_append_left hlt] at hj
  obtain⟨x,e1,e2⟩:=h2 j u hj
  exact⟨x,by rw [List.getElem?_append_left (by omega)];exact e1,e2⟩
 ·rw [List.getElem?_append_right (by omega)] at hj
  obtain⟨x,e1,e2⟩:=g2 _ u hj
  exact⟨x,by rw [List.getElem?_append_right (by omega),← h1];exact e1,e2⟩
mutual
theorem open_rt:∀ (r:RT) (t:TypeId) (fuel:Nat) (cs:List Value) (x:DataW H × List MemPlace),rtB P r t=true→DataW.trod enc P w 0 (fun _=>true) true fuel t cs=some x→(∀ n∈x.1.weights P t,n≤R) →
  ∃ xs,TyDR R r xs∧RepL w cs xs
 | .bool,t,fuel,cs,x,hb,h,_=>by
  have ht:P.underlying t=some .bool:=by
   unfold rtB at hb;split at hb <;> first|assumption|cases hb
  obtain⟨b,rfl,rfl⟩:=DataW.trod_bool ht h
  refine⟨[.bool b],⟨b,rfl⟩,rfl,fun j u hj=>?_⟩
  cases j with
  | zero=>simp at hj;subst hj;exact⟨_,rfl,.bool⟩
  | succ j=>simp at hj
 | .int k,t,fuel,cs,x,hb,h,_=>by
  have ht:P.underlying t=some (.int k):=by
   unfold rtB at hb
   split at hb
   ·rename_i k' hk;rw [hk,sameK_spec hb]
   ·cases hb
  obtain⟨n,rfl,rfl,hw⟩:=DataW.trod_int ht h
  refine⟨[.int k n],⟨n,hw,rfl⟩,rfl,fun j u hj=>?_⟩
  cases j with
  | zero=>simp at hj;subst hj;exact⟨_,rfl,.int hw⟩
  | succ j=>simp at hj
 | .str,t,fuel,cs,x,hb,h,hw=>by
  have ht:P.underlying t=some .string:=by
   unfold rtB at hb;split at hb <;> first|assumption|cases hb
  obtain⟨s,rfl,rfl,hs⟩:=DataW.trod_string ht h
  have hr:s.size≤R:=by
   have:=hw s.data.toList.length (by simp [DataW.weights])
   simpa using this
  refine⟨[.str s],⟨s,hr,rfl⟩,rfl,fun j u hj=>?_⟩
  cases j with
  | zero=>simp at hj;subst hj;exact⟨_,rfl,.str hs⟩
  | succ j=>simp at hj
 | .slice c b e,t,fuel,cs,x,hb,h,hw=>by
  simp [rtB] at hb
 | .struct fs,t,fuel,cs,x,hb,h,hw=>by
  obtain⟨fl,ht,hf,hc⟩:∃ fl,P.underlying t=some (.struct fl)∧rtL P fs fl.toList 0=true∧P.cellsOf t=RT.sizeL fs:=by
   unfold rtB at hb
   split at hb
   ·rename_i fl ht
    simp only [Bool.and_eq_true] at hb
    exact⟨fl,ht,hb.1,Nat.eq_of_beq_eq_true hb.2⟩
   ·cases hb
  obtain⟨xs,n,_,rfl,hcl,hxl,hx⟩:=DataW.trod_struct ht h
  obtain⟨ys,y1,y2⟩:=open_rts fs fl.toList 0 n cs xs hf (fun i f hi=>hx i f (by simpa using hi)) (by simpa using hxl) (by rw [hcl,hc];omega) (fun k hk=>hw k (by
   simp only [DataW.weights,ht];exact hk))
  exact⟨ys,y1,by simpa using y2⟩
theorem open_rts:∀ (rs:List RT) (fl:List Field) (o n:Nat) (cs:List Value) (xs:List (DataW H × List MemPlace)),rtL P rs fl o=true →
  (∀ (i:Nat) (f:Field),fl[i]? = some f→DataW.trod enc P w 0 (fun _=>true) true n f.type ((cs.drop f.offset).take (P.cellsOf f.type))=xs[i]?)→xs.length=fl.length→cs.length=o + RT.sizeL rs →
  (∀ k∈DataW.weightsEach P (fl.map (·.type)) (xs.map (·.1)),k≤R)→∃ ys,TyFR R rs ys∧RepL w (cs.drop o) ys
 | [],fl,o,n,cs,xs,hb,_,_,hl,_=>by
  refine⟨[],rfl,?_,fun j u hj=>?_⟩
  ·simp [RT.sizeL] at hl ⊢;omega
  ·rw [List.drop_eq_nil_of_le (by simp [RT.sizeL] at hl;omega)] at hj;simp at hj
 | r::rs,[],o,n,cs,xs,hb,_,_,_,_=>by simp [rtL] at hb
 | r::rs,f::fl,o,n,cs,xs,hb,hx,hxl,hl,hw=>by
  simp only [rtL,Bool.and_eq_true] at hb
  obtain⟨b1,b2,b3,b4⟩:=hb
  have b1:=Nat.eq_of_beq_eq_true b1
  have b2:=Nat.eq_of_beq_eq_true b2
  cases xs with
  | nil=>simp at hxl
  | cons y ys =>
   have h0:=hx 0 f rfl
   simp only [List.getElem?_cons_zero] at h0
   rw [b1,b2] at h0
   simp only [RT.sizeL] at hl
   obtain⟨az,a1,a2⟩:=open_rt r f.type n _ y b3 h0 fun k hk=>hw k (by
    simp only [List.map_cons,DataW.weightsEach,List.mem_append]
    exact .inl hk)
   obtain⟨bs,c1,c2⟩:=open_rts rs fl (o + r.size) n cs ys b4 (fun i g hi=>by simpa using hx (i + 1) g (by simpa using hi)) (by simpa using hxl) (by omega) (fun k hk=>hw k (by
    simp only [List.map_cons,DataW.weightsEach,List.mem_append]
    exact .inr hk))
   refine⟨az++bs,⟨az,bs,rfl,a1,c1⟩,?_⟩
   have:=a2.append c2
   have hd:(cs.drop o).take r.size++cs.drop (o + r.size)=cs.drop o:=by
    rw [← List.drop_drop]
    exact List.take_append_drop _ _
   rw [hd] at this
   exact this
end
end
end Go.Proofs.YtapciiffpnociabGreatDoor
namespace Go.Proofs.YtapciiffpnociabGreatDoor
open Go Go.RowKit Go.ChangeShapes Go.WideShapes
def RT.arg:RT→List D→SV
 | .struct _,xs=>.agg (xs.map .d)
 | _,[x]=>.d x
 | _,_=>.junk
def ArgsDR (R:Nat):List RT→List SV→Prop
 | [],az=>az=[]
 | r::rs,az=>∃ xs l,az=r.arg xs::l∧TyDR R r xs∧ArgsDR R rs l
def rtsB (P:Program):List RT→List TypeId→Bool
 | [],[]=>true
 | r::rs,t::ts=>rtB P r t && rtsB P rs ts
 | _,_=>false
section
variable {H : Type} {enc : TypeId × Value → H} {P : Program} {R : Nat}
theorem repL_agg {W:World} {e:Env}:∀ (cs:List Value) (xs:List D),RepL W cs xs→RelL (fun _=>False) e W (xs.map .d) cs
 | [],[],_=>trivial
 | [],_::_,h=>by have:=h.1;simp at this
 | _::_,[],h=>by have:=h.1;simp at this
 | c::cs,x::xs,h=>by
  obtain⟨h1,h2⟩:=h
  refine⟨?_,repL_agg cs xs ⟨by simpa using h1,fun j u hj=>by simpa using h2 (j + 1) u (by simpa using hj)⟩⟩
  obtain⟨y,hy,hr⟩:=h2 0 c rfl
  simp at hy
  subst hy
  exact hr
theorem repL_one {W:World} {e:Env} {v:Value} {x:D} (h:RepL W [v] [x]):Rel (fun _=>False) e W (.d x) v:=by
 obtain⟨y,hy,hr⟩:=h.2 0 v rfl
 simp at hy
 subst hy
 exact hr
theorem rtB_bool {t:TypeId} (h:rtB P .bool t=true):P.underlying t=some .bool:=by
 unfold rtB at h;split at h <;> first|assumption|cases h
theorem rtB_str {t:TypeId} (h:rtB P .str t=true):P.underlying t=some .string:=by
 unfold rtB at h;split at h <;> first|assumption|cases h
theorem rtB_int {t:TypeId} {k:IntKind} (h:rtB P (.int k) t=true):P.underlying t=some (.int k):=by
 unfold rtB at h
 split at h
 ·rename_i k' hk;rw [hk,sameK_spec h]
 ·cases h
theorem rtB_slice {t:TypeId} {c b:Nat} {e:RT} (h:rtB P (.slice c b e) t=true):∃ te,P.underlying t=some (.slice te):=by
 simp [rtB] at h
theorem rtB_struct {t:TypeId} {fs:List RT} (h:rtB P (.struct fs) t=true):∃ fl,P.underlying t=some (.struct fl):=by
 unfold rtB at h
 split at h
 ·rename_i te ht;exact⟨te,ht⟩
 ·cases h
theorem arg_open {W:World} {e:Env} {base:Nat}:∀ (r:RT) (t:TypeId) (v:Value) (d:DataW H) (ps:List MemPlace),rtB P r t=true→DataW.Trod enc P W 0 (fun _=>true) true t v d ps→Value.okWide P W .any base t v →
  (∀ n∈d.weights P t,n≤R)→∃ xs,TyDR R r xs∧Rel (fun _=>False) e W (r.arg xs) v:=by
 intro r t v d ps hb ⟨fuel,hd⟩ hok hw
 obtain⟨xs,h1,h2⟩:=open_rt r t fuel v.cells.toList (d,ps) hb hd hw
 refine⟨xs,h1,?_⟩
 cases r with
 | bool =>
  obtain⟨b,rfl⟩:=okWide_bool (rtB_bool hb) hok
  obtain⟨b',rfl⟩:=h1
  exact repL_one h2
 | int k =>
  obtain⟨b,rfl⟩:=okWide_int (rtB_int hb) hok
  obtain⟨b',_,rfl⟩:=h1
  exact repL_one h2
 | str =>
  obtain⟨b,rfl⟩:=okWide_string (rtB_str hb) hok
  obtain⟨b',_,rfl⟩:=h1
  exact repL_one h2
 | slice c b el =>
  obtain⟨te,ht⟩:=rtB_slice hb
  obtain⟨a,n,cap,rfl⟩:=okWide_slice ht hok
  obtain⟨l,_,_,rfl,_⟩:=h1
  exact repL_one h2
 | struct fs =>
  obtain⟨fl,ht⟩:=rtB_struct hb
  obtain⟨cs,rfl,_⟩:=okWide_struct ht hok
  exact⟨cs.toList,by simp,repL_agg _ _ h2⟩
theorem args_open {W:World} {e:Env} {base:Nat}:∀ (rs:List RT) (ts:List TypeId) (vs:List Value) (ds:List (DataW H)) (ps:List MemPlace),rtsB P rs ts=true→DataW.TrodAll enc P W 0 (fun _=>true) true ts vs ds ps →
  (∀ (j:Nat) t v,ts[j]? = some t→vs[j]? = some v→Value.okWide P W .any base t v)→(∀ n∈DataW.weightsEach P ts ds,n≤R)→∃ az,ArgsDR R rs az∧RelL (fun _=>False) e W az vs
 | [],[],vs,ds,ps,_,h,_,_=>by
  obtain⟨rfl,rfl,rfl⟩:=trodAll_nil h
  exact⟨[],rfl,trivial⟩
 | [],_::_,_,_,_,hb,_,_,_=>by simp [rtsB] at hb
 | _::_,[],_,_,_,hb,_,_,_=>by simp [rtsB] at hb
 | r::rs,t::ts,vs,ds,ps,hb,h,hok,hw=>by
  obtain⟨v,vs',d,ds',p,q,rfl,rfl,rfl,h1,h2⟩:=trodAll_cons h
  simp only [rtsB,Bool.and_eq_true] at hb
  simp only [DataW.weightsEach,List.mem_append] at hw
  obtain⟨xs,g1,g2⟩:=arg_open (e:=e) r t v d p hb.1 h1 (hok 0 t v rfl rfl) fun n hn=>hw n (.inl hn)
  obtain⟨az,g3,g4⟩:=args_open (e:=e) rs ts vs' ds' q hb.2 h2 (fun j t v ht hv=>hok (j + 1) t v (by simpa using ht) (by simpa using hv)) fun n hn=>hw n (.inr hn)
  exact⟨r.arg xs::az,⟨xs,az,rfl,g1,g3⟩,g2,g4⟩
def readB (P:Program) (ts:List TypeId):Bool:=ts.all fun t=>P.readableRec t && Nat.blt t P.types.size
theorem args_again {W W':World} {spare:Nat→Bool} (hl:laidOutB P=true) (hb:Below W.heap.size W W'):∀ (ts:List TypeId) (vs:List Value) (ds:List (DataW H)) (ps:List MemPlace),readB P ts=true →
  DataW.TrodAll enc P W 0 (fun _=>true) true ts vs ds ps→(∀ p∈ps,p.block < W.heap.size)→(∀ p∈ps,spare p.block=true)→DataW.TrodAll enc P W' 0 spare true ts vs ds ps
 | [],vs,ds,ps,_,h,_,_=>by
  obtain⟨rfl,rfl,rfl⟩:=trodAll_nil h
  rfl
 | t::ts,vs,ds,ps,hr,h,hlt,hsp=>by
  obtain⟨v,vs',d,ds',p,q,rfl,rfl,rfl,h1,h2⟩:=trodAll_cons h
  simp only [readB,List.all_cons,Bool.and_eq_true] at hr
  refine⟨p,q,?_,args_again hl hb ts vs' ds' q (by simpa [readB] using hr.2) h2 (fun x hx=>hlt x (List.mem_append_right _ hx)) (fun x hx=>hsp x (List.mem_append_right _ hx)),rfl⟩
  exact WideElems.Trod_stays hl hr.1.1 (Nat.le_of_ble_eq_true hr.1.2) h1 (fun x hx=>hb.same (hlt x (List.mem_append_left _ hx))) fun x hx=>hsp x (List.mem_append_left _ hx)
theorem law_post {f:Func} {s:ChangeSpec} {apart fresh handsOn:Bool} {W W':World} {args:Array Value} {ds gs:List (DataW H)} {before:List MemPlace} {tb:TypeId}
  (hv:s.vars=[]) (hW:DataW.Whole enc P f.params.toList s.vars apart W args.toList ds gs before) (hfn:gs=[]→s.fn H (ds++gs) = { results:=[.lit (.bool true)],args:=ds })
  (hres:f.resultTypes = #[tb]) (htb:P.underlying tb=some .bool) (hl:laidOutB P=true) (hr:readB P f.params.toList=true) (hb:Below W.heap.size W W') :
  s.post enc P f apart fresh handsOn false W args (.bool true) W':=by
 have hW0:=hW
 have hlt:=fun p hp=>hW.lt p hp
 obtain⟨p,q,hA,hV,rfl,hfz,hnd⟩:=hW
 rw [hv] at hV
 obtain⟨rfl,rfl⟩:=trodVars_none hV
 have hfn:=hfn rfl
 refine⟨ds,[],p++[],[],p,[],hW0,?_,?_,?_,hb.frame _,fun h=>by cases h⟩
 ·rw [hres,hfn]
  exact trodAll_mk1 (shut_bool htb true)
 ·rw [hfn]
  exact args_again hl hb _ _ _ _ hr hA (fun x hx=>hlt x (List.mem_append_left _ hx)) fun x hx=>by simpa using hlt x (List.mem_append_left _ hx)
 ·rw [hv,hfn]
  rfl
theorem ctxX_nil {τ τok} {e:Env} {W:World} {n J β0}:∀ b,Ctx.X ⟨P,τ,τok,fun _=>False,W,fun b=>b∈ownedL e [],n,J,β0,none,noPan,true,false⟩ e [] b→False:=by
 rintro b (h|h)
 ·exact h
 ·simp [ownedL] at h
def TabW (P:Program) (W:World):Prop:=Tabs P (fun _=>False) W
theorem TabW.none {P : Program} {W : World} (h : P.globalNamed "internal/strconv.uint64pow10" = none) : TabW P W := fun g hg => by rw [h] at hg; cases hg
theorem law_calls {τ:List (Nat × TI)} {τok:TabOk P τ} {f:FuncId} {rs:List RT} {ts:List TypeId} {args:Array Value} {ds:List (DataW H)} {ps:List MemPlace} {W:World} {base:Nat}
  (hc:∀ az,ArgsDR R rs az→FnP false P τ τok f az (fun r=>r = .d (.bool true))) (hb:rtsB P rs ts=true) (hA:DataW.TrodAll enc P W 0 (fun _=>true) true ts args.toList ds ps)
  (hok:∀ (j:Nat) t v,ts[j]? = some t→args.toList[j]? = some v→Value.okWide P W .any base t v) (hw:∀ n∈DataW.weightsEach P ts ds,n≤R) (hT:TabW P W) :
  Calls P f args W fun en W'=>en = .returned (.bool true)∧Below W.heap.size W W':=by
 let e:Env:=⟨fun _=>0,fun _=>undef,lo 0⟩
 obtain⟨az,h1,h2⟩:=args_open (e:=e) rs ts args.toList ds ps hb hA hok hw
 have hk:=(hc az h1).2 (fun _=>False) e W args.toList ?_ ?_
 ·rw [Array.toArray_toList] at hk
  refine Calls.mono hk ?_
  rintro en W' ⟨k',r,H',e',v,⟨rfl,_,rfl⟩,rfl,hH,hr⟩
  have hr':RepC _ W' v (.bool true):=hr
  cases hr'
  exact⟨rfl,⟨hH.os,hH.tape,hH.output,hH.size,fun b hb=>hH.block b hb (by simp [ownedL])⟩⟩
 ·exact { top:=fun _=>Iff.rfl,heap:=(fun p hp=>nomatch hp),ids:=.nil,nodup:=.nil,mine:=(fun b hb=>nomatch hb),os:=rfl,tape:=rfl,output:=rfl,drawn:=(fun _=>Nat.le_refl _),size:=Nat.le_refl _,block:=(fun _ _ _=>rfl),obound:=(fun _ h=>h.elim),tabs:=hT.sub (by simp [ownedL]),jle:=(fun _ h=>nomatch h),anchor:=(fun _ h=>nomatch h) }
 ·exact RelL.keep (Nat.le_refl _) (fun _ _ _=>rfl) (fun b _ hy=>ctxX_nil b hy) _ _ h2
end
open Go Go.RowKit
end Go.Proofs.YtapciiffpnociabGreatDoor
namespace Go.Proofs.YtapciiffpnociabGreatDoor
open Go Go.RowKit Go.ChangeShapes Go.WideShapes
section
variable {H : Type} {enc : TypeId × Value → H} {R : Nat}
theorem law_lifted_row {C:Checked} {τ:List (Nat × TI)} {τok:TabOk C.prog τ} {os:Os} (started:os.Started) {f:FuncId} {fn:Func} {s:OpenSpec} {F:Stop.Interp} {conds:List PathCond} {apart fresh handsOn:Bool} {laid:List (String × DataW Unit)} {rs:List RT} {tb:TypeId}
  (own:ownKnob C.prog.godebug=none) (noInit:C.prog.inits.idxOf? f=none) (hfn:C.prog.funcs[f]? = some fn)
  (witness:∃ (w:World) (tape:Tape) (i:Input),w.os=os∧(w.forCall tape i).Shaped C.prog∧i.vars=[]∧Input.okWide C.prog (w.forCall tape i) .any w.heap.size f i ∧
   s.preRow enc C.prog fn conds apart laid (w.forCall tape i).memory i.args∧({}:Assume).holds C.prog (lone (Frame.enter C.prog f i.args .normal) [] (w.forCall tape i)))
  (hv:s.vars=[]) (hva:(s.at F).vars=[]) (hvt:s.bare.plain.varTypes C.prog=[]) (hs:∀ (ds:List (DataW H)),ds.length=fn.params.toList.length→(s.at F).fn H ds = { results:=[.lit (.bool true)],args:=ds })
  (hres:fn.resultTypes = #[tb]) (htb:C.prog.underlying tb=some .bool) (hl:laidOutB C.prog=true) (hr:readB C.prog fn.params.toList=true) (hb:rtsB C.prog rs fn.params.toList=true)
  (hkR:∀ ds:List (DataW H),(∀ k,s.cond=some k→k H ds=true)→(∀ n∈DataW.weightsEach C.prog fn.params.toList ds,n≤reachBytes)→∀ n∈DataW.weightsEach C.prog fn.params.toList ds,n≤R)
  (hc:∀ az,ArgsDR R rs az→FnP false C.prog τ τok f az (fun r=>r = .d (.bool true))) (hT:∀ W,laidMetH C.prog laid W→TabW C.prog W) :
  ReturnsInHanded {} C os f .any (s.preRow enc C.prog fn conds apart laid) ((s.at F).post enc C.prog fn apart fresh handsOn false):=by
 refine returnsInHanded_of_row own started noInit hfn witness ?_
 intro W base args ds gs before hval hW _ hkk hwt hld _ _
 obtain⟨p,q,hA,hV,hpq,hfz,hnd⟩:=id hW
 rw [hv] at hV
 obtain⟨rfl,rfl⟩:=trodVars_none hV
 rw [hvt,List.append_nil,List.append_nil] at hwt
 simp only [List.append_nil] at hkk
 have hlen:∀ (ts:List TypeId) (vs:List Value) (ds:List (DataW H)) (ps:List MemPlace),DataW.TrodAll enc C.prog W 0 (fun _=>true) true ts vs ds ps→ds.length=ts.length:=by
  intro ts
  induction ts with
  | nil=>intro vs ds ps h;obtain⟨rfl,rfl,rfl⟩:=trodAll_nil h;rfl
  | cons t ts ih =>
   intro vs ds ps h
   obtain⟨v,vs',d,ds',p,q,rfl,rfl,rfl,h1,h2⟩:=trodAll_cons h
   simp [ih _ _ _ h2]
 refine (law_calls hc hb hA (fun j t v ht hv=>hval j t v (by simpa using ht) (by simpa using hv)) (hkR ds hkk fun n hn=>by simpa using List.all_eq_true.1 hwt n hn) (hT W hld)).mono ?_
 rintro en W' ⟨rfl,hbl⟩
 rw [hv] at hW
 exact⟨_,rfl,law_post hva (by rw [hva];exact hW) (fun _=>by rw [List.append_nil];exact hs ds (hlen _ _ _ _ hA)) hres htb hl hr hbl⟩
theorem laid_tail {P:Program} {x:String × DataW Unit} {rest:List (String × DataW Unit)} {W:World} (h:laidMet P (x::rest) W):laidMet P rest W:=by
 obtain⟨ps,⟨g,t,cs,fuel,p,q,_,_,_,_,hr,rfl⟩,hn,hf⟩:=h
 exact⟨q,hr,(List.nodup_append.1 hn).2.1,fun b off hb=>hf b off (List.mem_append_right _ hb)⟩
theorem tabW_of {P : Program} {W : World} (h : Lib.TabIs P W "internal/strconv.uint64pow10" .u64 Lib.pow10Tab) : TabW P W := fun g hg => by
 unfold Lib.TabIs World.var? at h
 rw [hg] at h
 simp only [Option.bind_some] at h
 refine⟨fun h=>h,?_⟩
 split at h
 ·rename_i cs a b hh
  have hcs:cs=_:=Option.some.inj h
  refine⟨a,b,?_⟩
  rw [hh,hcs]
  rfl
 ·cases h
end
end Go.Proofs.YtapciiffpnociabGreatDoor
