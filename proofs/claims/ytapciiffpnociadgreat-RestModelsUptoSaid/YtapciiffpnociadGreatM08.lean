/- Several texts in one: GxRst GxTail GxSpl. Condition: none. -/
import Derived.Test.YtapciiffpnociadGreatM07
set_option linter.all false
open Bool renaming and_eq_true→Ad,false_or→Cb,or_eq_true→Du
open Classical renaming byContradiction→A1
open List renaming all_eq_true→Bg,append_assoc→Bt,append_of_mem→Gv,cons_append→Cd,eq_nil_of_length_eq_zero→Bm,getElem_of_mem→Eg,length_append→Ap,length_cons→Bn,length_take→Au,mem_append_left→A0,mem_cons_self→Ae,pairwise_append→Ec
open Nat renaming add_assoc→Ek,add_zero→G2,beq→Aw,ble→B6,blt→As,le_of_ble_eq_true→Ac,le_refl→Af,le_trans→Ar,lt_of_lt_of_le→Aq,ne_of_beq_eq_false→Bj,zero_add→Da,zero_le→Ai
namespace Go.Proofs.YtapciiffpnociadGreat
section
open Go Go.RowKit
variable [Bnds]
def SimV (v v':Value):Prop:=v'=v∨(∃ k n m,v = .int k n/\v' = .int k m/\(Lit.int k m).wf=true)∨(∃ s t,v = .string s/\v' = .string t/\t.size<=maxLen)
structure SimW (w w':World):Prop where
 size:w.heap.size<=w'.heap.size
 cell:∀ b o v,w.cell? ⟨b,o,none⟩=some v->(∃ v',w'.cell? ⟨b,o,none⟩=some v'/\SimV v v')/\w'.frozen? ⟨b,o,none⟩=w.frozen? ⟨b,o,none⟩
theorem ShpC.sim {X:Nat->Prop} {w w':World} (hw:SimW w w') {v:Value} {x:D} (h:ShpC X w v x):∀ v',SimV v v'->ShpC X w' v' x:=by
 induction h with
 | int h =>
  rintro v' (rfl|⟨_,_,_,h1,rfl,h3⟩|⟨_,_,h1,_⟩)
  ·exact .int h
  ·cases h1;exact .int h3
  ·cases h1
 | bool =>
  rintro v' (rfl|⟨_,_,_,h1,_⟩|⟨_,_,h1,_⟩)
  ·exact .bool
  ·cases h1
  ·cases h1
 | str h =>
  rintro v' (rfl|⟨_,_,_,h1,_⟩|⟨_,_,h1,rfl,h3⟩)
  ·exact .str h
  ·cases h1
  ·exact .str h3
 | nil =>
  rintro v' (rfl|⟨_,_,_,h1,_⟩|⟨_,_,h1,_⟩)
  ·exact .nil
  ·cases h1
  ·cases h1
 | zero =>
  rintro v' (rfl|⟨_,_,_,h1,_⟩|⟨_,_,h1,_⟩)
  ·exact .zero
  ·cases h1
  ·cases h1
 | slice c hn hc hm hX hb he hcell hrep hz ih =>
  rename_i b off n cap es xs;rintro v' (rfl|⟨_,_,_,h1,_⟩|⟨_,_,h1,_⟩)
  ·refine .slice (λi j=>(w'.cell? ⟨b,off+i*es+j,none⟩).getD undef) hn hc hm hX (Aq hb hw.size) he (λi h j hj=>?_) (λi h j hj=>?_) (λhF i h j hj=>?_)
   ·obtain⟨⟨u,h1,h2⟩,h3⟩:=hw.cell _ _ _ (hcell i h j hj);rw [h1];rfl
   ·obtain⟨⟨u,h1,h2⟩,h3⟩:=hw.cell _ _ _ (hcell i h j hj);rw [h1];exact ih i h j hj u h2
   ·obtain⟨⟨u,h1,h2⟩,h3⟩:=hw.cell _ _ _ (hcell i h j hj);rw [h3];exact hz hF i h j hj
  ·cases h1
  ·cases h1
 | ptr c hX hb hcell hrep hz ih =>
  rename_i b off ds;rintro v' (rfl|⟨_,_,_,h1,_⟩|⟨_,_,h1,_⟩)
  ·refine .ptr (λj=>(w'.cell? ⟨b,off+j,none⟩).getD undef) hX (Aq hb hw.size) (λj hj=>?_) (λj hj=>?_) (λhF j hj=>?_)
   ·obtain⟨⟨u,h1,h2⟩,h3⟩:=hw.cell _ _ _ (hcell j hj);rw [h1];rfl
   ·obtain⟨⟨u,h1,h2⟩,h3⟩:=hw.cell _ _ _ (hcell j hj);rw [h1];exact ih j hj u h2
   ·obtain⟨⟨u,h1,h2⟩,h3⟩:=hw.cell _ _ _ (hcell j hj);rw [h3];exact hz hF j hj
  ·cases h1
  ·cases h1
 | own h ih=>exact λv' hv=>.own (ih v' hv)
mutual
def SV.safe (B:Nat):SV->Prop
 | .d (.int _ _)=>True
 | .d (.bool _)=>True
 | .d (.str _)=>True
 | .d (.slice _ _)=>False
 | .d (.ptr _)=>False
 | .d (.own _ _)=>False
 | .pd _=>False
 | .md _ _=>False
 | .rg B' 0 _=>B'<=B
 | .rg _ 2 _=>True
 | .rg _ _ _=>False
 | .fn _ caps=>SV.safeL B caps
 | .agg ss=>SV.safeL B ss
 | .tup ss=>SV.safeL B ss
 | .junk=>True
 | .nils=>True
 | .loc _ _=>True
 | .row _=>True
 | .mp _=>True
 | .prow _ _ _ _=>True
 | .sl _ _ _ _=>True
 | .rsl _ _ _ _=>True
 | .val _=>True
def SV.safeL (B:Nat):List SV->Prop
 | []=>True
 | s::ss=>SV.safe B s/\SV.safeL B ss
end
def Sl.safe (B:Nat):Sl->Prop
 | []=>True
 | (_,s)::r=>SV.safe B s/\Sl.safe B r
def Hp.safe (B:Nat):Hp->Prop
 | []=>True
 | (_,.blk _ cs)::r=>SV.safeL B cs/\Hp.safe B r
 | (_,.row _ _ _)::_=>False
 | (_,.map _ _)::_=>False
theorem Hp.safe_mem {B:Nat}:∀ {H:Hp},Hp.safe B H->∀ p∈H,∃ i ty cs,p=(i,.blk ty cs)/\SV.safeL B cs
 | [],_,_,hp=>nomatch hp
 | (i,.blk ty cs)::r,h,p,hp=>by
  rcases List.mem_cons.1 hp with rfl|hp
  ·exact⟨_,_,_,rfl,h.1⟩
  ·exact Hp.safe_mem h.2 p hp
 | (_,.row _ _ _)::_,h,_,_=>h.elim
 | (_,.map _ _)::_,h,_,_=>h.elim
theorem Sl.safe_get {B:Nat}:∀ {L:Sl},Sl.safe B L->∀ t,(L.get t).safe B
 | [],_,_=>trivial
 | (d,s)::r,h,t=>by
  rw [Sl.get_cons]
  split
  ·exact h.1
  ·exact Sl.safe_get h.2 t
section
variable {X : Nat -> Prop} {e : Env} {w w' : World} {B : Nat}
mutual
theorem Rel.sim (hw:SimW w w') (hb:∀ b,b<B->w'.heap[b]?=w.heap[b]?):∀ (s:SV) (v:Value),s.safe B->Rel X e w s v->Rel X e w' s v
 | .junk,_,_,_=>trivial
 | .d (.int _ _),_,_,h=>by
  have h:RepC _ _ _ _:=h
  cases h with
  | int hq=>exact RepC.int hq
 | .d (.bool _),_,_,h=>by
  have h:RepC _ _ _ _:=h
  cases h
  exact RepC.bool
 | .d (.str _),_,_,h=>by
  have h:RepC _ _ _ _:=h
  cases h with
  | str hq=>exact RepC.str hq
 | .d (.slice _ _),_,hs,_=>hs.elim
 | .d (.ptr _),_,hs,_=>hs.elim
 | .d (.own _ _),_,hs,_=>hs.elim
 | .nils,_,_,h=>h
 | .pd _,_,hs,_=>hs.elim
 | .loc _ _,_,_,h=>h
 | .row _,_,_,h=>h
 | .mp _,_,_,h=>h
 | .md _ _,_,hs,_=>hs.elim
 | .prow _ _ _ _,_,_,h=>h
 | .sl _ _ _ _,_,_,h=>h
 | .rsl _ _ _ _,_,_,h=>h
 | .rg B' 0 _,_,hs,h=>⟨Ar h.1 hw.size,RepC.keep hw.size (λb _ hx=>hb b (Aq (Nat.lt_of_not_le λhy=>hx (.inr hy)) hs)) (λ_ _ hy=>hy) h.2⟩
 | .rg _ 1 _,_,hs,_=>hs.elim
 | .rg _ 2 _,v,_,h=>⟨Ar h.1 hw.size,ShpC.sim hw h.2 v (.inl rfl)⟩
 | .rg _ (_+3) _,_,hs,_=>hs.elim
 | .fn _ caps,_,hs,⟨vs,h1,h2⟩=>⟨vs,h1,RelL.sim hw hb caps vs hs h2⟩
 | .agg ss,_,hs,⟨vs,h1,h2⟩=>⟨vs,h1,RelL.sim hw hb ss vs hs h2⟩
 | .tup ss,_,hs,⟨vs,h1,h2⟩=>⟨vs,h1,RelL.sim hw hb ss vs hs h2⟩
 | .val _,_,_,h=>h
theorem RelL.sim (hw:SimW w w') (hb:∀ b,b<B->w'.heap[b]?=w.heap[b]?):∀ (ss:List SV) (vs:List Value),SV.safeL B ss->RelL X e w ss vs->RelL X e w' ss vs
 | [],[],_,_=>trivial
 | [],_::_,_,h=>h.elim
 | _::_,[],_,h=>h.elim
 | s::ss,v::vs,hs,⟨h1,h2⟩=>⟨Rel.sim hw hb s v hs.1 h1,RelL.sim hw hb ss vs hs.2 h2⟩
end
end
theorem simW_set {w:World} {b o:Nat} {u v:Value} (hc:w.cell? ⟨b,o,none⟩=some v) (hv:SimV v u):∃ w',w.setCell ⟨b,o,none⟩ u=w'/\SimW w w'/\(∀ b',b'≠b->w'.heap[b']?=w.heap[b']?)/\(∃ c t p,w.heap[b]?=some (.cells c t p)) /\
  w'.heap.size=w.heap.size/\w'.os=w.os/\w'.tape=w.tape/\w'.output=w.output/\w'.drawn=w.drawn:=by
 have hh:∃ c t p,w.heap[b]?=some (.cells c t p)/\c[o]?=some v:=by
  unfold World.cell? at hc;split at hc
  ·rename_i c t p h;exact⟨c,t,p,h,by simpa using hc⟩
  ·cases hc
 obtain⟨c,t,p,h1,h2⟩:=hh;refine⟨_,rfl,?_⟩
 rw [setCell_eq_setRow w b o c t p u h1];have hn:(w.setRow b (c.setIfInBounds o u)).heap[b]?=some (.cells (c.setIfInBounds o u) t p):=setRow_heap w b c _ t p h1;have ho:∀ b',b'≠b->(w.setRow b (c.setIfInBounds o u)).heap[b']?=w.heap[b']?:=λb' h=>setRow_other w b b' _ h
 refine⟨⟨by simp [World.setRow],λb' o' v' hv'=>?_⟩,ho,⟨c,t,p,h1⟩,by simp [World.setRow],rfl,rfl,rfl,rfl⟩
 by_cases hbb:b'=b
 ·subst hbb;refine⟨?_,by simp only [World.frozen?,hn,h1]⟩
  have hv2:c[o']?=some v':=by
   simp only [World.cell?,h1] at hv';simpa using hv'
  simp only [World.cell?,hn];by_cases hoo:o=o'
  ·subst hoo;rw [h2] at hv2;cases hv2;have hlt:o<c.size:=(Array.getElem?_eq_some_iff.1 h2).1;exact⟨u,by simp [hlt],hv⟩
  ·exact⟨v',by simp [hoo,hv2],.inl rfl⟩
 ·exact⟨⟨v',(World.cell?_of_block (w:=w) (ho b' hbb)).trans hv',.inl rfl⟩,gq (ho b' hbb)⟩
def likeD:D->D->Bool
 | .int k _,.int k' _=>sameK k k'
 | .str _,.str _=>true
 | _,_=>false
theorem likeD_sim {X Y:Nat->Prop} {w:World} {v u:Value} {x y:D} (h:likeD x y=true) (hx:ShpC X w v x) (hy:RepC Y w u y):SimV v u:=by
 unfold likeD at h;split at h
 ·cases hx;cases hy with
  | int hw=>have:=lz h;subst this;exact .inr (.inl ⟨_,_,_,rfl,rfl,hw⟩)
 ·cases hx;cases hy with
  | str hw=>exact .inr (.inr ⟨_,_,rfl,rfl,hw⟩)
 ·cases h
theorem RgC.shp {X:Nat->Prop} {w:World} {B q:Nat} {v:Value} {x:D} (h:RgC X w B q v x):ShpC (lim X B q) w v x:=by
 have h2:=h.2;split at h2
 ·exact h2
 ·exact RepC.shp h2
theorem cSV_rg (v:Value) (B q:Nat) (x:D):cSV v≠.rg B q x:=by unfold cSV;split<;>simp
section
variable {Γ : Ctx} {k : Nat -> Prop} {L : Sl} {H : Hp} {K : ca} {ops : List Oper} {rest : List Oper} {a : Act} {w : World} {e : Env} {t t' ty : TypeId} {x y : Operand}
theorem op_spoil {te ty:TypeId} {pos:String} {af:Array Edge} {g:Option (Nat×Bool)} {B:Nat} {d0 y0:D} {ds:List D} (hx:ai L x = .rg B 2 (.ptr (d0::ds))) (hy:ai L y = .d y0) (hyo:de y=true) (hl:likeD d0 y0=true)
  (hkn:(Γ.sh te).known=true) (hn:Aw 1 (Γ.cells te)=true) (hB:Γ.w0.heap.size<=B) (hs:Sl.safe B L) (hH:Hp.safe B H):OpOk Γ ⟨none,.store te x y,ty,pos,af,g⟩ k L H k L H:=by
 intro e a w Q m;obtain⟨inf,z,hi,_,hsz,_⟩:=Ctx.info (Sh.known_ne hkn);have hp:RgC (Γ.X e H) w B 2 (a.eval x) (.ptr (d0::ds)):=by
  have:=evT m hx (cSV_rg · _ _ _)
  exact this
 have hp:=hp.shp;have hr:RepC (Γ.X e H) w (a.eval y) y0:=by
  have:=m.op y (b7 hyo)
  rw [hy] at this;exact this
 have hn':=Nat.eq_of_beq_eq_true hn;generalize hv:a.eval x=v at hp;cases hp with
 | ptr c hX hb hcell hrep hz =>
  rename_i b off;have hc0:=hcell 0 (by simp);have hsim:=likeD_sim hl (hrep 0 (by simp)) hr;have hbB:B<=b:=Nat.le_of_not_lt λh=>hX (.inr h)
  have hz0:=hz (Ar m.tabs.2.1 (Ar hB hbB)) 0 (by simp);rw [G2] at hc0 hz0;obtain⟨w',hw',h1,h2,⟨c1,t1,p1,h3⟩,h4,h5,h6,h7,h8⟩:=simW_set hc0 hsim;have hone:(a.eval y).oneCell'=true/\(a.eval y).cells = #[a.eval y]:=RepC.one hr;have hrun:(execOp a.eval ⟨none,.store te x y,ty,pos,af,g⟩).run Γ.P w = .ok .skip w':=by
   have hst:(store (⟨b,off,none⟩:Addr) (a.eval y)).run Γ.P w = .ok () w':=by
    rw [run_store Γ.P w _ _ _ hone.1,hc0];simp [hz0,hw']
   have hadd:(⟨b,off,none⟩:Addr).add 0=⟨b,off,none⟩:=by rw [Addr.add_at,G2]
   simp only [execOp,Instr.storeAt,hv,Instr.sureAddr];simp [storeVar,cw hi,hsz,<- hn',hone.2,storeCells,hadd,hst]
  unfold Oper.wp;rw [hrun];have hown:∀ c∈ae e H,c≠b:=λc hc he=>hX (.inl (.inr (he▸hc)))
  have hheap:∀ p∈H,e.dom p.1/\HRel (Γ.X e H) e w' p:=by
   intro p hp;obtain⟨hd,hpr⟩:=m.heap p hp;refine⟨hd,?_⟩
   obtain⟨i,T,cs,rfl,hcs⟩:=Hp.safe_mem hH p hp;obtain⟨vs,g1,g2,g3⟩:=hpr;exact⟨vs,(h2 _ (hown _ (List.mem_filterMap.2 ⟨_,hp,rfl⟩))).trans g1,RelL.sim h1 (λb' hb'=>h2 b' (by omega)) _ _ hcs g2,g3⟩
  refine⟨e,⟨⟨m.top,hheap,m.ids,m.nodup,m.mine,h5.trans m.os,h6.trans m.tape,h7.trans m.output,λhd=>h8▸m.drawn hd,h4▸m.size,λb' hb' hE=>(h2 b' (by omega)).trans (m.block b' hb' hE),m.obound,m.tabs,m.jle,m.anchor⟩,
   m.defers.keep λr hr=>h2 r λhe=>?_,m.len,λt=>Rel.sim h1 (λb' hb'=>h2 b' (by omega)) _ _ (Sl.safe_get hs t) (m.slot t)⟩⟩
  subst he;rw [hr] at h3;cases h3
theorem ev_len_rg {B q es:Nat} {xs:List (List D)} (ht:Γ.sh t = .slice t') (hx:ai L x = .rg B q (.slice es xs)):Ev Γ k L H (.call { callee:=.builtin .len,args:=#[x],argTypes:=#[t] }) ty (.d (.int .i64 xs.length)):=by
 intro e a w m;have hp:RgC (Γ.X e H) w B q (a.eval x) (.slice es xs):=by
  have:=evT m hx (cSV_rg · _ _ _)
  exact this
 have hp:=hp.shp;obtain⟨ao,cap,hv,h1,h2⟩:∃ ao cap,a.eval x = .slice ao xs.length cap/\xs.length<=cap/\cap<=maxLen:=by
  generalize a.eval x=v at hp;cases hp with
  | nil=>exact⟨none,0,rfl,by simp,Ai _⟩
  | zero=>exact⟨_,0,rfl,by simp,Ai _⟩
  | slice c hn hc hm=>subst hn;exact⟨_,_,rfl,hc,hm⟩
 refine⟨.int .i64 xs.length,λ_ _ _ _ w' _=>?_,.int (WalkArith.wf_i64 (by unfold maxLen at h2;omega))⟩
 simp [execOp,resolve,invoke,builtin,hv,Builtin.len_,goInt,run_underlying (Ctx.slice ht)]
theorem ev_index_rg {B es:Nat} {xs:List (List D)} {n:Int} {j:Nat} (ht:Γ.sh t = .slice t') (hc:Γ.cells t'=es) (hkn:(Γ.sh t').known=true) (hx:ai L x = .rg B 2 (.slice es xs)) (hy:ai L y = .d (.int .i64 n))
  (hn:n=j) (h1:j<xs.length):Ev Γ k L H (.indexAddr t x y) ty (.rg B 2 (.ptr (xs[j]'h1))):=by
 subst hn;intro e a w m;have ho:=Sh.known_ne hkn;have hp:=evT m hx (cSV_rg · _ _ _);obtain⟨hB,hp⟩:=hp;generalize hv:a.eval x=v at hp;have hp:ShpC (lim (Γ.X e H) B 2) w v (.slice es xs):=hp;obtain⟨inf,z,hi,_,hs,_⟩:=Ctx.info ho;cases hp with
 | nil=>simp at h1
 | zero=>simp at h1
 | slice c hn hcc hm hX hb he hcell hrep hz =>
  rename_i b off n' cap;refine⟨.pointer (some ⟨b,off+j*es,none⟩),λ_ _ _ _ w' _=>?_,hB,.ptr (c j) hX hb (hcell j h1) (hrep j h1) (λhF=>hz hF j h1)⟩
  have hlt:j<n':=by omega
  simp [execOp,Instr.indexAt,hv,evI m hy,asIntOf,run_underlying (Ctx.slice ht),hlt,cw hi,hs,hc,Addr.add_at]
theorem ev_field_rg {s:TypeId} {f off fty sz B:Nat} {l} {ds:List D} (hs:Γ.sh s = .struct l) (hf:l[f]?=some (off,fty,sz)) (hz:Aw sz 0=false)
  (hx:ai L x = .rg B 2 (.ptr ds)):Ev Γ k L H (.fieldAddr s x f) ty (.rg B 2 (.ptr (ds.drop off))):=by
 obtain⟨fs,hu,hl⟩:=Ctx.struct hs;subst hl;rw [List.getElem?_map] at hf;cases hff:fs.toList[f]? with
 | none=>rw [hff] at hf;cases hf
 | some fd =>
  rw [hff] at hf;simp only [Option.map_some,Option.some.injEq,Prod.mk.injEq] at hf;obtain⟨h1,h2,h3⟩:=hf;have hfa:fs[f]?=some fd:=by rw [<- Array.getElem?_toList];exact hff
  have hinf:∃ inf,Γ.P.info? fd.type=some inf/\inf.size≠0:=by
   cases hi:Γ.P.info? fd.type with
   | none=>rw [hi] at h3;exact absurd h3.symm (Bj hz)
   | some inf=>rw [hi] at h3;exact⟨inf,rfl,λh=>Bj hz (by rw [<- h3,<- h];rfl)⟩
  obtain⟨inf,hi,hne⟩:=hinf;intro e A w m;have hp:=evT m hx (cSV_rg · _ _ _);obtain⟨hB,hp⟩:=hp;generalize hv:A.eval x=v at hp;have hp:ShpC (lim (Γ.X e H) B 2) w v (.ptr ds):=hp;cases hp with
  | ptr c hX hb hcell hrep hz =>
   rename_i b o;refine⟨.pointer (some ⟨b,o+off,none⟩),λ_ _ _ _ w' _=>?_,hB,.ptr (λj=>c (off+j)) hX hb (λj hj=>?_) (λj hj=>?_) (λhF j hj=>?_)⟩
   ·simp [execOp,Instr.fieldAt,hv,run_underlying hu,hfa,Instr.sureAddr,fieldPlace,cw hi,hne,h1,Addr.add_at]
   ·have hj':off+j<ds.length:=by simp at hj;omega
    rw [Ek];exact hcell (off+j) hj'
   ·have hj':off+j<ds.length:=by simp at hj;omega
    simpa using hrep (off+j) hj'
   ·have hj':off+j<ds.length:=by simp at hj;omega
    rw [Ek];exact hz hF (off+j) hj'
theorem ev_load_rg {B:Nat} {d0:D} {ds:List D} (hkn:(Γ.sh t).known=true) (hg:(Γ.sh t).isAgg=false) (hx:ai L x = .rg B 2 (.ptr (d0::ds))):Ev Γ k L H (.load t x) ty (.rg B 2 d0):=by
 intro e a w m;have ho:=Sh.known_ne hkn;have hp:=evT m hx (cSV_rg · _ _ _);obtain⟨hB,hp⟩:=hp;generalize hv:a.eval x=v at hp;have hp:ShpC (lim (Γ.X e H) B 2) w v (.ptr (d0::ds)):=hp;cases hp with
 | ptr c hX hb hcell hrep hz =>
  have h1:=hcell 0 (by simp);rw [G2] at h1;exact⟨c 0,λ_ _ _ _ w' hw=>sc ho hg hv (f9 hw h1) _ _ _ _,hB,hrep 0 (by simp)⟩
end
mutual
def SV.fresh (B:Nat):SV->SV
 | .d (.slice es xs)=>.rg B 1 (.slice es xs)
 | .d (.ptr ds)=>.rg B 1 (.ptr ds)
 | .agg ss=>.agg (SV.freshL B ss)
 | .tup ss=>.tup (SV.freshL B ss)
 | s=>s
def SV.freshL (B:Nat):List SV->List SV
 | []=>[]
 | s::ss=>SV.fresh B s::SV.freshL B ss
end
mutual
def SV.old (B:Nat):SV->SV
 | .d (.slice es xs)=>.rg B 0 (.slice es xs)
 | .d (.ptr ds)=>.rg B 0 (.ptr ds)
 | .agg ss=>.agg (SV.oldL B ss)
 | .tup ss=>.tup (SV.oldL B ss)
 | s=>s
def SV.oldL (B:Nat):List SV->List SV
 | []=>[]
 | s::ss=>SV.old B s::SV.oldL B ss
end
mutual
def SV.dull:SV->SV
 | .rg B 1 x=>.rg B 2 x
 | .agg ss=>.agg (SV.dullL ss)
 | .tup ss=>.tup (SV.dullL ss)
 | s=>s
def SV.dullL:List SV->List SV
 | []=>[]
 | s::ss=>SV.dull s::SV.dullL ss
end
section
variable {X Y : Nat -> Prop} {e : Env} {w : World} {B : Nat}
mutual
theorem Rel.fresh (hB:B<=w.heap.size) (h1:∀ b,b<w.heap.size->X b->Y b) (h2:∀ b,b<B->Y b):∀ (s:SV) (v:Value),Rel Y e w s v->Rel X e w (s.fresh B) v
 | .d (.slice _ _),_,h=>⟨hB,RepC.anyX (λb hb hy=>hy.elim (h1 b hb) (h2 b)) h⟩
 | .d (.ptr _),_,h=>⟨hB,RepC.anyX (λb hb hy=>hy.elim (h1 b hb) (h2 b)) h⟩
 | .agg ss,_,⟨vs,g1,g2⟩=>⟨vs,g1,RelL.fresh hB h1 h2 ss vs g2⟩
 | .tup ss,_,⟨vs,g1,g2⟩=>⟨vs,g1,RelL.fresh hB h1 h2 ss vs g2⟩
 | .junk,_,h=>h
 | .d (.int _ _),_,h=>RepC.anyX h1 h
 | .d (.bool _),_,h=>RepC.anyX h1 h
 | .d (.str _),_,h=>RepC.anyX h1 h
 | .d (.own _ _),_,h=>RepC.anyX h1 h
 | .nils,_,h=>h
 | .pd ds,v,h=>Rel.keep (Af _) (λ_ _ _=>rfl) h1 (.pd ds) v h
 | .loc _ _,_,h=>h
 | .row _,_,h=>h
 | .mp _,_,h=>h
 | .md kd kvs,v,h=>Rel.keep (Af _) (λ_ _ _=>rfl) h1 (.md kd kvs) v h
 | .prow _ _ _ _,_,h=>h
 | .sl _ _ _ _,_,h=>h
 | .rsl _ _ _ _,_,h=>h
 | .rg b q x,v,h=>Rel.keep (Af _) (λ_ _ _=>rfl) h1 (.rg b q x) v h
 | .fn f caps,v,h=>Rel.keep (Af _) (λ_ _ _=>rfl) h1 (.fn f caps) v h
 | .val _,_,h=>h
theorem RelL.fresh (hB:B<=w.heap.size) (h1:∀ b,b<w.heap.size->X b->Y b) (h2:∀ b,b<B->Y b):∀ (ss:List SV) (vs:List Value),RelL Y e w ss vs->RelL X e w (SV.freshL B ss) vs
 | [],[],_=>trivial
 | [],_::_,h=>h.elim
 | _::_,[],h=>h.elim
 | s::ss,v::vs,h=>⟨Rel.fresh hB h1 h2 s v h.1,RelL.fresh hB h1 h2 ss vs h.2⟩
end
mutual
theorem Rel.old (hB:B=w.heap.size):∀ (s:SV) (v:Value),Rel X e w s v->Rel X e w (s.old B) v
 | .d (.slice _ _),_,h=>⟨Nat.le_of_eq hB,RepC.anyX (λb hb hy=>hy.elim id λ(h3:B<=b)=>absurd hb (by omega)) h⟩
 | .d (.ptr _),_,h=>⟨Nat.le_of_eq hB,RepC.anyX (λb hb hy=>hy.elim id λ(h3:B<=b)=>absurd hb (by omega)) h⟩
 | .agg ss,_,⟨vs,g1,g2⟩=>⟨vs,g1,RelL.old hB ss vs g2⟩
 | .tup ss,_,⟨vs,g1,g2⟩=>⟨vs,g1,RelL.old hB ss vs g2⟩
 | .junk,_,h=>h
 | .d (.int _ _),_,h=>h
 | .d (.bool _),_,h=>h
 | .d (.str _),_,h=>h
 | .d (.own _ _),_,h=>h
 | .nils,_,h=>h
 | .pd _,_,h=>h
 | .loc _ _,_,h=>h
 | .row _,_,h=>h
 | .mp _,_,h=>h
 | .md _ _,_,h=>h
 | .prow _ _ _ _,_,h=>h
 | .sl _ _ _ _,_,h=>h
 | .rsl _ _ _ _,_,h=>h
 | .rg _ _ _,_,h=>h
 | .fn _ _,_,h=>h
 | .val _,_,h=>h
theorem RelL.old (hB:B=w.heap.size):∀ (ss:List SV) (vs:List Value),RelL X e w ss vs->RelL X e w (SV.oldL B ss) vs
 | [],[],_=>trivial
 | [],_::_,h=>h.elim
 | _::_,[],h=>h.elim
 | s::ss,v::vs,h=>⟨Rel.old hB s v h.1,RelL.old hB ss vs h.2⟩
end
mutual
theorem Rel.dull:∀ (s:SV) (v:Value),Rel X e w s v->Rel X e w s.dull v
 | .rg _ 0 _,_,h=>h
 | .rg _ 1 _,_,h=>⟨h.1,RepC.shp h.2⟩
 | .rg _ (_+2) _,_,h=>h
 | .agg ss,_,⟨vs,g1,g2⟩=>⟨vs,g1,RelL.dull ss vs g2⟩
 | .tup ss,_,⟨vs,g1,g2⟩=>⟨vs,g1,RelL.dull ss vs g2⟩
 | .junk,_,h=>h
 | .d _,_,h=>h
 | .nils,_,h=>h
 | .pd _,_,h=>h
 | .loc _ _,_,h=>h
 | .row _,_,h=>h
 | .mp _,_,h=>h
 | .md _ _,_,h=>h
 | .prow _ _ _ _,_,h=>h
 | .sl _ _ _ _,_,h=>h
 | .rsl _ _ _ _,_,h=>h
 | .fn _ _,_,h=>h
 | .val _,_,h=>h
theorem RelL.dull:∀ (ss:List SV) (vs:List Value),RelL X e w ss vs->RelL X e w (SV.dullL ss) vs
 | [],[],_=>trivial
 | [],_::_,h=>h.elim
 | _::_,[],h=>h.elim
 | s::ss,v::vs,h=>⟨Rel.dull s v h.1,RelL.dull ss vs h.2⟩
end
end
section
variable {Γ : Ctx} {k : Nat} {L : Sl} {H : Hp} {K : ca} {Q : d6} {ops : List Oper} {rest : List Oper}
inductive HasB (B:Nat) (L:Sl) (H:Hp):Prop
 | slot (t q:Nat) (x:D) (h:L.get t = .rg B q x)
 | cell (i j q:Nat) (T:TypeId) (cs:List SV) (x:D) (h:Hp.get H i=some (.blk T cs)) (hj:cs[j]?=some (.rg B q x))
theorem HasB.le {k:Nat->Prop} {e:Env} {a:Act} {w:World} {B:Nat} (h:HasB B L H) (m:Models Γ k L H e a w):B<=w.heap.size:=by
 cases h with
 | slot t q x h =>
  have hs:=m.slot t;rw [h] at hs;exact hs.1
 | cell i j q T cs x h hj =>
  obtain⟨vs,g1,g2,g3⟩:=(m.heap _ (Hp.mem_of h)).2;obtain⟨v,_,hv⟩:=RelL.get _ _ g2 j _ hj;exact hv.1
theorem ds_spoil {te ty:TypeId} {x y:Operand} {pos:String} {af:Array Edge} {g:Option (Nat×Bool)} {B:Nat} {d0 y0:D} {ds:List D} (hw:aq ops L g=some true) (hx:ai L x = .rg B 2 (.ptr (d0::ds))) (hy:ai L y = .d y0) (hyo:de y=true) (hl:likeD d0 y0=true)
  (hkn:(Γ.sh te).known=true) (hn:Aw 1 (Γ.cells te)=true) (hB:Γ.w0.heap.size<=B) (hs:Sl.safe B L) (hH:Hp.safe B H) (hk:DS false Γ ops rest K k L H):DS false Γ ops (⟨none,.store te x y,ty,pos,af,g⟩::rest) K k L H :=
 dl_op hw (op_spoil hx hy hyo hl hkn hn hB hs hH) hk
theorem dw_turn {c:Code} {s:SV} (t:Nat) (g:SV->SV) (hg:∀ X e w s v,Rel X e w s v->Rel X e w (g s) v) (hL:L.get t=s) (h:DW Γ c Q k ((t,g s)::L) H):DW Γ c Q k L H:=λe a w m =>
 h e a w ⟨m.toHeap,m.defers,m.len,λt'=>by
  rw [Sl.get_cons]
  split
  ·rename_i ht
   subst ht
   have:=m.slot t
   rw [hL] at this
   exact hg _ _ _ _ _ this
  ·exact m.slot t'⟩
theorem dw_dull {c:Code} {s:SV} (t:Nat) (hL:L.get t=s) (h:DW Γ c Q k ((t,s.dull)::L) H):DW Γ c Q k L H:=dw_turn t SV.dull (λ_ _ _ s v=>Rel.dull s v) hL h
end
section
variable {Γ : Ctx} {q : Bool} {k : Nat} {L : Sl} {H : Hp} {K : ca} {Q : d6} {ops : List Oper} {rest : List Oper} {t t' ty : TypeId} {pos : String} {af : Array Edge} {g : Option (Nat×Bool)} {d : Nat} {B p es : Nat} {x y : Operand}
theorem ev_index_rgm {α:Type} {f:α->List D} {l:List α} {n:Int} {j:Nat} (ht:Γ.sh t = .slice t') (hc:Γ.cells t'=es) (hkn:(Γ.sh t').known=true) (hx:ai L x = .rg B 2 (.slice es (l.map f))) (hy:ai L y = .d (.int .i64 n))
  (hn:n=j) (h1:j<l.length):Ev Γ k L H (.indexAddr t x y) ty (.rg B 2 (.ptr (f (l[j]'h1)))):=by
 have:=ev_index_rg (Γ:=Γ) (k:=k) (H:=H) (ty:=ty) ht hc hkn hx hy hn (by simpa using h1)
 simpa using this
theorem ux {xs:List (List D)} (hk:DS q Γ ops rest K k ((d,.d (.int .i64 xs.length))::L) H) (ht:Γ.sh t = .slice t':=by exact rfl) (hx:ai L x = .rg B p (.slice es xs):=by exact rfl) (hw:aq ops L g=some true:=by exact rfl) (hd:As d Γ.n=true:=by exact rfl) :
  DS q Γ ops (⟨some d,.call { callee:=.builtin .len,args:=#[x],argTypes:=#[t] },ty,pos,af,g⟩::rest) K k L H:=jo (ev_len_rg ht hx) hw hd hk
theorem gu {α:Type} {f:α->List D} {l:List α} {n:Int} {j:Nat} {h1:j<l.length} (hk:DS q Γ ops rest K k ((d,.rg B 2 (.ptr (f (l[j]'h1))))::L) H) (ht:Γ.sh t = .slice t':=by exact rfl) (hc:Γ.cells t'=es:=by exact rfl) (hkn:(Γ.sh t').known=true:=by exact rfl)
  (hx:ai L x = .rg B 2 (.slice es (l.map f)):=by exact rfl) (hy:ai L y = .d (.int .i64 n):=by exact rfl) (hn:n=j:=by exact rfl) (hw:aq ops L g=some true:=by exact rfl) (hd:As d Γ.n=true:=by exact rfl) :
  DS q Γ ops (⟨some d,.indexAddr t x y,ty,pos,af,g⟩::rest) K k L H:=jo (ev_index_rgm ht hc hkn hx hy hn h1) hw hd hk
theorem s7 {s:TypeId} {f off fty sz:Nat} {l} {ds:List D} (hk:DS q Γ ops rest K k ((d,.rg B 2 (.ptr (ds.drop off)))::L) H) (hs:Γ.sh s = .struct l:=by exact rfl) (hf:l[f]?=some (off,fty,sz):=by exact rfl) (hz:Aw sz 0=false:=by exact rfl)
  (hx:ai L x = .rg B 2 (.ptr ds):=by exact rfl) (hw:aq ops L g=some true:=by exact rfl) (hd:As d Γ.n=true:=by exact rfl):DS q Γ ops (⟨some d,.fieldAddr s x f,ty,pos,af,g⟩::rest) K k L H:=jo (ev_field_rg hs hf hz hx) hw hd hk
theorem qz {d0:D} {ds:List D} (hk:DS q Γ ops rest K k ((d,.rg B 2 d0)::L) H) (hkn:(Γ.sh t).known=true:=by exact rfl) (hg:(Γ.sh t).isAgg=false:=by exact rfl) (hx:ai L x = .rg B 2 (.ptr (d0::ds)):=by exact rfl) (hw:aq ops L g=some true:=by exact rfl) (hd:As d Γ.n=true:=by exact rfl) :
  DS q Γ ops (⟨some d,.load t x,ty,pos,af,g⟩::rest) K k L H:=jo (ev_load_rg hkn hg hx) hw hd hk
theorem s6 {te:TypeId} {d0 y0:D} {ds:List D} (hk:DS false Γ ops rest K k L H) (hB:Γ.w0.heap.size<=B:=by assumption) (hw:aq ops L g=some true:=by exact rfl) (hx:ai L x = .rg B 2 (.ptr (d0::ds)):=by exact rfl) (hy:ai L y = .d y0:=by exact rfl) (hyo:de y=true:=by exact rfl) (hl:likeD d0 y0=true:=by exact rfl)
  (hkn:(Γ.sh te).known=true:=by exact rfl) (hn:Aw 1 (Γ.cells te)=true:=by exact rfl) (hs:Sl.safe B L:=by (repeat' (first|exact trivial|exact Nat.le.refl|refine ⟨?_,?_⟩))) (hH:Hp.safe B H:=by (repeat' (first|exact trivial|exact Nat.le.refl|refine ⟨?_,?_⟩))) :
  DS false Γ ops (⟨none,.store te x y,ty,pos,af,g⟩::rest) K k L H:=ds_spoil hw hx hy hyo hl hkn hn hB hs hH hk
end
def Lens (xs:List (List D)):Prop:=xs.length<=9223372036854775807/\∀ r∈xs,∀ d∈r,∀ es ys,d = .slice es ys->ys.length<=9223372036854775807
theorem ShpC.len1 {X:Nat->Prop} {w:World} {v:Value} {es:Nat} {xs:List (List D)} (h:ShpC X w v (.slice es xs)):xs.length<=9223372036854775807:=by
 cases h with
 | nil=>simp
 | zero=>simp
 | slice c hn hc hm=>unfold maxLen at hm;omega
theorem ShpC.lens {X:Nat->Prop} {w:World} {v:Value} {es:Nat} {xs:List (List D)} (h:ShpC X w v (.slice es xs)):Lens xs:=by
 refine⟨h.len1,?_⟩
 rintro r hr d hd es' ys rfl;cases h with
 | nil=>cases hr
 | zero=>cases hr
 | slice c hn hc hm hX hb he hcell hrep hz =>
  obtain⟨i,hi,rfl⟩:=Eg hr;obtain⟨j,hj,hq⟩:=Eg hd;have:=hrep i hi j hj
  rw [hq] at this;exact this.len1
section
variable {Γ : Ctx} {k : Nat} {L : Sl} {H : Hp} {Q : d6} {B q es : Nat} {xs : List (List D)}
theorem dw_lens {c:Code} (t:Nat) (hL:L.get t = .rg B q (.slice es xs)) (hk:Lens xs->DW Γ c Q k L H):DW Γ c Q k L H:=λe a w m=>by
 have hs:=m.slot t
 rw [hL] at hs
 have hs:RgC _ _ _ _ _ _:=hs
 exact hk hs.shp.lens e a w m
end
end
section
open Go Go.RowKit
variable [Bnds]
section
variable {Γ : Ctx} {l : List Oper} {κ c : Nat}
def tailB (l:List Oper) (c:Nat):Bool:=(bu 0 l).all λq=>As q.1 c || (List.range q.1).all λi=>w9 l l.length q.1 i
theorem tm (h:tailB l c=true) {j i:Nat} {o:Oper} (hj:l[j]?=some o) (hc:c<=j) (hi:i<j):w9 l l.length j i=true:=by
 unfold tailB at h;rw [Bg] at h;have h1:=h (j,o) ((cd l 0 (j,o)).2 ⟨Ai _,by simpa using hj⟩);rw [Du] at h1;rcases h1 with h1|h1
 ·have:j<c:=Ac h1
  omega
 ·exact List.all_eq_true.1 h1 i (List.mem_range.2 hi)
theorem zd:∀ (a b:List Oper) (n:Nat),bu n (a++b)=bu n a++bu (n+a.length) b
 | [],b,n=>rfl
 | o::a,b,n=>by
  rw [Cd,bu,bu,zd a b (n+1),Cd,Bn,show n+1+a.length=n+(a.length+1) by omega]
theorem zg (hdown:qm l=true):∀ j o,l[j]?=some o->∀ e∈o.after,Region.binds .any e=true->e.on<j:=by
 intro j o hj e he hb;unfold qm at hdown;rw [Bg] at hdown;have h1:=hdown (j,o) ((cd l 0 (j,o)).2 ⟨Ai _,by simpa using hj⟩);rw [Bg] at h1;have h2:=h1 e (by simpa using he);simp only [hb,Bool.not_true,Cb] at h2;exact Ac h2
theorem o8 (hdown:qm l=true) {listed:Array Bool} {q:Nat×Oper} {rem':List (Nat×Oper)} (g:Going l listed (q::rem')):q.1∈Region.ready .any l.toArray listed:=by
 obtain⟨h1,h2⟩:=(g.left q).1 (Ae ..);refine mem_ready.2 ⟨h2,q.2,by simpa using h1,λe' he hb=>?_⟩;have hlt:=zg hdown q.1 q.2 h1 e' he hb;have hln:e'.on<listed.size:=by rw [g.size];have:=bf h1;omega
 cases hx:listed.getD e'.on false with
 | true=>rfl
 | false =>
  exfalso;have hx':listed.getD e'.on true=false:=(eb hln).trans hx;have hlen':e'.on<l.length:=by rw [<- g.size];exact hln
  have hm:=(g.left (e'.on,l[e'.on])).2 ⟨by simp [hlen'],hx'⟩;rcases List.mem_cons.1 hm with h|h
  ·have:e'.on=q.1:=by rw [<- h]
   omega
  ·have:=(List.pairwise_cons.1 g.sorted).1 _ h
   simp at this;omega
theorem tail_run (hdown:qm l=true) (hT:tailB l c=true) {Q:Exit->Act->World->Prop}:∀ (m:Nat) (listed:Array Bool) (a:Act) (w:World),Going l listed (bu (l.length-m) (l.drop (l.length-m)))->m<=l.length-c->wpList Γ.P l.toArray Q (l.drop (l.length-m)) a w->wpAny Γ.P .any l.toArray Q m listed a w
 | 0,listed,a,w,g,_,h=>by
  have hn:l.drop (l.length-0)=[]:=List.drop_eq_nil_of_le (by omega);rw [hn] at g h;refine⟨?_,h⟩
  apply List.eq_nil_iff_forall_not_mem.2;intro j hj;obtain⟨h1,o,ho,_⟩:=mem_ready.1 hj;have:=(g.left (j,o)).2 ⟨by simpa using ho,h1⟩
  simp [bu] at this
 | m+1,listed,a,w,g,hm,h=>by
  have hj:l.length-(m+1)<l.length:=by omega
  have hd:l.drop (l.length-(m+1))=l[l.length-(m+1)]::l.drop (l.length-m):=by
   rw [List.drop_eq_getElem_cons hj];congr 2;omega
  have hen:bu (l.length-(m+1)) (l.drop (l.length-(m+1)))=(l.length-(m+1),l[l.length-(m+1)])::bu (l.length-m) (l.drop (l.length-m)):=by
   rw [hd,bu];congr 2;omega
  rw [hen] at g;rw [hd] at h;generalize hJ:l.length-(m+1)=J at *;have hr:=o8 hdown g;refine⟨λh0=>?_,λi hi=>?_⟩
  ·rw [h0] at hr;simp at hr
  ·obtain⟨h1,o,ho,hall⟩:=mem_ready.1 hi;have hio:l[i]?=some o:=by simpa using ho
   have hij:i=J:=by
    have hmem:=(g.left (i,o)).2 ⟨hio,h1⟩;rcases List.mem_cons.1 hmem with h|h
    ·exact congrArg Prod.fst h
    ·exfalso;have hlt:J<i:=by simpa using (List.pairwise_cons.1 g.sorted).1 _ h
     have:=l6 g l.length i o (tm hT hio (by omega) hlt) hio hall
     have h3:=((g.left (J,l[J])).1 (Ae ..)).2;have hJs:J<listed.size:=by rw [g.size];exact hj
     rw [eb hJs] at h3;rw [h3] at this;cases this
   subst hij;have g':=Going.rest (pre:=[]) (i:=i) (o:=l[i]) (post:=bu (l.length-m) (l.drop (l.length-m))) g hi rfl (by rw [List.getElem?_eq_getElem hj]);unfold wpOp;have hlk:l.toArray[i]?=some l[i]:=by simp [hj]
   rw [hlk];unfold wpList at h;split at h
   ·rename_i hw;simp only [hw,if_true];exact h.imp (λh=>Oper.wp_mono (λa' w' hk=>tail_run hdown hT m _ a' w' g' (by omega) hk) h) id
   ·rename_i hw;simp only [hw];exact tail_run hdown hT m _ _ w g' (by omega) h
theorem tail_sim (hB:jx l=true) (hT:tailB l c=true) (hcl:c<=l.length) {K:FS->Prop} {Q:Exit->Act->World->Prop} (hQ:∀ s e a w,K s->Rep Γ (lo (κ+c)) s e a w->wpList Γ.P l.toArray Q (l.drop c) a w) :
  ∀ (fuel:Nat) (listed:Array Bool) (a:Act) (w:World) (s:FS) (e:Env) (D:Nat->Prop) (rem:List (Nat×Oper)) (lg:Log),Going l listed (rem++bu c (l.drop c))->(∀ q∈rem,q.1<c)->rem.length=fuel->Rep Γ D s e a w ->
   (∀ x,D x->x<κ+c/\∀ j,x=κ+j->listed.getD j false=true)->DR Γ l κ rem lg K s->wpAny Γ.P .any l.toArray Q (fuel+(l.length-c)) listed a w:=by
 simp only [jx,Ad] at hB;obtain⟨hdown,hpair,hcall⟩:=hB;intro fuel;induction fuel with
 | zero =>
  intro listed a w s e D rem lg g hrc hlen hr hD hd;have hrem:rem=[]:=Bm hlen;subst hrem;rw [Da];have hcc:l.length-(l.length-c)=c:=by omega
  refine tail_run hdown hT (l.length-c) listed a w (by rw [hcc];exact g) (Af _) ?_;rw [hcc];cases hd with
  | nil hk =>
   obtain⟨L,H,m,hs⟩:=hr;obtain⟨e',m'⟩:=m.widenTo (k':=lo (κ+c)) λx hx=>(hD x hx).1
   exact hQ s e' a w hk ⟨L,H,m',hs⟩
 | succ fuel ih =>
  intro listed a w s e D rem lg g hrc hlen hr hD hd;rw [show fuel+1+(l.length-c)=(fuel+(l.length-c))+1 by omega];obtain⟨q0,rem0,hq0⟩:∃ q r,rem=q::r:=by
   cases rem with
   | nil=>simp at hlen
   | cons q r=>exact⟨q,r,rfl⟩
  refine⟨λh0=>?_,λi hi=>?_⟩
  ·exfalso;have hg:=g;rw [hq0,Cd] at hg;have:=o8 hdown hg
   rw [h0] at this;simp at this
  ·obtain⟨h1,o,ho,hall⟩:=mem_ready.1 hi;have hio:l[i]?=some o:=by simpa using ho
   have hic:i<c:=by
    apply A1;intro hn;have hq0c:q0.1<c:=hrc q0 (by rw [hq0];exact Ae ..);have hrd:=l6 g l.length i o (tm hT hio (by omega) (show q0.1<i by omega)) hio hall;have h3:=(g.left q0).1 (A0 _ (by rw [hq0];exact Ae ..));have hs:q0.1<listed.size:=by rw [g.size];exact bf h3.1
    have h4:=h3.2;rw [eb hs,hrd] at h4;cases h4
   have hmem:(i,o)∈rem:=by
    rcases List.mem_append.1 ((g.left (i,o)).2 ⟨hio,h1⟩) with h|h
    ·exact h
    ·exfalso;have:=((cd _ _ _).1 h).1
     simp only at this;omega
   obtain⟨pre,post,hre⟩:=Gv hmem;have g0:=g;rw [hre,Bt,Cd] at g0;have g':=g0.rest hi rfl hio;rw [<- Bt] at g';have hpull:DR Γ l κ ((i,o)::(pre++post)) lg K s:=by
    refine DR.pull pre lg s (λq hq=>?_) (hre▸hd);have hqr:q∈rem++bu c (l.drop c):=A0 _ (by rw [hre];exact A0 _ hq);obtain⟨hq1,hq2⟩:=(g.left q).1 hqr;have hqi:q.1<i:=by
     have hs:=g0.sorted;rw [Ec] at hs;have:=hs.2.2 q hq (i,o) (Ae ..)
     simpa using this
    have hqs:q.1<listed.size:=by rw [g.size];exact bf hq1
    have hq2':listed.getD q.1 false=false:=(eb hqs).symm.trans hq2;have e0:qo l i q.1=false:=rk hio hall g.closed hq2';have e1:=ua e0;have e2:mt l q.1 i=false:=by
     cases hx:mt l q.1 i with
     | false=>rfl
     | true =>
      obtain⟨o',ho',e',he',hb',hon⟩:=edgeB_spec.1 hx;have:=zg hdown q.1 o' ho' e' he' hb'
      omega
    refine⟨e0,e2,?_,λhcq=>?_⟩
    ·unfold wz at hpair;rw [Bg] at hpair;have p1:=hpair (i,o) ((cd l 0 (i,o)).2 ⟨Ai _,by simpa using hio⟩);rw [Bg] at p1;have p2:=p1 q ((cd l 0 q).2 ⟨Ai _,by simpa using hq1⟩);have hnb:B6 i q.1=false:=by
      cases hb:B6 i q.1 with
      | false=>rfl
      | true=>have:=Ac hb;omega
     simp only [hnb,Cb,e1] at p2;exact p2
    ·cases hci:isCall o with
     | false=>rfl
     | true =>
      have:=u5 g hcall hq1 hcq i o hio hci hqi hall
      rw [hq2'] at this;cases this
   cases hpull with
   | cons cc S rd wr hm hl hne hn hk =>
    have hz:¬ D (κ+i):=by
     intro hx;have:=(hD _ hx).2 i rfl
     have hin:i<listed.size:=by rw [g.size];exact bf hio
     rw [<- eb hin,h1] at this;cases this
    refine Mv.sound hm hr ⟨κ+c,λx hx=>(hD x hx).1⟩ hz hio Q _ λv u a' w' e' hv hr'=>?_
    refine ih (listed.setIfInBounds i true) a' w' _ e' _ (pre++post) _ g' (λq hq=>hrc q ?_) ?_ hr' (λx hx=>?_) (hk v u hv)
    ·rw [hre];rcases List.mem_append.1 hq with h|h<;>simp [h]
    ·rw [hre] at hlen;simp only [Ap,Bn] at hlen ⊢;omega
    ·have hin:i<listed.size:=by rw [g.size];exact bf hio
     rcases hx with hx|hx
     ·refine⟨(hD x hx).1,λj hj=>?_⟩
      have:=(hD x hx).2 j hj
      by_cases hij:i=j
      ·subst hij;simp [hin]
      ·rw [getD_set_ne false hij];exact this
     ·subst hx;refine⟨by omega,λj hj=>?_⟩
      have:i=j:=by omega
      subst this;simp [hin]
theorem ru {id k m:Nat} {L:Sl} {H:Hp} {Q:d6} (c:Nat) (hm:Γ.P.follows .mixedOrders=true) (hB:jx l=true) (hT:tailB l c=true) (hcl:B6 c l.length=true) (hnd:dd l=true) (hl:lenIs (l.take c) k m)
  (h:DT Γ l k (bu 0 (l.take c)) [] (xz Γ m (λk' L' H'=>DS false Γ l (l.drop c) (Q .normal) k' L' H')) L H):DW Γ (.region id l.toArray true) Q k L H:=by
 have hcl:=Ac hcl;have hmc:k+c=m:=by
  have:=n8 (l.take c) k m hl
  rw [Au] at this;omega
 subst hmc;intro e a w mm;refine wpIn_mono (wpIn_region_any hm (wpAny_in (jg (Γ:=Γ) (K:=Q .normal)) hnd _ _ _ _ ?_)) (p7 (λex k' L' H' (⟨h1,h2⟩:fx (Q .normal) ex k' L' H')=>h1▸h2));have m0:=mm.below (w':={ w with drawn:=w.drawn+1 }) ((Beld.refl _ _ _).drew);have hsp:bu 0 (l.take c)++bu c (l.drop c)=bu 0 l:=by
  have:=zd (l.take c) (l.drop c) 0
  rw [List.take_append_drop,Au,Da,Nat.min_eq_left hcl] at this;exact this.symm
 have hg:Going l (Array.replicate l.length false) (bu 0 l):=by
  refine⟨by simp,λj o hj hl=>?_,λq=>?_,np l 0⟩
  ·have hlt:=bf hj;simp [hlt] at hl
  ·rw [cd l 0 q];simp only [Ai,Nat.sub_zero,true_and];constructor
   ·intro hq;exact⟨hq,by have:=bf hq;simp [this]⟩
   ·exact λh=>h.1
 have hlenO:∀ (l:List Oper) b,(bu b l).length=l.length:=by
  intro l;induction l with
  | nil=>intro b;rfl
  | cons o l ih=>intro b;simp [bu,ih]
 have hsize:l.toArray.size=c+(l.length-c):=by simp;omega
 rw [hsize];refine tail_sim hB hT hcl (K:=xz Γ (k+c) (λk' L' H'=>DS false Γ l (l.drop c) (Q .normal) k' L' H')) (Q:=lift Γ (fx (Q .normal))) (λs e a w hk hr=>?_) c _ a _ (ofL L H) e (lo k) (bu 0 (l.take c)) [] (by rw [hsp,<- hsize];simpa using hg) (λq hq=>?_) (by rw [hlenO,Au];omega) ⟨L,H,m0,rfl⟩ (λx hx=>⟨Aq hx (Nat.le_add_right _ _),λj hj=>?_⟩) h
 ·obtain⟨k',L',H',e',m',hq⟩:=hk e a w hr;exact hq e' a w m'
 ·have h2:=((cd _ _ _).1 hq).2;have:=bf h2
  rw [Au] at this;omega
 ·have:x<k:=hx
  omega
theorem e8 (id:Nat) {k:Nat} {L:Sl} {H:Hp} {ops:Array Oper} {b:Bool} {Q:d6} (h:DW Γ (.region id ops b) Q k L H):DW Γ (.region id ops b) Q k L H:=h
end
end
section
open Go Go.RowKit
variable [Bnds]
section
variable {Γ : Ctx} {l : List Oper} {κ c : Nat}
def headB (l:List Oper) (c:Nat):Bool:=(bu 0 l).all λq=>As q.1 c || (List.range c).all λi=>w9 l l.length q.1 i
theorem headB_spec (h:headB l c=true) {j i:Nat} {o:Oper} (hj:l[j]?=some o) (hc:c<=j) (hi:i<c):w9 l l.length j i=true:=by
 unfold headB at h;rw [Bg] at h;have h1:=h (j,o) ((cd l 0 (j,o)).2 ⟨Ai _,by simpa using hj⟩);rw [Du] at h1;rcases h1 with h1|h1
 ·have:j<c:=Ac h1
  omega
 ·exact List.all_eq_true.1 h1 i (List.mem_range.2 hi)
theorem split_sim (hB:jx l=true) (hT:headB l c=true) {K:FS->Prop} {Q:Exit->Act->World->Prop} (hQ:∀ s e a w listed,K s->Rep Γ (lo (κ+c)) s e a w->Going l listed (bu c (l.drop c))->wpAny Γ.P .any l.toArray Q (l.length-c) listed a w) :
  ∀ (fuel:Nat) (listed:Array Bool) (a:Act) (w:World) (s:FS) (e:Env) (D:Nat->Prop) (rem:List (Nat×Oper)) (lg:Log),Going l listed (rem++bu c (l.drop c))->(∀ q∈rem,q.1<c)->rem.length=fuel->Rep Γ D s e a w ->
   (∀ x,D x->x<κ+c/\∀ j,x=κ+j->listed.getD j false=true)->DR Γ l κ rem lg K s->wpAny Γ.P .any l.toArray Q (fuel+(l.length-c)) listed a w:=by
 simp only [jx,Ad] at hB;obtain⟨hdown,hpair,hcall⟩:=hB;intro fuel;induction fuel with
 | zero =>
  intro listed a w s e D rem lg g hrc hlen hr hD hd;have hrem:rem=[]:=Bm hlen;subst hrem;rw [Da];cases hd with
  | nil hk =>
   obtain⟨L,H,m,hs⟩:=hr;obtain⟨e',m'⟩:=m.widenTo (k':=lo (κ+c)) λx hx=>(hD x hx).1
   exact hQ s e' a w listed hk ⟨L,H,m',hs⟩ g
 | succ fuel ih =>
  intro listed a w s e D rem lg g hrc hlen hr hD hd;rw [show fuel+1+(l.length-c)=(fuel+(l.length-c))+1 by omega];obtain⟨q0,rem0,hq0⟩:∃ q r,rem=q::r:=by
   cases rem with
   | nil=>simp at hlen
   | cons q r=>exact⟨q,r,rfl⟩
  refine⟨λh0=>?_,λi hi=>?_⟩
  ·exfalso;have hg:=g;rw [hq0,Cd] at hg;have:=o8 hdown hg
   rw [h0] at this;simp at this
  ·obtain⟨h1,o,ho,hall⟩:=mem_ready.1 hi;have hio:l[i]?=some o:=by simpa using ho
   have hic:i<c:=by
    apply A1;intro hn;have hq0c:q0.1<c:=hrc q0 (by rw [hq0];exact Ae ..);have hrd:=l6 g l.length i o (headB_spec hT hio (by omega) hq0c) hio hall;have h3:=(g.left q0).1 (A0 _ (by rw [hq0];exact Ae ..));have hs:q0.1<listed.size:=by rw [g.size];exact bf h3.1
    have h4:=h3.2;rw [eb hs,hrd] at h4;cases h4
   have hmem:(i,o)∈rem:=by
    rcases List.mem_append.1 ((g.left (i,o)).2 ⟨hio,h1⟩) with h|h
    ·exact h
    ·exfalso;have:=((cd _ _ _).1 h).1
     simp only at this;omega
   obtain⟨pre,post,hre⟩:=Gv hmem;have g0:=g;rw [hre,Bt,Cd] at g0;have g':=g0.rest hi rfl hio;rw [<- Bt] at g';have hpull:DR Γ l κ ((i,o)::(pre++post)) lg K s:=by
    refine DR.pull pre lg s (λq hq=>?_) (hre▸hd);have hqr:q∈rem++bu c (l.drop c):=A0 _ (by rw [hre];exact A0 _ hq);obtain⟨hq1,hq2⟩:=(g.left q).1 hqr;have hqi:q.1<i:=by
     have hs:=g0.sorted;rw [Ec] at hs;have:=hs.2.2 q hq (i,o) (Ae ..)
     simpa using this
    have hqs:q.1<listed.size:=by rw [g.size];exact bf hq1
    have hq2':listed.getD q.1 false=false:=(eb hqs).symm.trans hq2;have e0:qo l i q.1=false:=rk hio hall g.closed hq2';have e1:=ua e0;have e2:mt l q.1 i=false:=by
     cases hx:mt l q.1 i with
     | false=>rfl
     | true =>
      obtain⟨o',ho',e',he',hb',hon⟩:=edgeB_spec.1 hx;have:=zg hdown q.1 o' ho' e' he' hb'
      omega
    refine⟨e0,e2,?_,λhcq=>?_⟩
    ·unfold wz at hpair;rw [Bg] at hpair;have p1:=hpair (i,o) ((cd l 0 (i,o)).2 ⟨Ai _,by simpa using hio⟩);rw [Bg] at p1;have p2:=p1 q ((cd l 0 q).2 ⟨Ai _,by simpa using hq1⟩);have hnb:B6 i q.1=false:=by
      cases hb:B6 i q.1 with
      | false=>rfl
      | true=>have:=Ac hb;omega
     simp only [hnb,Cb,e1] at p2;exact p2
    ·cases hci:isCall o with
     | false=>rfl
     | true =>
      have:=u5 g hcall hq1 hcq i o hio hci hqi hall
      rw [hq2'] at this;cases this
   cases hpull with
   | cons cc S rd wr hm hl hne hn hk =>
    have hz:¬ D (κ+i):=by
     intro hx;have:=(hD _ hx).2 i rfl
     have hin:i<listed.size:=by rw [g.size];exact bf hio
     rw [<- eb hin,h1] at this;cases this
    refine Mv.sound hm hr ⟨κ+c,λx hx=>(hD x hx).1⟩ hz hio Q _ λv u a' w' e' hv hr'=>?_
    refine ih (listed.setIfInBounds i true) a' w' _ e' _ (pre++post) _ g' (λq hq=>hrc q ?_) ?_ hr' (λx hx=>?_) (hk v u hv)
    ·rw [hre];rcases List.mem_append.1 hq with h|h<;>simp [h]
    ·rw [hre] at hlen;simp only [Ap,Bn] at hlen ⊢;omega
    ·have hin:i<listed.size:=by rw [g.size];exact bf hio
     rcases hx with hx|hx
     ·refine⟨(hD x hx).1,λj hj=>?_⟩
      have:=(hD x hx).2 j hj
      by_cases hij:i=j
      ·subst hij;simp [hin]
      ·rw [getD_set_ne false hij];exact this
     ·subst hx;refine⟨by omega,λj hj=>?_⟩
      have:i=j:=by omega
      subst this;simp [hin]
end
end
end Go.Proofs.YtapciiffpnociadGreat
