/- Several texts in one: GxApn GxBld GxFin GxOwn GxCal GxCaq. Condition: none. -/
import Derived.Test.YtapciiffpnociadGreatM02
import Derived.Laws.AppendOwnNone
import Derived.Laws.Externs
set_option linter.all false
open Array renaming getElem?_toList→Ce,length_toList→A4,range→Hj,toList_map→G9,toList_range→Gu
open Bool renaming and_eq_true→Ad
open List renaming filterMap_cons→Bf,filter_sublist→Gp,getD→A9,getElem?_eq_getElem→Ab,getElem?_map→Bl,getElem?_take→Br,map_map→D7,mem_cons_of_mem→Ah,mem_cons_self→Ae
open Nat renaming add_mul→B4,add_sub_cancel_left→Fq,beq→Aw,ble→B6,blt→As,eq_of_beq_eq_true→Aj,le_add_right→Ha,le_of_ble_eq_true→Ac,le_refl→Af,le_trans→Ar,lt_of_lt_of_le→Aq,lt_or_ge→Ed,mod_lt→E8
open Option renaming getD_some→C4
namespace Go.Proofs.YtapciiffpnociadGreat
section
open Go Go.RowKit
variable [Bnds]
section
variable {Γ : Ctx} {k : Nat -> Prop} {L : Sl} {H : Hp} {K : ca} {ops : List Oper} {rest : List Oper} {a : Act} {w : World} {e : Env} {t t' ty : TypeId} {x y : Operand}
theorem ownsRow_one {w:World} {te es n:Nat} {v:Value} {vs:List Value} (h:w.ownsRow 0 te es v n vs):v.oneCell'=true:=by
 rcases h.2 with ⟨rfl,_⟩|⟨g,cap,cur,rfl,_⟩<;>rfl
theorem append_own {P:Program} {w:World} {t ty te:TypeId} {inf:TypeInfo} {z:Value} (ht:P.underlying t=some (.slice te)) (hi:P.info? te=some inf) (hz:inf.zero=some z) (hzs:z.cells.size=inf.size) (hsz:0<inf.size)
  {v:Value} {n:Nat} {xs:List Value} (hown:w.ownsRow 0 te inf.size v n xs) {ad:Addr} {m c:Nat} {news:List Value} (hl:news.length=m*inf.size) (hnews:∀ j u,news[j]?=some u->w.cell? (ad.add j)=some u) (h1:∀ u∈news,u.oneCell'=true)
  (h63:n+m<=maxLen) (hbytes:(n+m)*inf.bytes<=140737488355328) :
  ∃ v' w',(Builtin.append_ #[t,t] ty #[v,.slice (some ad) m c]).run P w = .ok v' w'/\w'.ownsRow 0 te inf.size v' (n+m) (xs++news)/\w.grownBy w' v.ownBlock/\(∀ c,v'.ownBlock=some c->v.ownBlock=some c∨w.heap.size<=c):=by
 obtain⟨v',w',hr,g1,g2,_⟩:=run_append_own (P:=P) w 0 t ty te inf z inf.size inf.bytes ht hi hz rfl rfl hzs hsz v n xs hown ad m c news hl hnews h1 h63 hbytes (Nat.zero_le _);refine⟨v',w',hr,g1,g2,?_⟩
 rcases hown.2 with ⟨rfl,rfl⟩|⟨g,cap,cur,rfl,hbg,hg,hnc,hcm,hcs,htake⟩
 ·obtain⟨v2,w2,hr2,g3,_,_⟩:=run_append_own (P:=P) w w.heap.size t ty te inf z inf.size inf.bytes ht hi hz rfl rfl hzs hsz (.slice none 0 0) 0 xs ⟨hown.1,.inl ⟨rfl,rfl⟩⟩ ad m c news hl hnews h1 h63 hbytes (Af _);rw [hr] at hr2;cases hr2;exact λc hc=>.inr (g3.lt c hc).1
 ·by_cases hroom:n+m<=cap
  ·have hfit:n*inf.size+news.length<=cur.size:=by rw [hl,hcs,<- B4];exact Nat.mul_le_mul_right _ hroom
   have hr2:=run_append_room (P:=P) w t ty te inf ht hi g n cap cur hg ad m c news hl hnews h1 hroom hfit;rw [hr] at hr2;cases hr2;intro c hc;exact .inl hc
  ·have holds:∀ j u,xs[j]?=some u->w.cell? ((⟨g,0,none⟩:Addr).add j)=some u:=hown.cells (g:=g) rfl;have hsmall:n+m<=9223372036854775807:=by simp only [maxLen] at h63;omega
   have hr2:=run_append_grow (P:=P) w t ty te inf z ht hi hz ⟨g,0,none⟩ n cap xs hown.1 holds ad m c news hl hnews (by omega) (by omega) (growslice_fits (by omega) hbytes);rw [hr] at hr2;cases hr2;intro c hc;simp only [Value.ownBlock,Option.some.injEq] at hc;exact .inr (by omega)
theorem Ctx.zsize {t:TypeId} {inf:TypeInfo} {z:Value} (hz:z.cells.toList=(aj Γ.τ t).zero) (hl:Aw (aj Γ.τ t).zero.length (Γ.cells t)=true) (hs:inf.size=Γ.cells t):z.cells.size=inf.size:=by
 rw [<- A4,hz,Aj hl,hs]
theorem op_append_row [NoDr Γ] {d z:Nat} {te t2:TypeId} {pos:String} {af:Array Edge} {g:Option (Nat×Bool)} {i es:Nat} {xs ys:List (List D)}
  (hz':¬ k z) (ht:Γ.sh t = .slice te) (hkn:(Γ.sh te).known=true) (hes:Γ.cells te=es) (hpos:As 0 es=true) (hz:Aw (aj Γ.τ te).zero.length (Γ.cells te)=true)
  (hx:ai L x = .row i) (hH:Hp.get H i=some (.row te es xs)) (hy:ai L y = .d (.slice es ys)) (hd:As d Γ.n=true)
  (hroom:(xs.length+ys.length)*(aj Γ.τ te).bytes<=140737488355328) (h63:xs.length+ys.length<=maxLen) :
  OpOk Γ ⟨some d,.call { callee:=.builtin .append,args:=#[x,y],argTypes:=#[t,t] },t2,pos,af,g⟩ k L H (m5 k z) ((d,.row z)::L) ((z,.row te es (xs++ys))::Hp.del H i):=by
 intro e a w Q m;have hze:¬ e.dom z:=λh=>hz' ((m.top z).1 h)
 obtain⟨inf,zv,hi,hzz,hs,hb,hzc⟩:=Ctx.info (Sh.known_ne hkn);have hut:=Ctx.slice ht;obtain⟨_,hvx,_⟩:=evT m hx (pu · _);have hry:=evT m hy (og · _ _);obtain⟨vs,ho,hxe,hone,hrep⟩:=(m.heap _ (Hp.mem_of hH)).2;have hsz:inf.size=es:=by rw [hs,hes]
 rw [<- hsz] at ho;have hcase:∃ v' w' us,(Builtin.append_ #[t,t] t2 #[e.η i,a.eval y]).run Γ.P w = .ok v' w'/\w'.ownsRow 0 te inf.size v' (xs.length+ys.length) (vs++us)/\w.grownBy w' (e.η i).ownBlock/\(∀ c,v'.ownBlock=some c->(e.η i).ownBlock=some c∨w.heap.size<=c) /\
   (∀ j (h:j<ys.length),(ys[j]'h).length=es)/\(∀ u∈us,u.oneCell'=true)/\∀ i' (hi:i'<ys.length) j (hj:j<(ys[i']'hi).length),∃ v,us[i'*es+j]?=some v/\RepC (Γ.X e H) w v ((ys[i']'hi)[j]'hj):=by
  obtain⟨ao,cap,hvy,_,_,hnone⟩:=hry.slice_inv;cases ao with
  | none =>
   have hys:=hnone rfl;subst hys;have hv0:a.eval y = .slice none 0 0:=by
    have hr:=hry;rw [hvy] at hr ⊢;cases hr;rfl
   rw [hv0];have hrun:=run_append_owned_none (P:=Γ.P) (w:=w) 0 t t2 te inf inf.size hut hi (e.η i) xs.length vs ho;exact⟨e.η i,w,[],hrun,by simpa using ho,⟨rfl,rfl,rfl,Af _,λ_ _ _=>rfl⟩,λc hc=>.inl hc,by simp,by simp,by simp⟩
  | some ad =>
   have hr:=hry;rw [hvy] at hr;obtain⟨hn,hye,us,u1,u2,u3,u4⟩:=sliceAddr hr;rw [hvy];obtain⟨v',w',r1,r2,r3,r4⟩:=append_own (P:=Γ.P) (ty:=t2) hut hi hzz (Ctx.zsize hzc hz hs) (by rw [hsz];exact Ac hpos) ho (c:=cap) (by rw [hsz];exact u1) u2 u3 h63 (by rw [hb];exact hroom);exact⟨v',w',us,r1,r2,r3,r4,hye,u3,u4⟩
 obtain⟨v',w',us,hrun,hown',hgr,hblk,hye,hone2,hrep2⟩:=hcase;have hop:(execOp a.eval ⟨some d,.call { callee:=.builtin .append,args:=#[x,y],argTypes:=#[t,t] },t2,pos,af,g⟩).run Γ.P w = .ok (.value v') w':=by
  simp only [execOp,resolve,invoke,builtin,Sem.run_bind,Sem.run_pure,Result.andThen_ok,List.map_toArray,List.map_cons,List.map_nil,hvx,hrun]
 unfold Oper.wp;rw [hop];have hη:(e.bindRow z v').η z=v':=if_pos rfl;have hl:=ho.1;have m2:=m.trade (hb:=.row te es (xs++ys)) hH hz' (e':=e.bindRow z v') (w':=w') (λi=>or_congr (m.top i) Iff.rfl) (e.bindRow_ext _ _ hze) hgr.size hgr.os hgr.tape hgr.output NoDr.any
  (λc hc hne=>hgr.block c hc (λh=>hne (by simp [HB.owned,h]))) (λc hc=>by simp only [HB.owned,hη] at hc;exact hblk c hc) (λhX=>by
   have hkeep:∀ b,b<w.heap.size->¬ Γ.X e H b->w'.heap[b]?=w.heap[b]?:=λb hb hx=>hgr.block b hb (λh=>hx (.inr (List.mem_filterMap.2 ⟨_,Hp.mem_of hH,by simp [HB.owned,h]⟩)))
   obtain⟨q1,q2⟩:=rows_append hxe hye (by rw [hl,hsz]) hrep hrep2;refine⟨vs++us,?_,q1,λv hv=>?_,λi' hi' j hj=>?_⟩
   ·rw [hη,List.length_append,<- hsz];exact hown'
   ·rcases List.mem_append.1 hv with hv|hv
    ·exact hone v hv
    ·exact hone2 v hv
   ·obtain⟨v,p1,p2⟩:=q2 i' hi' j hj;exact⟨v,p1,RepC.keep hgr.size hkeep hX p2⟩)
 exact⟨_,m2.put (s:=.row z) (v:=v') (Ac hd) ⟨.inr rfl,hη.symm,ownsRow_one hown'⟩⟩
end
section
variable {Γ : Ctx} {k : Nat} {L : Sl} {H : Hp} {K : ca} {ops : List Oper} {rest : List Oper} {a : Act} {w : World} {e : Env} {t t' ty : TypeId} {x y : Operand}
theorem dw_nilrow {Q:d6} {c:Code} {t:Nat} (te:TypeId) (es:Nat) (h:L.get t = .nils) (hk:DW Γ c Q (k+1) ((t,.row k)::L) ((k,.row te es [])::H)):DW Γ c Q k L H:=by
 intro e a w m;have hη:(e.bindRow k (.slice none 0 0)).η k = .slice none 0 0:=if_pos rfl;have m2:=(m.new (jf k) (hb:=.row te es []) (e':=e.bindRow k (.slice none 0 0)) (w':=w) (λi=>or_congr (m.top i) Iff.rfl) (e.bindRow_ext _ _ (λh=>jf k ((m.top k).1 h))) (Beld.refl _ _ _)
  (λb hb=>by simp [HB.owned,hη,Value.ownBlock] at hb) (λ_=>⟨[],by rw [hη];exact World.ownsRow_nil w 0 te es,by simp,by simp,by simp⟩)).cast (gv k)
 refine hk _ a w ⟨m2.toHeap,m2.defers,m2.len,λt'=>?_⟩;rw [Sl.get_cons];split
 ·rename_i ht;subst ht;have hs:=m.slot t;rw [h] at hs;refine⟨?_,?_⟩
  ·exact .inr rfl
  ·have hs:a.tmps.getD t undef = .slice none 0 0:=hs;exact⟨hs.trans hη.symm,by rw [hs];rfl⟩
 ·exact m2.slot t'
end
end
section
open Go Go.RowKit
variable [Bnds]
def cellEs (τ:List (Nat×TI)):Nat->TypeId->List Nat
 | 0,_=>[]
 | n+1,t=>match (aj τ t).sh with
  | .struct l=>l.flatMap λq=>cellEs τ n q.2.1
  | .slice te=>[(aj τ te).cells]
  | _=>[0]
def toD (es:Nat):SV->Option D
 | .d x=>some x
 | .nils=>some (.slice es [])
 | _=>none
def toDs:List Nat->List SV->Option (List D)
 | _,[]=>some []
 | [],_::_=>none
 | e::es,s::ss=>match toD e s,toDs es ss with
  | some x,some xs=>some (x::xs)
  | _,_=>none
def rowsOf (ces:List Nat) (es:Nat):Nat->List SV->Option (List (List D))
 | 0,_=>some []
 | n+1,ss=>match toDs ces (ss.take es),rowsOf ces es n (ss.drop es) with
  | some x,some xs=>some (x::xs)
  | _,_=>none
theorem toD_rel {X e w es} {s:SV} {v:Value} {x:D} (h:toD es s=some x) (hr:Rel X e w s v):RepC X w v x:=by
 cases s with
 | d y=>simp only [toD,Option.some.injEq] at h;subst h;exact hr
 | nils=>simp only [toD,Option.some.injEq] at h;subst h;cases hr;exact .nil
 | _=>simp [toD] at h
theorem toDs_rel {X e w}:∀ (es:List Nat) (ss:List SV) (vs:List Value) (xs:List D),toDs es ss=some xs->RelL X e w ss vs->xs.length=ss.length/\∀ j (hj:j<xs.length),∃ v,vs[j]?=some v/\RepC X w v (xs[j]'hj)
 | _,[],_,xs,h,_=>by simp only [toDs,Option.some.injEq] at h;subst h;exact⟨rfl,λj hj=>by simp at hj⟩
 | [],_::_,_,_,h,_=>by simp [toDs] at h
 | _::_,_::_,[],_,_,h=>h.elim
 | e'::es,s::ss,v::vs,xs,h,⟨h1,h2⟩=>by
  simp only [toDs] at h
  cases ha:toD e' s with
  | none=>simp [ha] at h
  | some x =>
   cases hb:toDs es ss with
   | none=>simp [ha,hb] at h
   | some ys =>
    simp only [ha,hb,Option.some.injEq] at h
    subst h
    obtain⟨g1,g2⟩:=toDs_rel es ss vs ys hb h2
    refine⟨by simp [g1],λj hj=>?_⟩
    cases j with
    | zero=>exact⟨v,rfl,toD_rel ha h1⟩
    | succ j=>simpa using g2 j (by simpa using hj)
theorem rowsOf_rel {X e w} {ces:List Nat} {es:Nat}:∀ (n:Nat) (ss:List SV) (vs:List Value) (xs:List (List D)),ss.length=n*es->rowsOf ces es n ss=some xs->RelL X e w ss vs->xs.length=n/\(∀ i (h:i<xs.length),(xs[i]'h).length=es) /\
  ∀ i (h:i<xs.length) j (hj:j<(xs[i]'h).length),∃ v,vs[i*es+j]?=some v/\RepC X w v ((xs[i]'h)[j]'hj)
 | 0,_,_,xs,_,h,_=>by simp only [rowsOf,Option.some.injEq] at h;subst h;exact⟨rfl,λi hi=>by simp at hi,λi hi=>by simp at hi⟩
 | n+1,ss,vs,xs,hl,h,hr=>by
  simp only [rowsOf] at h;cases ha:toDs ces (ss.take es) with
  | none=>simp [ha] at h
  | some x =>
   cases hb:rowsOf ces es n (ss.drop es) with
   | none=>simp [ha,hb] at h
   | some ys =>
    simp only [ha,hb,Option.some.injEq] at h;subst h;have hl':es<=ss.length:=by rw [hl,B4];omega
    obtain⟨g1,g2⟩:=toDs_rel ces _ _ x ha (RelL.take _ _ hr es);obtain⟨k1,k2,k3⟩:=rowsOf_rel n (ss.drop es) (vs.drop es) ys (by simp [hl,B4]) hb (RelL.drop _ _ hr es);have hxl:x.length=es:=by rw [g1,List.length_take];omega
    refine⟨by simp [k1],λi hi=>?_,λi hi j hj=>?_⟩
    ·cases i with
     | zero=>exact hxl
     | succ i=>exact k2 i (by simpa using hi)
    ·cases i with
     | zero =>
      obtain⟨v,p1,p2⟩:=g2 j hj;rw [Br] at p1;split at p1
      ·exact⟨v,by simpa using p1,p2⟩
      ·cases p1
     | succ i =>
      obtain⟨v,p1,p2⟩:=k3 i (by simpa using hi) j hj;refine⟨v,?_,p2⟩
      rw [List.getElem?_drop] at p1;rw [<- p1];congr 1;rw [B4];omega
def qt (z:List SV) (n:Nat):List SV:=(List.range n).map λi=>z.getD (i % z.length) .junk
section
variable {Γ : Ctx} {k : Nat -> Prop} {L : Sl} {H : Hp} {K : ca} {ops : List Oper} {rest : List Oper} {a : Act} {w : World} {e : Env} {t t' ty : TypeId} {x y : Operand}
theorem initSV_rel {X e w} {zs:List SV} {vs:Array Value} (hr:RelL X e w zs vs.toList) (h1:∀ v∈vs.toList,v.oneCell'=true) (n:Nat) (hpos:0<vs.size) :
  RelL X e w (qt zs n) ((Hj n).map (vs[· % vs.size]!)).toList/\∀ v∈((Hj n).map (vs[· % vs.size]!)).toList,v.oneCell'=true:=by
 have hl:=RelL.length _ _ hr;simp only [A4] at hl;have hget:∀ i,vs[i % vs.size]! = vs.toList[i % vs.size]'(by simpa using E8 _ hpos):=by
  intro i;have:=E8 i hpos
  simp [this]
 refine⟨RelL.mk _ _ (by simp [qt]) λi s v hs hv=>?_,λv hv=>?_⟩
 ·simp only [qt,Bl] at hs;simp only [G9,Gu,Bl] at hv;cases hri:(List.range n)[i]? with
  | none=>simp [hri] at hs
  | some q =>
   simp only [hri,Option.map_some,Option.some.injEq] at hs hv;have hq:=E8 q hpos;rw [<- hs,<- hv,hget,hl];obtain⟨v',p1,p2⟩:=RelL.get _ _ hr (q % vs.size) (zs[q % vs.size]'(by omega)) (by simp);rw [List.getD_eq_getElem?_getD,Ab (by omega)];rw [Ab (by simpa using hq)] at p1;cases p1;exact p2
 ·simp only [G9,Gu,List.mem_map] at hv;obtain⟨q,_,rfl⟩:=hv;rw [hget];exact h1 _ (List.getElem_mem _)
theorem m9 {te es len:Nat} {ps:List (Nat×Operand)} {cs':List SV} (ht:Γ.sh t = .slice te) (hkn:(Γ.sh te).known=true) (hes:Γ.cells te=es) (hpos:As 0 es=true) (hz:ek (aj Γ.τ te).zero=true) (hzl:Aw (aj Γ.τ te).zero.length (Γ.cells te)=true) (hok:jz ps=true)
  (hlen:B6 (len*es) 16777216=true) (hf:nk (λi=>some (i*es,es)) (qt (ly Γ.τ te) (len*es)) (jy L ps)=some cs') (m:Models Γ k L H e a w) :
  ∃ vs':Array Value,RelL (Γ.X e H) e w cs' vs'.toList/\(∀ v∈vs'.toList,v.oneCell'=true) /\
   ∀ (dst:Option Tmp) pos after guard,(execOp a.eval ⟨dst,.buildSlice t len ps.toArray,ty,pos,after,guard⟩).run Γ.P w = .ok (.value (.slice (some ⟨w.heap.size,0,none⟩) len len)) (w.alloc (.cells vs' te)):=by
 obtain⟨inf,z,hi,hzz,hs,hb,hzc⟩:=Ctx.info (Sh.known_ne hkn);obtain⟨g1,g2⟩:=fg (X:=Γ.X e H) (e:=e) (w:=w) _ hz;rw [<- hzc] at g1 g2;have hzs:z.cells.size=es:=by rw [<- A4,hzc,Aj hzl,hes]
 have hpos':=Ac hpos;have hzsv:ly Γ.τ te=z.cells.toList.map cSV:=by rw [ly,hzc]
 rw [hzsv] at hf;obtain⟨i1,i2⟩:=initSV_rel g1 g2 (len*es) (by rw [hzs];exact hpos');obtain⟨vs',f1,f2,f3⟩:=fill_rel _ _ _ _ cs' (xb m ps hok) i1 i2 hf;refine⟨vs',f2,f3,λdst pos after guard=>?_⟩
 have hle:=Ac hlen;have hse:inf.size=es:=by rw [hs,hes]
 simp only [execOp,Instr.buildSlice];have hbig:¬ (16777216<len*es):=by omega
 by_cases h0:len*es=0
 ·have:len=0:=by rcases Nat.mul_eq_zero.1 h0 with h|h;exact h;omega
  subst this;have e0:(Hj 0:Array Nat) = #[]:=rfl;have f1':Instr.fill (λi=>some (i*es,es)) #[] (List.map (λx=>(x.1,a.eval x.2)) ps)=some vs':=by
   rw [<- f1];simp [e0]
  simp [run_underlying (Ctx.slice ht),cw hi,hse,e0,f1',newRow]
 ·simp [run_underlying (Ctx.slice ht),cw hi,hse,hbig,h0,zeroValue,typeInfo,hi,hzz];rw [show (List.map (λx=>(x.1,a.eval x.2)) ps)=ps.map λp=>(p.1,a.eval p.2) from rfl,f1];simp [newRow]
theorem op_buildSlice2 {d te es len:Nat} {L2:Sl} {H2:Hp} (hs:∀ e a w,Models Γ k L H e a w->Models Γ k L2 H2 e a w/\Models Γ k L H2 e a w) {pos:String} {af:Array Edge} {g:Option (Nat×Bool)} {ps:List (Nat×Operand)} {cs':List SV} {xs:List (List D)} (ht:Γ.sh t = .slice te) (hkn:(Γ.sh te).known=true) (hes:Γ.cells te=es) (hpos:As 0 es=true) (hz:ek (aj Γ.τ te).zero=true) (hzl:Aw (aj Γ.τ te).zero.length (Γ.cells te)=true) (hok:jz ps=true)
  (hlen:B6 (len*es) 16777216=true) (hf:nk (λi=>some (i*es,es)) (qt (ly Γ.τ te) (len*es)) (jy L2 ps)=some cs') (hcl:Aw cs'.length (len*es)=true) (hxs:rowsOf (cellEs Γ.τ 4 te) es len cs'=some xs) (hd:As d Γ.n=true) :
  OpOk Γ ⟨some d,.buildSlice t len ps.toArray,ty,pos,af,g⟩ k L H k ((d,.d (.slice es xs))::L) H2:=by
 intro e a w Q m0;obtain⟨m,m3⟩:=hs e a w m0;obtain⟨vs',f2,f3,hrun⟩:=m9 (ty:=ty) ht hkn hes hpos hz hzl hok hlen hf m;unfold Oper.wp;rw [hrun];have hb:=fi Γ.dr w (.cells vs' te);obtain⟨k1,k2,k3⟩:=rowsOf_rel len cs' _ xs (Aj hcl) hxs f2;have hlen':xs.length<=maxLen:=by
  have h1:=Ac hlen;have h2:=Ac hpos;have:len<=len*es:=Nat.le_mul_of_pos_right _ h2
  unfold maxLen;omega
 have hrel:Rel (Γ.X e H2) e (w.alloc (.cells vs' te)) (.d (.slice es xs)) (.slice (some ⟨w.heap.size,0,none⟩) len len):=by
  refine .slice (λi j=>vs'.toList.getD (i*es+j) undef) k1.symm (Af _) (by rw [<- k1];exact hlen') (λhx=>?_) (by simp) k2 (λi hi j hj=>?_) (λi hi j hj=>?_) (λ_ i hi j hj=>k7 (heap_alloc_new w _))
  ·rcases hx with hx|hx
   ·have:=(m.obound _ hx).1;have:=m.size;omega
   ·have:=m.lt _ hx;omega
  ·obtain⟨v,p1,p2⟩:=k3 i hi j hj;rw [cell_of_row (w.alloc (.cells vs' te)) w.heap.size _ vs' te (0,0) (heap_alloc_new w _)];rw [Ce] at p1;simp [A9,p1]
  ·obtain⟨v,p1,p2⟩:=k3 i hi j hj;simp only [A9,p1,C4];exact RepC.keep hb.size (λb hb' _=>hb.block b hb') (λ_ _ h=>h) p2
 exact⟨e,(m3.below hb).put (Ac hd) hrel⟩
end
section
variable {Γ : Ctx} {k : Nat} {L : Sl} {H : Hp} {K : ca} {ops : List Oper} {rest : List Oper} {a : Act} {w : World} {e : Env} {t t' ty : TypeId} {x y : Operand}
end
end
section
open Go Go.RowKit
variable [Bnds]
section
variable {Γ : Ctx} {k : Nat -> Prop} {L : Sl} {H : Hp} {K : ca} {Q : d6} {ops : List Oper} {rest : List Oper} {a : Act} {w : World} {e : Env} {t t' ty : TypeId} {x y : Operand}
theorem Models.del (m:Models Γ k L H e a w) (i:Nat):Models Γ k L (Hp.del H i) e a w/\∀ b,Γ.X e (Hp.del H i) b->Γ.X e H b:=by
 have hd:=Hp.del_mem (i:=i) H m.ids;have hown:∀ b,b∈ae e (Hp.del H i)->b∈ae e H:=by
  intro b hb;obtain⟨p,hp,ho⟩:=List.mem_filterMap.1 hb;exact List.mem_filterMap.2 ⟨p,(hd p hp).1,ho⟩
 have hX:∀ b,Γ.X e (Hp.del H i) b->Γ.X e H b:=λb hx=>hx.imp id (hown b)
 refine⟨⟨⟨m.top,λp hp=>⟨(m.heap p (hd p hp).1).1,HRel.keep (Af _) (λ_ _ _=>rfl) (λb _ h=>hX b h) p (λ_ _=>rfl) (m.heap p (hd p hp).1).2⟩,Hp.del_ids H m.ids,
  gr _ H m.nodup _ (nb (Hp.del_ids H m.ids)) λp hp=>(hd p hp).1,λb hb=>m.mine b (hown b hb),m.os,m.tape,m.output,m.drawn,m.size,m.block,m.obound,m.tabs,m.jle,m.anchor⟩,m.defers,m.len,λt=>?_⟩,hX⟩
 exact Rel.keep (Af _) (λ_ _ _=>rfl) (λb _ h=>hX b h) _ _ (m.slot t)
theorem qk (m:Models Γ k L H e a w) {i es:Nat} {te:TypeId} {xs:List (List D)} (hH:Hp.get H i=some (.row te es xs)):RepC (Γ.X e (Hp.del H i)) w (e.η i) (.slice es xs):=by
 have hmem:=Hp.mem_of hH;obtain⟨vs,ho,hxe,hone,hrep⟩:=(m.heap _ hmem).2;obtain⟨m2,hX⟩:=m.del i;have hd:=Hp.del_mem (i:=i) H m.ids;rcases ho.2 with ⟨h1,h2⟩|⟨g,cap,cur,hv,_,hg,hnc,hcm,hcs,htake⟩
 ·have:xs=[]:=List.eq_nil_of_length_eq_zero h2
  subst this;rw [h1];exact .nil
 ·rw [hv];have hgm:HB.owned e (i,.row te es xs)=some g:=by simp [HB.owned,hv,Value.ownBlock]
  refine .slice (λi' j=>vs.getD (i'*es+j) undef) rfl hnc hcm (λhx=>?_) (Array.getElem?_eq_some_iff.1 hg).1 hxe (λi' hi j hj=>?_) (λi' hi j hj=>?_) (λ_ i' hi j hj=>k7 hg)
  ·rcases hx with hx|hx
   ·exact (m.mine g (List.mem_filterMap.2 ⟨_,hmem,hgm⟩)).2 hx
   ·obtain⟨p,hp,hpg⟩:=List.mem_filterMap.1 hx;exact m.owned_ne (hd p hp).1 hmem (hd p hp).2 hpg hgm
  ·obtain⟨v,p1,p2⟩:=hrep i' hi j hj;rw [cell_of_row w g _ cur te (0,0) hg];have:(cur.toList.take (xs.length*es))[i'*es+j]?=some v:=by rw [htake];exact p1
   rw [Br] at this;split at this
   ·rw [Ce] at this;rw [Nat.zero_add,this,A9,p1];rfl
   ·cases this
  ·obtain⟨v,p1,p2⟩:=hrep i' hi j hj;simp only [A9,p1,C4];exact RepC.keep (Af _) (λ_ _ _=>rfl) (λb _ h=>hX b h) p2
end
section
variable {Γ : Ctx} {k : Nat} {L : Sl} {H : Hp} {K : ca} {Q : d6} {ops : List Oper} {rest : List Oper} {a : Act} {w : World} {e : Env} {t t' ty : TypeId} {x y : Operand}
theorem dw_seal {c:Code} {i es:Nat} {te:TypeId} {xs:List (List D)} (t:Nat) (hL:L.get t = .row i) (hH:Hp.get H i=some (.row te es xs)) (hk:DW Γ c Q k ((t,.d (.slice es xs))::L) (Hp.del H i)):DW Γ c Q k L H:=by
 intro e a w m;obtain⟨m2,_⟩:=m.del i;refine hk e a w ⟨m2.toHeap,m2.defers,m2.len,λt'=>?_⟩;rw [Sl.get_cons];split
 ·rename_i ht;subst ht;have hs:=m.slot t;rw [hL] at hs;rw [hs.2.1];exact qk m hH
 ·exact m2.slot t'
theorem dw_nild {c:Code} (t es:Nat) (hL:L.get t = .nils) (hk:DW Γ c Q k ((t,.d (.slice es []))::L) H):DW Γ c Q k L H:=by
 intro e a w m;refine hk e a w ⟨m.toHeap,m.defers,m.len,λt'=>?_⟩;rw [Sl.get_cons];split
 ·rename_i ht;subst ht;have hs:=m.slot t;rw [hL] at hs;rw [hs];exact .nil
 ·exact m.slot t'
end
section
variable {Γ : Ctx} {k : Nat -> Prop} {L : Sl} {H : Hp} {K : ca} {Q : d6} {ops : List Oper} {rest : List Oper} {a : Act} {w : World} {e : Env} {t t' ty : TypeId} {x y : Operand}
theorem bw (a:Nat):(a:Int)+1=((a+1:Nat):Int):=rfl
theorem bg (a:Nat):(a:Int)+2=((a+2:Nat):Int):=rfl
theorem bx:(0:Int)=((0:Nat):Int):=rfl
theorem ev_conv_u8 {n:Int} {td:TypeId} (ht:Γ.sh t = .int .u8) (hd:Γ.sh td = .int .i64) (hx:ai L x = .d (.int .u8 n)) (hb:0<=n/\n<=255):Ev Γ k L H (.convert t td x) ty (.d (.int .i64 n)):=by
 intro e a w m;have h1:Γ.P.underlying t=some (.int .u8):=by
  obtain⟨u,inf,z,h1,_,_,h4,_⟩:=iq (Γ.ti (by rw [ht];intro h;cases h));rw [h1];have:nx Γ.P u = .int .u8:=h4▸ht
  cases u<;>simp [nx] at this ⊢
  exact this
 have h2:Γ.P.underlying td=some (.int .i64):=by
  obtain⟨u,inf,z,h1,_,_,h4,_⟩:=iq (Γ.ti (by rw [hd];intro h;cases h));rw [h1];have:nx Γ.P u = .int .i64:=h4▸hd
  cases u<;>simp [nx] at this ⊢
  exact this
 have hw:-9223372036854775808<=n/\n<=9223372036854775807:=by omega
 refine⟨.int .i64 n,λ_ _ _ _ w' _=>?_,.int (WalkArith.wf_i64 hw)⟩
 simp [execOp,Go.convert,evI m hx,run_underlying h1,run_underlying h2,Conv.intToInt,IntWalk.i64_in n hw]
end
section
variable {Γ : Ctx} {k : Nat} {L : Sl} {H : Hp} {K : ca} {Q : d6} {ops : List Oper} {rest : List Oper} {a : Act} {w : World} {e : Env} {t t' ty : TypeId} {x y : Operand}
end
end
section
open Go Go.RowKit
variable [Bnds]
mutual
def SV.rowsGe (J:Nat):SV->Bool
 | .row _=>true
 | .prow _ _ _ _=>true
 | .rsl _ _ _ _=>true
 | .rg _ _ _=>true
 | .fn _ caps=>SV.rowsGeL J caps
 | .agg ss=>SV.rowsGeL J ss
 | .tup ss=>SV.rowsGeL J ss
 | .junk=>true
 | .d _=>true
 | .nils=>true
 | .pd _=>true
 | .loc _ _=>true
 | .mp _=>true
 | .md _ _=>true
 | .sl _ _ _ _=>true
 | .val _=>true
def SV.rowsGeL (J:Nat):List SV->Bool
 | []=>true
 | s::ss=>SV.rowsGe J s && SV.rowsGeL J ss
end
def HB.rowsGe (J:Nat):Nat×HB->Bool
 | (_,.blk _ cs)=>SV.rowsGeL J cs
 | (_,.row _ _ _)=>true
 | (_,.map _ _)=>true
def Hp.rowsGe (J:Nat):Hp->Bool
 | []=>true
 | p::H=>HB.rowsGe J p && Hp.rowsGe J H
theorem Hp.rowsGe_spec {J:Nat}:∀ (H:Hp),Hp.rowsGe J H=true->∀ p∈H,HB.rowsGe J p=true
 | [],_,_,h=>by simp at h
 | q::H,h,p,hp=>by
  simp only [Hp.rowsGe,Ad] at h
  rcases List.mem_cons.1 hp with rfl|hp
  ·exact h.1
  ·exact Hp.rowsGe_spec H h.2 p hp
mutual
theorem Rel.back {X} {e' e'':Env} {w} {σ:Nat->Nat} {J k2:Nat} (hβ:∀ i,i<k2->e''.β (σ i)=e'.β i) (hη:∀ i,i<k2->e''.η (σ i)=e'.η i) (hσ:∀ i,i<k2->e''.dom (σ i)) (hk:∀ i,e'.dom i->i<k2) :
  ∀ (s:SV) (v:Value),s.rowsGe J=true->Rel X e' w s v->Rel X e'' w (s.ren σ) v
 | .junk,_,_,_=>trivial
 | .d _,_,_,h=>h
 | .nils,_,_,h=>h
 | .pd _,_,_,h=>h
 | .loc i _,_,_,h=>⟨hσ i (hk i h.1),by rw [hβ i (hk i h.1)];exact h.2⟩
 | .mp i,_,_,h=>⟨hσ i (hk i h.1),by rw [hβ i (hk i h.1)];exact h.2⟩
 | .md _ _,_,_,h=>h
 | .sl i _ _ _,_,_,h=>⟨hσ i (hk i h.1),by rw [hβ i (hk i h.1)];exact h.2⟩
 | .row i,_,hr,h=>⟨hσ i (hk i h.1),by rw [hη i (hk i h.1)];exact h.2⟩
 | .rsl i _ _ _,_,hr,h=>⟨hσ i (hk i h.1),by rw [hη i (hk i h.1)];exact h.2⟩
 | .rg _ _ _,_,_,h=>h
 | .prow i _ _ _,_,hr,h=>⟨hσ i (hk i h.1),by rw [hη i (hk i h.1)];exact h.2⟩
 | .fn _ caps,_,hr,⟨vs,h1,h2⟩=>⟨vs,h1,RelL.back hβ hη hσ hk caps vs hr h2⟩
 | .agg ss,_,hr,⟨vs,h1,h2⟩=>⟨vs,h1,RelL.back hβ hη hσ hk ss vs hr h2⟩
 | .tup ss,_,hr,⟨vs,h1,h2⟩=>⟨vs,h1,RelL.back hβ hη hσ hk ss vs hr h2⟩
 | .val _,_,_,h=>h
theorem RelL.back {X} {e' e'':Env} {w} {σ:Nat->Nat} {J k2:Nat} (hβ:∀ i,i<k2->e''.β (σ i)=e'.β i) (hη:∀ i,i<k2->e''.η (σ i)=e'.η i) (hσ:∀ i,i<k2->e''.dom (σ i)) (hk:∀ i,e'.dom i->i<k2) :
  ∀ (ss:List SV) (vs:List Value),SV.rowsGeL J ss=true->RelL X e' w ss vs->RelL X e'' w (SV.renL σ ss) vs
 | [],[],_,_=>trivial
 | [],_::_,_,h=>h.elim
 | _::_,[],_,h=>h.elim
 | s::ss,v::vs,hr,⟨h1,h2⟩=>by
  simp only [SV.rowsGeL,Ad] at hr
  exact⟨Rel.back hβ hη hσ hk s v hr.1 h1,RelL.back hβ hη hσ hk ss vs hr.2 h2⟩
end
def yg:Nat->List Nat->Bool
 | 0,_=>true
 | j+1,l=>(!notIn j l) && yg j l
theorem xg {i:Nat}:∀ {l:List Nat},notIn i l=false->i∈l
 | [],h=>by simp [notIn] at h
 | j::r,h=>by
  simp only [notIn,Bool.and_eq_false_iff,Bool.not_eq_false'] at h
  rcases h with h|h
  ·exact Aj h▸Ae ..
  ·exact Ah _ (xg h)
theorem n5 {i:Nat} {l:List Nat} (h:i ∉ l):notIn i l=true:=by
 cases hc:notIn i l with
 | true=>rfl
 | false=>exact absurd (xg hc) h
theorem rb {l:List Nat}:∀ (J:Nat),yg J l=true->∀ j,j<J->j∈l
 | 0,_,_,h=>by omega
 | J+1,h,j,hj=>by
  simp only [yg,Ad,Bool.not_eq_true'] at h;rcases Ed j J with h1|h1
  ·exact rb J h.2 j h1
  ·have:j=J:=by omega
   subst this;exact xg h.1
theorem ob {α β:Type} {f g:α->Option β}:∀ {l:List α},(∀ p∈l,f p=g p)->l.filterMap f=l.filterMap g
 | [],_=>rfl
 | x::l,h=>by
  rw [Bf,Bf,h x (Ae ..),ob λp hp=>h p (Ah _ hp)]
def ph (H:Hp) (ids:List Nat):Hp:=H.filter λp=>notIn p.1 ids
def sig (ρ:Nat->Nat) (J k:Nat) (i:Nat):Nat:=match As i J with|true=>ρ i|false=>k+i
theorem tq {ρ:Nat->Nat} {J k i:Nat} (h:i<J):sig ρ J k i=ρ i:=by
 unfold sig;rw [show As i J=true from Nat.ble_eq_true_of_le h]
theorem wj {ρ:Nat->Nat} {J k i:Nat} (h:J<=i):sig ρ J k i=k+i:=by
 unfold sig;cases hb:As i J with
 | true=>have:=Ac hb;omega
 | false=>rfl
section
variable {Γ : Ctx} {k : Nat} {L : Sl} {H : Hp} {K : ca} {ops : List Oper} {rest : List Oper} {a : Act} {w : World} {e : Env}
def CallsG (dr:Bool) (P:Program) (τ:List (Nat×TI)) (τok:dc P τ) (f:FuncId) (args:List SV) (J k:Nat) (H:Hp) (R:Ending->Value->Nat->SV->Hp->Prop):Prop :=
 ∀ (O:Nat->Prop) (e:Env) (w:World) (vs:List Value),
  Heap ⟨P,τ,τok,O,w,λb=>b∈ae e H,0,J,e.an,none,cy,true,dr⟩ k H e w->RelL (Ctx.X ⟨P,τ,τok,O,w,λb=>b∈ae e H,0,J,e.an,none,cy,true,dr⟩ e H) e w args vs ->
  Calls P f vs.toArray w (λen w'=>∃ k' r H' e' v,R en v k' r H'/\Heap ⟨P,τ,τok,O,w,λb=>b∈ae e H,0,J,e.an,none,cy,true,dr⟩ k' H' e' w' /\
   Rel (Ctx.X ⟨P,τ,τok,O,w,λb=>b∈ae e H,0,J,e.an,none,cy,true,dr⟩ e' H') e' w' r v)
theorem FnOk.g {dr:Bool} {P:Program} {τ:List (Nat×TI)} {τok:dc P τ} {f:FuncId} {args:List SV} {J k:Nat} {H:Hp} {R:Nat->SV->Hp->Prop} (h:FnOk dr P τ τok f args J k H R) :
  CallsG dr P τ τok f args J k H (λen v k' r H'=>R k' r H'/\en = .returned v) :=
 λO e w vs hH hr=>(h.2 O e w vs hH hr).mono λ_ _ ⟨k',r,H',e',v,h1,h2,h3,h4⟩=>⟨k',r,H',e',v,⟨h1,h2⟩,h3,h4⟩
theorem FnOkE.g {dr:Bool} {P:Program} {τ:List (Nat×TI)} {τok:dc P τ} {f:FuncId} {args:List SV} {J k:Nat} {H:Hp} {R:Nat->SV->Hp->Prop} {E:Value->Prop} (h:FnOkE dr P τ τok f args J k H R E) :
  CallsG dr P τ τok f args J k H (λen v k' r H'=>(R k' r H'/\en = .returned v)∨(E v/\en = .panicked [{ v,recovered:=false }]/\r = .junk/\H'=[])) :=
 λO e w vs hH hr=>(h.2 O e w vs hH hr).mono λ_ _ hx=>by
  rcases hx with ⟨k',r,H',e',v,h1,h2,h3,h4⟩|⟨v,k',e',h1,h2,h3⟩
  ·exact⟨k',r,H',e',v,.inl ⟨h1,h2⟩,h3,h4⟩
  ·exact⟨k',.junk,[],e',v,.inr ⟨h1,h2,rfl,rfl⟩,h3,trivial⟩
theorem CallsG.use {f:FuncId} {args:List SV} {J kc:Nat} {Hc:Hp} {R:Ending->Value->Nat->SV->Hp->Prop} (hc:CallsG Γ.dr Γ.P Γ.τ Γ.τok f args J kc Hc R) (ρ:Nat->Nat) (m:Models Γ k L H e a w) (hlA:SV.lowL kc args=true) (hKH:KnowsH ρ H Hc) (hl:Hp.low kc Hc=true)
  (hd:a7 (Hc.map λp=>ρ p.1)=true) (hd':a7 (Hc.map (·.1))=true) (hJ:B6 J kc=true) (hall:yg J (Hc.map (·.1))=true) (vs:List Value) (hr:RelL (Γ.X e H) e w (SV.renL ρ args) vs)
  (hRr:∀ en v k2 r H2,R en v k2 r H2->r.rowsGe J=true/\Hp.rowsGe J H2=true) :
  Calls Γ.P f vs.toArray w (λen w'=>∃ k2 r H2 v e'',R en v k2 r H2/\Models Γ (k+k2) L ((H2.map λp=>(sig ρ J k p.1,p.2.ren (sig ρ J k)))++ph H (Hc.map λp=>ρ p.1)) e'' a w' /\
   Rel (Γ.X e'' ((H2.map λp=>(sig ρ J k p.1,p.2.ren (sig ρ J k)))++ph H (Hc.map λp=>ρ p.1))) e'' w' (r.ren (sig ρ J k)) v):=by
 have hJ':=Ac hJ;have hmem:=KnowsH.mem Hc hKH;have hlow:=Hp.low_spec Hc hl;let ec:=e.ren ρ kc
 let rst:=ph H (Hc.map λp=>ρ p.1)
 have hrst:∀ p,p∈rst->p∈H/\p.1 ∉ Hc.map λq=>ρ q.1:=by
  intro p hp;obtain⟨h1,h2⟩:=List.mem_filter.1 hp;exact⟨h1,f7 _ _ h2⟩
 have hown:∀ b,b∈ae ec Hc->b∈ae e H:=by
  intro b hb;obtain⟨p,hp,ho⟩:=List.mem_filterMap.1 hb;exact List.mem_filterMap.2 ⟨_,hmem p hp,by rw [<- yu e ρ kc];exact ho⟩
 have hdis:∀ b,b∈ae ec Hc->b ∉ ae e rst:=by
  intro b hb hb2;obtain⟨p,hp,ho⟩:=List.mem_filterMap.1 hb;obtain⟨q,hq,hoq⟩:=List.mem_filterMap.1 hb2;obtain⟨hq1,hq2⟩:=hrst q hq;refine m.owned_ne (hmem p hp) hq1 (λhe=>hq2 ?_) (by rw [<- yu e ρ kc];exact ho) hoq;rw [<- he];exact List.mem_map.2 ⟨p,hp,rfl⟩
 have hrstown:∀ b,b∈ae e rst->b∈ae e H:=by
  intro b hb;obtain⟨q,hq,hoq⟩:=List.mem_filterMap.1 hb;exact List.mem_filterMap.2 ⟨q,(hrst q hq).1,hoq⟩
 let O':Nat->Prop:=λb=>Γ.O b∨b∈ae e rst
 let Γc:Ctx:=⟨Γ.P,Γ.τ,Γ.τok,O',w,λb=>b∈ae ec Hc,0,J,ec.an,none,cy,true,Γ.dr⟩
 have hXc:∀ b,Ctx.X Γc ec Hc b->Γ.X e H b:=by
  intro b hb;rcases hb with (hb|hb)|hb
  ·exact .inl hb
  ·exact .inr (hrstown b hb)
  ·exact .inr (hown b hb)
 have hHc:Heap Γc kc Hc ec w:=by
  refine⟨λ_=>Iff.rfl,λp hp=>⟨(hlow p hp).1,?_⟩,eh _ hd',?_,λb hb=>⟨.inl hb,λhO=>?_⟩,rfl,rfl,rfl,λ_=>Af _,Af _,λ_ _ _=>rfl,λb hO=>⟨?_,λhb=>?_⟩,m.tabsAt.sub hown,λj hj=>Aq hj hJ',λ_ _=>rfl⟩
  ·have hr':=(m.heap _ (hmem p hp)).2;have hbl:=(hlow p hp).2;obtain⟨i,b⟩:=p;cases b with
   | blk ty cs =>
    obtain⟨us,h1,h2,h3⟩:=hr';exact⟨us,h1,RelL.keep (Af _) (λ_ _ _=>rfl) (λb _ hy=>hXc b hy) _ _ (RelL.ren ρ kc cs us hbl h2),h3⟩
   | row ty es xs =>
    obtain⟨us,h1,h2,h3,h4⟩:=hr';refine⟨us,h1,h2,h3,λi hi j hj=>?_⟩
    obtain⟨v,g1,g2⟩:=h4 i hi j hj;exact⟨v,g1,RepC.keep (Af _) (λ_ _ _=>rfl) (λb _ hy=>hXc b hy) g2⟩
   | map kd kvs=>exact hr'
  ·rw [ownedL_ren];refine gr _ H m.nodup _ ?_ ?_
   ·have hn:=eh _ hd;refine List.Pairwise.of_map (f:=λp:Nat×HB=>p.1) (S:=(·≠·)) (λa b hab he=>hab (by rw [he])) ?_;simpa [D7,List.Nodup,Function.comp_def] using hn
   ·intro p hp;obtain⟨q,hq,rfl⟩:=List.mem_map.1 hp;exact hmem q hq
  ·rcases hO with hO|hO
   ·exact (m.mine b (hown b hb)).2 hO
   ·exact hdis b hb hO
  ·rcases hO with hO|hO
   ·exact Aq (m.obound b hO).1 m.size
   ·exact m.lt b (hrstown b hO)
  ·rcases hO with hO|hO
   ·exact (m.mine b (hown b hb)).2 hO
   ·exact hdis b hb hO
 refine (hc O' ec w vs hHc (RelL.keep (Af _) (λ_ _ _=>rfl) (λb _ hy=>hXc b hy) _ _ (RelL.ren ρ kc args vs hlA hr))).mono ?_;rintro en w' ⟨k2,r,H2,e',v,hR,hH2,hrel⟩;obtain⟨hr1,hr2⟩:=hRr en v k2 r H2 hR;have hrows:=Hp.rowsGe_spec H2 hr2;have hJ2:J<=k2:=by
  rcases Nat.eq_zero_or_pos J with h|h
  ·omega
  ·have:J-1<k2:=hH2.jle (J-1) (by show J-1<J;omega)
   omega
 have hdom2:∀ i,e'.dom i->i<k2:=λi hi=>(hH2.top i).1 hi
 let e'':Env:=⟨λi=>if i<k then e.β i else e'.β (i-k),λi=>if i<k then e.η i else e'.η (i-k),lo (k+k2)⟩
 have hρk:∀ j,j<J->ρ j<k:=by
  intro j hj;obtain⟨p,hp,hpj⟩:=List.mem_map.1 (rb J hall j hj);have:ρ p.1<k:=(m.top _).1 (m.heap _ (hmem p hp)).1
  rw [<- hpj];exact this
 have hβ:∀ i,i<k2->e''.β (sig ρ J k i)=e'.β i:=by
  intro i hi;rcases Ed i J with h|h
  ·rw [tq h];show (if ρ i<k then e.β (ρ i) else _)=_;rw [if_pos (hρk i h)];exact (Env.an_β (hH2.anchor i h)).symm
  ·rw [wj h];show (if k+i<k then _ else e'.β (k+i-k))=_;rw [if_neg (by omega),Fq]
 have hη:∀ i,i<k2->e''.η (sig ρ J k i)=e'.η i:=by
  intro i hi;rcases Ed i J with h|h
  ·rw [tq h];show (if ρ i<k then e.η (ρ i) else _)=_;rw [if_pos (hρk i h)];exact (Env.an_η (hH2.anchor i h)).symm
  ·rw [wj h];show (if k+i<k then _ else e'.η (k+i-k))=_;rw [if_neg (by omega),Fq]
 have hσ:∀ i,i<k2->e''.dom (sig ρ J k i):=by
  intro i hi;show _<k+k2;rcases Ed i J with h|h
  ·rw [tq h];have:=hρk i h;omega
  ·rw [wj h];omega
 have hext:∀ i,e.dom i->e''.β i=e.β i/\e''.η i=e.η i:=by
  intro i hi;have hi:i<k:=(m.top i).1 hi;exact⟨if_pos hi,if_pos hi⟩
 have hkk:∀ i,e.dom i->e''.dom i:=λi hi=>Aq ((m.top i).1 hi) (Ha _ _)
 have hlt:∀ p∈H,e.dom p.1:=λp hp=>(m.heap p hp).1
 have howned2:∀ p∈H2,HB.owned e'' (sig ρ J k p.1,p.2.ren (sig ρ J k))=HB.owned e' p:=by
  intro p hp;have hi:=hdom2 _ (hH2.heap p hp).1;have hrow:=hrows p hp;obtain⟨i,b⟩:=p;cases b with
  | blk ty cs=>show some (e''.β (sig ρ J k i))=some (e'.β i);rw [hβ i hi]
  | row ty es xs=>show (e''.η (sig ρ J k i)).ownBlock=(e'.η i).ownBlock;rw [hη i hi]
  | map kd kvs=>show some (e''.β (sig ρ J k i))=some (e'.β i);rw [hβ i hi]
 have hol1:ae e'' (H2.map λp=>(sig ρ J k p.1,p.2.ren (sig ρ J k)))=ae e' H2:=by
  unfold ae;rw [List.filterMap_map];exact ob λp hp=>howned2 p hp
 have hol2:ae e'' rst=ae e rst:=l7 hext rst λp hp=>hlt p (hrst p hp).1
 have holA:ae e'' ((H2.map λp=>(sig ρ J k p.1,p.2.ren (sig ρ J k)))++rst)=ae e' H2++ae e rst:=by
  unfold ae at *;rw [List.filterMap_append,hol1,hol2]
 have hE:∀ b,b∈ae e' H2->(b∈ae ec Hc∨w.heap.size<=b)/\¬ O' b:=λb hb=>hH2.mine b hb
 have hX'':∀ b,Γ.X e'' ((H2.map λp=>(sig ρ J k p.1,p.2.ren (sig ρ J k)))++rst) b↔Ctx.X Γc e' H2 b:=by
  intro b;unfold Ctx.X;rw [holA,List.mem_append];exact⟨λh=>h.elim (λh=>.inl (.inl h)) λh=>h.elim .inr λh=>.inl (.inr h),λh=>h.elim (λh=>h.elim .inl λh=>.inr (.inr h)) λh=>.inr (.inl h)⟩
 have hXold:∀ b,b<w.heap.size->Γ.X e'' ((H2.map λp=>(sig ρ J k p.1,p.2.ren (sig ρ J k)))++rst) b->Γ.X e H b:=by
  intro b hb hx;rcases (hX'' b).1 hx with (hx|hx)|hx
  ·exact .inl hx
  ·exact .inr (hrstown b hx)
  ·rcases (hE b hx).1 with h|h
   ·exact .inr (hown b h)
   ·omega
 have hblk:∀ b,b<w.heap.size->b ∉ ae ec Hc->w'.heap[b]?=w.heap[b]?:=λb hb hn=>hH2.block b hb hn
 have hkeep:∀ b,b<w.heap.size->¬ Γ.X e H b->w'.heap[b]?=w.heap[b]?:=λb hb hx=>hblk b hb λh=>hx (.inr (hown b h))
 have hres:Models Γ (k+k2) L ((H2.map λp=>(sig ρ J k p.1,p.2.ren (sig ρ J k)))++rst) e'' a w':=by
  refine⟨⟨λ_=>Iff.rfl,λp hp=>?_,?_,?_,λb hb=>?_,hH2.os.trans m.os,hH2.tape.trans m.tape,hH2.output.trans m.output,λhdr=>Ar (m.drawn hdr) (hH2.drawn hdr),Ar m.size hH2.size,λb h1 h2=>?_,m.obound,m.tabs,λj hj=>Aq (m.jle j hj) (Ha _ _),λj hj=>?_⟩,m.defers.keep λr hr=>hblk r (co hr) λho=>m.owned_mark hr (hown r ho),m.len,λt=>?_⟩
  ·rcases List.mem_append.1 hp with hp|hp
   ·obtain⟨q,hq,rfl⟩:=List.mem_map.1 hp;have hi:=hdom2 _ (hH2.heap q hq).1;refine⟨hσ _ hi,?_⟩
    have hrow:=hrows q hq;have hh:=(hH2.heap q hq).2;obtain⟨i,b⟩:=q;cases b with
    | blk ty cs =>
     obtain⟨us,h1,h2,h3⟩:=hh;refine⟨us,by show w'.heap[e''.β (sig ρ J k i)]?=_;rw [hβ i hi];exact h1,?_,h3⟩
     exact RelL.keep (Af _) (λ_ _ _=>rfl) (λb _ hy=>(hX'' b).1 hy) _ _ (RelL.back hβ hη hσ hdom2 cs us hrow h2)
    | row ty es xs =>
     obtain⟨us,h1,h2,h3,h4⟩:=hh;refine⟨us,by show w'.ownsRow 0 ty es (e''.η (sig ρ J k i)) _ us;rw [hη i hi];exact h1,h2,h3,λi' hi' j hj=>?_⟩
     obtain⟨v,g1,g2⟩:=h4 i' hi' j hj;exact⟨v,g1,RepC.keep (Af _) (λ_ _ _=>rfl) (λb _ hy=>(hX'' b).1 hy) g2⟩
    | map kd kvs=>show MapIs w' (e''.β (sig ρ J k i)) kd kvs;rw [hβ i hi];exact hh
   ·obtain⟨hp1,hp2⟩:=hrst p hp;refine⟨hkk _ (hlt p hp1),HRel.keep hH2.size hkeep hXold p (λb hb=>?_) (HRel.ext hkk hext p (hlt p hp1) (m.heap p hp1).2)⟩
    rw [yw hext p (hlt p hp1)] at hb;have hbm:b∈ae e rst:=List.mem_filterMap.2 ⟨p,hp,hb⟩;exact hblk b (m.lt b (hrstown b hbm)) λh=>hdis b h hbm
  ·rw [List.map_append,D7];refine List.nodup_append.2 ⟨?_,?_,?_⟩
   ·have h2:=hH2.ids;have hinj:∀ i j,i<k2->j<k2->sig ρ J k i=sig ρ J k j->i=j:=by
     intro i j hi hj hij;rcases Ed i J with h|h<;>rcases Ed j J with h'|h'
     ·rw [tq h,tq h'] at hij;have hn:=eh _ hd;have hin:∀ (l:List (Nat×HB)),(l.map λp=>ρ p.1).Nodup->∀ p q,p∈l->q∈l->ρ p.1=ρ q.1->p.1=q.1:=by
       intro l;induction l with
       | nil=>intro _ p q hp;simp at hp
       | cons x l ih =>
        intro hn p q hp hq hpq;obtain⟨n1,n2⟩:=List.nodup_cons.1 hn;rcases List.mem_cons.1 hp with hp1|hp1<;>rcases List.mem_cons.1 hq with hq1|hq1
        ·rw [hp1,hq1]
        ·exact absurd (show ρ x.1∈l.map λp=>ρ p.1 from List.mem_map.2 ⟨q,hq1,by rw [<- hpq,hp1]⟩) n1
        ·exact absurd (show ρ x.1∈l.map λp=>ρ p.1 from List.mem_map.2 ⟨p,hp1,by rw [hpq,hq1]⟩) n1
        ·exact ih n2 p q hp1 hq1 hpq
      obtain⟨p,hp,hpi⟩:=List.mem_map.1 (rb J hall i h);obtain⟨q,hq,hqj⟩:=List.mem_map.1 (rb J hall j h');rw [<- hpi,<- hqj];exact hin Hc hn p q hp hq (by rw [hpi,hqj];exact hij)
     ·rw [tq h,wj h'] at hij;have:=hρk i h;omega
     ·rw [wj h,tq h'] at hij;have:=hρk j h';omega
     ·rw [wj h,wj h'] at hij;omega
    have:∀ (l:Hp),(∀ p∈l,p.1<k2)->(l.map (·.1)).Nodup->(l.map ((λp:Nat×HB=>p.1) ∘ λp=>(sig ρ J k p.1,p.2.ren (sig ρ J k)))).Nodup:=by
     intro l;induction l with
     | nil=>intro _ _;simp
     | cons x l ih =>
      intro hb hn;obtain⟨n1,n2⟩:=List.nodup_cons.1 hn;refine List.nodup_cons.2 ⟨λhm=>?_,ih (λp hp=>hb p (Ah _ hp)) n2⟩;obtain⟨q,hq,hqx⟩:=List.mem_map.1 hm;have:=hinj q.1 x.1 (hb q (Ah _ hq)) (hb x (Ae ..)) hqx
      exact n1 (List.mem_map.2 ⟨q,hq,this⟩)
    exact this H2 (λp hp=>hdom2 _ (hH2.heap p hp).1) h2
   ·exact List.Nodup.sublist (List.Sublist.map _ Gp) m.ids
   ·intro i hi j hj hij;subst hij;obtain⟨p,hp,hpi⟩:=List.mem_map.1 hi;obtain⟨q,hq,hqi⟩:=List.mem_map.1 hj;obtain⟨hq1,hq2⟩:=hrst q hq;have hqk:q.1<k:=(m.top _).1 (hlt q hq1);have hpi':sig ρ J k p.1=i:=hpi;rcases Ed p.1 J with h|h
    ·rw [tq h] at hpi';obtain⟨p',hp',hpp⟩:=List.mem_map.1 (rb J hall p.1 h);exact hq2 (List.mem_map.2 ⟨p',hp',by rw [hpp,hpi',hqi]⟩)
    ·rw [wj h] at hpi';omega
  ·rw [holA];refine List.nodup_append.2 ⟨hH2.nodup,?_,λb hb c hc hbc=>?_⟩
   ·exact gr _ H m.nodup _ (List.Nodup.sublist Gp (nb m.ids)) λp hp=>(hrst p hp).1
   ·subst hbc;exact (hE b hb).2 (.inr hc)
  ·rw [holA] at hb;rcases List.mem_append.1 hb with hb|hb
   ·obtain⟨h1,h2⟩:=hE b hb;refine⟨?_,λhO=>h2 (.inl hO)⟩
    rcases h1 with h1|h1
    ·exact (m.mine b (hown b h1)).1
    ·exact .inr (Ar m.size h1)
   ·exact m.mine b (hrstown b hb)
  ·refine (hblk b (Aq h1 m.size) λh=>?_).trans (m.block b h1 h2);rcases (m.mine b (hown b h)).1 with h3|h3
   ·exact h2 h3
   ·omega
  ·exact (Env.an_ext ⟨if_pos (m.jle j hj),if_pos (m.jle j hj)⟩).trans (m.anchor j hj)
  ·exact Rel.keep hH2.size hkeep hXold _ _ (Rel.ext hkk hext _ _ (m.slot t))
 exact⟨k2,r,H2,v,e'',hR,hres,Rel.keep (Af _) (λ_ _ _=>rfl) (λb _ hy=>(hX'' b).1 hy) _ _ (Rel.back hβ hη hσ hdom2 r v hr1 hrel)⟩
theorem FnOk.use {f:FuncId} {args:List SV} {J kc:Nat} {Hc:Hp} {R:Nat->SV->Hp->Prop} (hc:FnOk Γ.dr Γ.P Γ.τ Γ.τok f args J kc Hc R) (ρ:Nat->Nat) (m:Models Γ k L H e a w) (hlA:SV.lowL kc args=true) (hKH:KnowsH ρ H Hc) (hl:Hp.low kc Hc=true)
  (hd:a7 (Hc.map λp=>ρ p.1)=true) (hd':a7 (Hc.map (·.1))=true) (hJ:B6 J kc=true) (hall:yg J (Hc.map (·.1))=true) (vs:List Value) (hr:RelL (Γ.X e H) e w (SV.renL ρ args) vs)
  (hRr:∀ k2 r H2,R k2 r H2->r.rowsGe J=true/\Hp.rowsGe J H2=true) :
  Calls Γ.P f vs.toArray w (λen w'=>∃ k2 r H2 v e'',R k2 r H2/\en = .returned v/\Models Γ (k+k2) L ((H2.map λp=>(sig ρ J k p.1,p.2.ren (sig ρ J k)))++ph H (Hc.map λp=>ρ p.1)) e'' a w' /\
   Rel (Γ.X e'' ((H2.map λp=>(sig ρ J k p.1,p.2.ren (sig ρ J k)))++ph H (Hc.map λp=>ρ p.1))) e'' w' (r.ren (sig ρ J k)) v):=by
 exact (hc.g.use ρ m hlA hKH hl hd hd' hJ hall vs hr λ_ _ k2 r H2 h=>hRr k2 r H2 h.1).mono λen w' ⟨k2,r,H2,v,e'',h,h1,h2⟩=>⟨k2,r,H2,v,e'',h.1,h.2,h1,h2⟩
end
end
section
open Go Go.RowKit
variable [Bnds]
def SV.sure:SV->Option Value
 | .d (.int k n)=>some (.int k n)
 | .d (.bool b)=>some (.bool b)
 | .d (.str s)=>some (.string s)
 | _=>none
section
variable {Γ : Ctx} {k : Nat} {L : Sl} {H : Hp} {K : ca} {ops : List Oper} {rest : List Oper} {a : Act} {w : World} {e : Env}
theorem ds_callO {f:FuncId} {xs:List Operand} {ts:Array TypeId} {ty:TypeId} {pos:String} {af:Array Edge} {g:Option (Nat×Bool)} {d:Nat} {args:List SV} {J kc:Nat} {Hc:Hp} {R:Nat->SV->Hp->Prop} (ρ:Nat->Nat)
  (hc:FnOk Γ.dr Γ.P Γ.τ Γ.τok f args J kc Hc R) (hw:aq ops L g=some true) (ha:mz L xs=SV.renL ρ args) (hok:dy xs=true) (hlA:SV.lowL kc args=true) (hKH:KnowsH ρ H Hc) (hl:Hp.low kc Hc=true)
  (hd:a7 (Hc.map λp=>ρ p.1)=true) (hd':a7 (Hc.map (·.1))=true) (hJ:B6 J kc=true) (hall:yg J (Hc.map (·.1))=true) (hdn:As d Γ.n=true)
  (hRr:∀ k2 r H2,R k2 r H2->r.rowsGe J=true/\Hp.rowsGe J H2=true)
  (hk:∀ k2 r H2,R k2 r H2->DS false Γ ops rest K (k+k2) ((d,r.ren (sig ρ J k))::L) ((H2.map λp=>(sig ρ J k p.1,p.2.ren (sig ρ J k)))++ph H (Hc.map λp=>ρ p.1))) :
  DS false Γ ops (⟨some d,.call { callee:=.value (.func f),args:=xs.toArray,argTypes:=ts },ty,pos,af,g⟩::rest) K k L H:=by
 refine jk hw λe a w m=>?_
 unfold Oper.wp;rw [jc hc.1];rw [Oper.upon_enter];refine (hc.use ρ m hlA hKH hl hd hd' hJ hall _ (ha▸e7 m xs hok) hRr).mono ?_;rintro en w' ⟨k2,r,H2,v,e'',hR,rfl,hm,hrel⟩;exact⟨_,_,_,e'',hm.put (Ac hdn) hrel,hk k2 r H2 hR⟩
theorem sd {P:Program} {f:FuncId} (hc:d9 P f=true) (a:Act) (x:Operand) (us:List Value) (hx:a.eval x = .func (.func f) #[] us.toArray) (xs:List Operand) (ts:Array TypeId) (dst:Option Tmp) (ty:TypeId) (pos) (after) (guard) (w:World) :
  (execOp a.eval ⟨dst,.call { callee:=.value x,args:=xs.toArray,argTypes:=ts },ty,pos,after,guard⟩).run P w = .ok (.enter f (xs.map a.eval++us).toArray) w:=by
 simp only [execOp,resolve];simp [hx,Deferred.ofValue,invoke,wx hc]
theorem jp {f:FuncId} {x:Operand} {caps:List SV} {xs:List Operand} {ts:Array TypeId} {ty:TypeId} {pos:String} {af:Array Edge} {g:Option (Nat×Bool)} {d:Nat} {args:List SV} {R:SV->Prop}
  (hx:ai L x = .fn f caps) (hxo:de x=true) (hw:aq ops L g=some true) (ha:mz L xs++caps=args) (hc:FnP Γ.dr Γ.P Γ.τ Γ.τok f args R) (hok:dy xs=true) (hlow:SV.lowL 0 args=true) (hd:As d Γ.n=true)
  (hk:∀ r,R r->DS false Γ ops rest K k ((d,r)::L) H) :
  DS false Γ ops (⟨some d,.call { callee:=.value x,args:=xs.toArray,argTypes:=ts },ty,pos,af,g⟩::rest) K k L H:=by
 refine jk hw λe a w m=>?_
 have hr:=m.op x (b7 hxo);rw [hx] at hr;obtain⟨us,hu,hru⟩:=hr;unfold Oper.wp;rw [sd hc.1 a x us hu];rw [Oper.upon_enter];refine (hc.use (τ:=Γ.τ) (τok:=Γ.τok) (Γ:=Γ) m hlow _ (ha▸RelL.append _ _ _ _ (e7 m xs hok) hru)).mono ?_;rintro en w' ⟨r,v,hR,rfl,hb,hlr,hrel⟩;exact⟨k,_,H,e,(m.below hb).put (Ac hd) (Rel.keep (Af _) (λ_ _ _=>rfl) (λ_ _ hy=>hy) _ _ hrel),hk r hR⟩
theorem ds_callVO {f:FuncId} {x:Operand} {caps:List SV} {xs:List Operand} {ts:Array TypeId} {ty:TypeId} {pos:String} {af:Array Edge} {g:Option (Nat×Bool)} {d:Nat} {args:List SV} {J kc:Nat} {Hc:Hp} {R:Nat->SV->Hp->Prop} (ρ:Nat->Nat)
  (hc:FnOk Γ.dr Γ.P Γ.τ Γ.τok f args J kc Hc R) (hx:ai L x = .fn f caps) (hxo:de x=true) (hw:aq ops L g=some true) (ha:mz L xs++caps=SV.renL ρ args) (hok:dy xs=true) (hlA:SV.lowL kc args=true) (hKH:KnowsH ρ H Hc) (hl:Hp.low kc Hc=true)
  (hd:a7 (Hc.map λp=>ρ p.1)=true) (hd':a7 (Hc.map (·.1))=true) (hJ:B6 J kc=true) (hall:yg J (Hc.map (·.1))=true) (hdn:As d Γ.n=true)
  (hRr:∀ k2 r H2,R k2 r H2->r.rowsGe J=true/\Hp.rowsGe J H2=true)
  (hk:∀ k2 r H2,R k2 r H2->DS false Γ ops rest K (k+k2) ((d,r.ren (sig ρ J k))::L) ((H2.map λp=>(sig ρ J k p.1,p.2.ren (sig ρ J k)))++ph H (Hc.map λp=>ρ p.1))) :
  DS false Γ ops (⟨some d,.call { callee:=.value x,args:=xs.toArray,argTypes:=ts },ty,pos,af,g⟩::rest) K k L H:=by
 refine jk hw λe a w m=>?_
 have hr:=m.op x (b7 hxo);rw [hx] at hr;obtain⟨us,hu,hru⟩:=hr;unfold Oper.wp;rw [sd hc.1 a x us hu];rw [Oper.upon_enter];refine (hc.use ρ m hlA hKH hl hd hd' hJ hall _ (ha▸RelL.append _ _ _ _ (e7 m xs hok) hru) hRr).mono ?_;rintro en w' ⟨k2,r,H2,v,e'',hR,rfl,hm,hrel⟩;exact⟨_,_,_,e'',hm.put (Ac hdn) hrel,hk k2 r H2 hR⟩
end
end
section
open Go Go.RowKit
variable [Bnds]
section
variable {Γ : Ctx} {k : Nat} {L : Sl} {H : Hp} {K : ca} {ops : List Oper} {rest : List Oper} {a : Act} {w : World} {e : Env}
end
section
variable {Γ : Ctx} {k : Nat -> Prop} {L : Sl} {H : Hp} {K : ca} {ops : List Oper} {rest : List Oper} {a : Act} {w : World} {e : Env}
theorem ev_indexByte {f : FuncId} {fn : Func} {x y : Operand} {ts : Array TypeId} {ty : TypeId} {s : ByteArray} {c : Int} (hf : Γ.P.funcs[f]?=some fn) (hname : (fn.name == "runtime.NumGoroutine")=false)
  (hb:fn.body.isNone=true) (hn:Extern.findNext fn=none) (he:Extern.find fn=some Extern.BytealgIndexByte.indexByte)
  (hx:ai L x = .d (.str s)) (hxo:de x=true) (hy:ai L y = .d (.int .u8 c)):Ev Γ k L H (.call { callee:=.value (.func f),args:=#[x,y],argTypes:=ts }) ty (.d (.int .i64 (firstIdx s c.toNat.toUInt8))):=by
 intro e a w m;have hs:s.size<=maxLen:=by
  have hr:=m.op x (b7 hxo);rw [hx] at hr;generalize a.eval x=v at hr;cases hr;assumption
 refine⟨.int .i64 (firstIdx s c.toNat.toUInt8),λdst pos after guard w' _=>?_,.int ?_⟩
 ·have h:=run_callFunc_extern (P:=Γ.P) hf hname hb hn he #[.string s,.int .u8 c] w';rw [run_indexByte_string] at h;simp [execOp,resolve,Deferred.ofValue,invoke,evS m hx,evI m hy];exact h
 ·unfold firstIdx;have hm:maxLen=9223372036854775807:=rfl;split
  ·rename_i i hi;have:=List.mem_of_find?_eq_some hi
   rw [List.mem_range] at this;exact WalkArith.wf_i64 (by omega)
  ·rfl
theorem ev_makeFunc {f:FuncId} {xs:List Operand} {caps:List SV} {ty:TypeId} (ha:mz L xs=caps) (hok:dy xs=true):Ev Γ k L H (.makeFunc (.func f) #[] xs.toArray) ty (.fn f caps):=by
 intro e a w m;refine⟨.func (.func f) #[] (xs.map a.eval).toArray,λ_ _ _ _ w' _=>?_,⟨_,rfl,ha▸e7 m xs hok⟩⟩
 simp [execOp,Instr.makeFunc]
end
end
end Go.Proofs.YtapciiffpnociadGreat
