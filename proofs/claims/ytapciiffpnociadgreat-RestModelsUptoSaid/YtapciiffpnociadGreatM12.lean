/- Several texts in one: GxVew RelK RelU MoP ScoA TokT TokU TokV TokW TokX TokY TokZ TokA TokB. Condition: none. -/
import Derived.Test.YtapciiffpnociadGreatM11
import Derived.Test.YtapciiffpnociadGreatM10
set_option linter.all false
set_option maxHeartbeats 8000000
open Array renaming length_toList→A4
open Bool renaming false_ne_true→C0,not_eq_true→Dj
open List renaming append_assoc→Bt,append_nil→B0,cons_append→Cd,drop_eq_nil_of_le→F6,ext_getElem?→Dz,flatten_cons→C7,getElem?_append_left→Bi,getElem?_append_right→A8,getElem?_eq_getElem→Ab,getElem?_eq_none→Ba,getElem?_take→Br,getElem_replicate→F5,getElem_take→D1,length_append→Ap,length_cons→Bn,length_drop→B9,length_map→Aa,length_nil→Di,length_replicate→Ci,length_set→A3,length_take→Au,mem_append→Bq,mem_append_left→A0,mem_cons→Be,mem_cons_of_mem→Ah,mem_cons_self→Ae,mem_of_mem_drop→Bv,mem_of_mem_take→B1,replicate→An,replicate_succ→Gq,take_append_of_le_length→Cc,take_of_length_le→Ak,take_succ_eq_append_getElem→Am
open Nat renaming add_mul→B4,le_refl→Af,min_eq_left→Gh,mul_le_mul_right→Bc
namespace Go.Proofs.YtapciiffpnociadGreat
open Go Go.RowKit
variable [Bnds]
section
variable {Γ : Ctx} {k : Nat} {L : Sl} {H H' : Hp} {Q : d6} {c : Code}
theorem ent_cut {i es n:Nat} {te:TypeId} {xs:List (List D)} (t:Nat) (hL:L.get t = .rsl i es 0 n) (hH:Hp.get H i=some (.row te es xs)) (hn:n<=xs.length) (hD:delF H i some=some H') :
  Ent Γ k L H (k+1) ((t,.row k)::L) ((k,.row te es (xs.take n))::H'):=by
 rw [pt] at hD;cases hD;intro e a w m;have hs:=m.slot t;rw [hL] at hs;obtain⟨hd,hone,hcase⟩:=hs;have hze:¬ e.dom k:=λh=>jf k ((m.top k).1 h)
 obtain⟨vs,ho,hes,hone2,hrep⟩:=(m.heap _ (Hp.mem_of hH)).2;generalize hv:a.tmps.getD t undef=v at hone hcase;have hηk:(e.bindRow k v).η k=v:=if_pos rfl;have hlen:(xs.take n).length=n:=by rw [Au];omega
 have hown:w.ownsRow 0 te es v n (vs.take (n*es))/\v.ownBlock=(e.η i).ownBlock:=by
  have hvl:(vs.take (n*es)).length=n*es:=by rw [Au,ho.1];exact Gh (Bc _ hn)
  rcases hcase with ⟨hη,rfl,_,rfl⟩|⟨g,n0,cap,o,hη,_,hmx,hnc,rfl,hoo⟩
  ·exact⟨⟨hvl,.inl ⟨rfl,rfl⟩⟩,by rw [hη]⟩
  ·have h0:=hoo (.inr rfl);rw [Nat.zero_mul] at h0;subst h0;rcases ho.2 with ⟨hη2,_⟩|⟨g',cap',cur,hη2,hb,hh,h1,h2,h3,h4⟩
   ·rw [hη] at hη2;cases hη2
   ·rw [hη] at hη2;cases hη2;refine⟨⟨hvl,.inr ⟨g,cap,cur,by simp,hb,hh,by omega,h2,h3,?_⟩⟩,by rw [hη];rfl⟩
    rw [<- h4,List.take_take,Gh (Bc _ hn)]
 have m2:=m.trade (hb:=.row te es (xs.take n)) hH (jf k) (e':=e.bindRow k v) (w':=w) (λi=>or_congr (m.top i) Iff.rfl) (e.bindRow_ext _ _ hze) (Af _) rfl rfl rfl (λ_=>Af _)
  (λ_ _ _=>rfl) (λc hc=>by simp only [HB.owned,hηk] at hc;exact .inl (by simp only [HB.owned];rw [<- hown.2];exact hc)) (λhX=>by
   refine⟨vs.take (n*es),by rw [hηk,hlen];exact hown.1,λj hj=>?_,λu hu=>hone2 u (B1 hu),λj hj q hq=>?_⟩
   ·rw [D1];exact hes j _
   ·have hj':j<n:=by omega
    have hx:(xs.take n)[j]=xs[j]'(by omega):=D1;have hq':q<(xs[j]'(by omega)).length:=by rw [<- hx];exact hq
    obtain⟨u,p1,p2⟩:=hrep j (by omega) q hq';have hqe:q<es:=by rw [<- hes j (by omega)];exact hq'
    refine⟨u,?_,?_⟩
    ·rw [Br,if_pos,p1];have:(j+1)*es<=n*es:=Bc _ hj'
     rw [B4,Nat.one_mul] at this;omega
    ·have p3:RepC (Γ.X e H) w u ((xs.take n)[j][q]):=by simpa [hx] using p2
     exact RepC.keep (Af _) (λ_ _ _=>rfl) hX p3)
 have m3:=m2.cast (gv k);refine⟨_,⟨m3.toHeap,m3.defers,m3.len,λt'=>?_⟩⟩
 rw [Sl.get_cons];split
 ·rename_i ht;subst ht;rw [hv];exact⟨.inr rfl,hηk.symm,hone⟩
 ·exact m3.slot t'
end
section
variable {Γ : Ctx} {kk : Nat -> Prop} {L : Sl} {H : Hp} {a : Act} {w : World} {e : Env}
theorem uf {α:Type} (xs ys:List α) (j p:Nat) (h:j+ys.length<=xs.length):(xs.take j++ys++xs.drop (j+ys.length))[p]?=if p<j then xs[p]? else if p<j+ys.length then ys[p-j]? else xs[p]?:=by
 have h1:(xs.take j).length=j:=by rw [Au];omega
 by_cases hp:p<j
 ·rw [if_pos hp,Bt,Bi (by omega),Br,if_pos hp]
 ·rw [if_neg hp];by_cases hq:p<j+ys.length
  ·rw [if_pos hq,Bt,A8 (by omega),h1,Bi (by omega)]
  ·rw [if_neg hq,A8 (by rw [Ap];omega),Ap,h1,List.getElem?_drop];congr 1;omega
theorem row_write (m:Models Γ kk L H e a w) {i es j g0 n0 cap:Nat} {tb:TypeId} {xs ys:List (List D)} {N:List Value} {cur:Array Value} (hH:Hp.get H i=some (.row tb es xs)) (hj:j+ys.length<=xs.length)
  (hN:N.length=ys.length*es) (hyl:∀ p (hp:p<ys.length),(ys[p]'hp).length=es) (h1:∀ v∈N,v.oneCell'=true) (hr:∀ p (hp:p<ys.length) q (hq:q<(ys[p]'hp).length),∃ v,N[p*es+q]?=some v/\RepC (Γ.X e H) w v ((ys[p]'hp)[q]'hq))
  (hη:e.η i = .slice (some ⟨g0,0,none⟩) n0 cap) (hg:w.heap[g0]?=some (.cells cur tb (0,0))) :
  j*es+N.length<=cur.size/\Models Γ kk L (Hp.set H i (.row tb es (xs.take j++ys++xs.drop (j+ys.length)))) e a (w.setRow g0 (cur.toList.take (j*es)++N++cur.toList.drop (j*es+N.length)).toArray):=by
 have hmem:=Hp.mem_of hH;obtain⟨vs,ho,hes,hone,hrep⟩:=(m.heap _ hmem).2;rcases ho.2 with ⟨h2,_⟩|⟨g',cap',cur',h2,hb0,hg',hnc,hcm,hcs,htake⟩
 ·rw [hη] at h2;cases h2
 rw [hη] at h2;cases h2;rw [hg] at hg';cases hg';have hlen:vs.length=xs.length*es:=ho.1;have hjr:j*es+N.length<=xs.length*es:=by rw [hN,<- B4];exact Bc _ hj
 have hcl:xs.length*es<=cur.size:=by rw [hcs];exact Bc _ hnc
 have hown:∀ zs,HB.owned e (i,.row tb es zs)=some g0:=λzs=>by simp [HB.owned,hη,Value.ownBlock]
 have hxl:(xs.take j++ys++xs.drop (j+ys.length)).length=xs.length:=by simp only [Ap,Au,B9];omega
 refine⟨by omega,m.turn (b':=.row tb es (xs.take j++ys++xs.drop (j+ys.length))) hH ?_ rfl rfl rfl (λ_=>Af _) (λc _ hc=>setRow_other w _ c _ (λh=>hc (by rw [hown,h]))) (by rw [hown,hown]) ?_⟩
 ·simp [World.setRow]
 ·have hgo:(w.setRow g0 (cur.toList.take (j*es)++N++cur.toList.drop (j*es+N.length)).toArray).heap[g0]?=some (.cells (cur.toList.take (j*es)++N++cur.toList.drop (j*es+N.length)).toArray tb (0,0)):=setRow_heap w g0 cur _ tb (0,0) hg;have hkeep:∀ b,b<w.heap.size->¬ Γ.X e H b->(w.setRow g0 (cur.toList.take (j*es)++N++cur.toList.drop (j*es+N.length)).toArray).heap[b]?=w.heap[b]?:=λb _ hb=>setRow_other w _ b _ (λh=>hb (.inr (List.mem_filterMap.2 ⟨_,hmem,by rw [hown,h]⟩)))
  refine⟨vs.take (j*es)++N++vs.drop (j*es+N.length),⟨?_,.inr ⟨g0,cap,_,?_,hb0,hgo,?_,hcm,?_,?_⟩⟩,λp hp=>?_,λv hv=>?_,λp hp q hq=>?_⟩
  ·rw [hxl];simp only [Ap,Au,B9];omega
  ·rw [hxl];exact hη
  ·rw [hxl];exact hnc
  ·rw [<- hcs];simp only [List.size_toArray,Ap,Au,B9,A4];omega
  ·rw [hxl];apply Dz;intro p;rw [Br];by_cases hp':p<xs.length*es
   ·have hcv:cur.toList[p]?=vs[p]?:=by rw [<- htake,Br,if_pos hp']
    rw [if_pos hp',uf _ _ _ _ (by have:=A4 (xs:=cur);omega),uf _ _ _ _ (by omega),hcv]
   ·rw [if_neg hp',Ba (by
     have:vs.length<=p:=by omega
     have h9:(vs.take (j*es)++N++vs.drop (j*es+N.length)).length=vs.length:=by simp only [Ap,Au,B9];omega
     omega)]
  ·have hgt:=uf xs ys j p hj;rw [Ab hp] at hgt;split at hgt
   ·obtain⟨h3,h4⟩:=List.getElem?_eq_some_iff.1 hgt.symm;rw [<- h4];exact hes p h3
   ·split at hgt
    ·obtain⟨h3,h4⟩:=List.getElem?_eq_some_iff.1 hgt.symm;rw [<- h4];exact hyl _ h3
    ·obtain⟨h3,h4⟩:=List.getElem?_eq_some_iff.1 hgt.symm;rw [<- h4];exact hes p h3
  ·simp only [Bq] at hv;rcases hv with (hv|hv)|hv
   ·exact hone v (B1 hv)
   ·exact h1 v hv
   ·exact hone v (Bv hv)
  ·have hgt:=uf xs ys j p hj;rw [Ab hp] at hgt;have hpx:p<xs.length:=by omega
   generalize hz:(xs.take j++ys++xs.drop (j+ys.length))[p]=z at hgt hq;have key:∀ {v:Value} {x:D},RepC (Γ.X e H) w v x->RepC (Γ.X e H) (w.setRow g0 (cur.toList.take (j*es)++N++cur.toList.drop (j*es+N.length)).toArray) v x:=λh=>RepC.keep (by simp [World.setRow]) hkeep (λ_ _ h=>h) h
   have hle:∀ c,p<c->q<es->p*es+q<c*es:=λc hc hqe=>by
    have:(p+1)*es<=c*es:=Bc _ hc
    rw [B4] at this;omega
   split at hgt
   ·rename_i hpj;obtain⟨h3,h4⟩:=List.getElem?_eq_some_iff.1 hgt.symm;subst h4;obtain⟨v,p1,p2⟩:=hrep p h3 q hq;have hqe:q<es:=by rw [<- hes p h3];exact hq
    exact⟨v,by rw [uf _ _ _ _ (by omega),if_pos (hle j hpj hqe)];exact p1,key p2⟩
   ·rename_i hpj;split at hgt
    ·rename_i hpy;obtain⟨h3,h4⟩:=List.getElem?_eq_some_iff.1 hgt.symm;subst h4;obtain⟨v,p1,p2⟩:=hr (p-j) h3 q hq;have hqe:q<es:=by rw [<- hyl (p-j) h3];exact hq
     have e1:p*es=j*es+(p-j)*es:=by rw [<- B4];congr 1;omega
     have e2:(p-j)*es+q<N.length:=by
      rw [hN];have:(p-j+1)*es<=ys.length*es:=Bc _ (by omega)
      rw [B4] at this;omega
     exact⟨v,by rw [uf _ _ _ _ (by omega),if_neg (by omega),if_pos (by omega),show p*es+q-j*es=(p-j)*es+q by omega];exact p1,key p2⟩
    ·rename_i hpy;obtain⟨h3,h4⟩:=List.getElem?_eq_some_iff.1 hgt.symm;subst h4;obtain⟨v,p1,p2⟩:=hrep p h3 q hq;have e1:(j+ys.length)*es<=p*es:=Bc _ (by omega);rw [B4] at e1;exact⟨v,by rw [uf _ _ _ _ (by omega),if_neg (by omega),if_neg (by omega)];exact p1,key p2⟩
end
theorem rn {α:Type} (z:List α):∀ (n i j:Nat),i<n->j<z.length->(An n z).flatten[i*z.length+j]?=z[j]?
 | 0,_,_,h,_=>by omega
 | n+1,0,j,_,hj=>by rw [Gq,C7,Nat.zero_mul,Nat.zero_add,Bi hj]
 | n+1,i+1,j,hi,hj=>by
  have h1:(i+1)*z.length+j=z.length+(i*z.length+j):=by rw [B4];omega
  rw [Gq,C7,h1,A8 (by omega),Nat.add_sub_cancel_left,rn z n i j (by omega) hj]
def zeroIs:List Value->List D->Prop
 | [],[]=>True
 | v::vs,d::ds=>(cSV v = .d d∨(cSV v = .nils/\∃ es,d = .slice es []))/\zeroIs vs ds
 | _,_=>False
theorem vo {X:Nat->Prop} {e:Env} {w:World}:∀ {vs:List Value} {ds:List D},zeroIs vs ds->RelL X e w (vs.map cSV) vs->vs.length=ds.length/\∀ q (hq:q<ds.length),∃ v,vs[q]?=some v/\RepC X w v ds[q]
 | [],[],_,_=>⟨rfl,λq hq=>by simp at hq⟩
 | [],_::_,h,_=>h.elim
 | _::_,[],h,_=>h.elim
 | v::vs,d::ds,⟨h1,h2⟩,⟨g1,g2⟩=>by
  obtain⟨i1,i2⟩:=vo h2 g2
  refine⟨by simp [i1],λq hq=>?_⟩
  cases q with
  | zero =>
   refine⟨v,rfl,?_⟩
   rcases h1 with h1|⟨h1,es,h3⟩
   ·rw [h1] at g1;exact g1
   ·rw [h1] at g1
    have g1:v = .slice none 0 0:=g1
    subst g1
    show RepC X w _ d
    rw [h3];exact .nil
  | succ q =>
   obtain⟨u,u1,u2⟩:=i2 q (by simpa using hq)
   exact⟨u,by simpa using u1,by simpa using u2⟩
theorem vp (z:Array Value) (n:Nat) (hz:0<z.size):(Builtin.zeroCells z n).toList=(List.replicate n z.toList).flatten:=by
 apply Dz;intro p;have hfl:((An n z.toList)).flatten.length=n*z.size:=by simp
 by_cases hp:p<n*z.size
 ·have h1:p / z.size<n:=Nat.div_lt_of_lt_mul (by rw [Nat.mul_comm];exact hp);have h2:=rn z.toList n (p / z.size) (p % z.size) h1 (by rw [A4];exact Nat.mod_lt _ hz);rw [A4,Nat.div_add_mod'] at h2;rw [h2];simp [Builtin.zeroCells,hp,getElem!_pos,Nat.mod_lt _ hz]
 ·rw [Ba (by simp [Builtin.zeroCells];omega),Ba (by omega)]
section
variable {Γ : Ctx} {k : Nat} {L : Sl} {H H' : Hp} {K : ca} {ops : List Oper} {rest : List Oper} {t : TypeId}
theorem ds_clear (zs:List D) {tb te ty:TypeId} {pos:String} {af:Array Edge} {g:Option (Nat×Bool)} {i es j n:Nat} {xs:List (List D)} {x:Operand} (hx:ai L x = .rsl i es j n) (hH:Hp.get H i=some (.row tb es xs)) (ht:(aj Γ.τ t).sh = .slice te) (hkn:(aj Γ.τ te).sh.known=true)
  (hz:zeroIs (aj Γ.τ te).zero zs) (hzok:ek (aj Γ.τ te).zero=true) (hzl:(aj Γ.τ te).zero.length=es) (he:0<es) (hpos:0<n) (hjn:j+n<=xs.length) (hw:aq ops L g=some true)
  (hS:setF H i (.row tb es (xs.take j++An n zs++xs.drop (j+n))) some=some H') (hk:DS false Γ ops rest K k L H') :
  DS false Γ ops (⟨none,.call { callee:=.builtin .clear,args:=#[x],argTypes:=#[t] },ty,pos,af,g⟩::rest) K k L H:=by
 rw [oo] at hS;cases hS;refine jk hw λe a w m=>?_
 obtain⟨inf,z,hi,hzz,hs,_,hzc⟩:=Ctx.info (Sh.known_ne hkn);obtain⟨_,_,hcs⟩:=evT m hx (cSV_rsl · _ _ _ _);have hzsz:z.cells.size=es:=by rw [<- A4,hzc,hzl]
 rcases hcs with ⟨_,_,_,rfl⟩|⟨g0,n0,cap,o,hη,hkc,hmx,hnc,hv,ho⟩
 ·omega
 have:=ho (.inl (by omega))
 subst this;obtain⟨vs,hown,hes',_,_⟩:=(m.heap _ (Hp.mem_of hH)).2;rcases hown.2 with ⟨h2,_⟩|⟨g',cap',cur,h2,_,hg,_,_,hcsz,_⟩
 ·rw [hη] at h2;cases h2
 rw [hη] at h2;cases h2;have hzr:=fg (X:=Γ.X e H) (e:=e) (w:=w) _ hzok;obtain⟨zl,zr⟩:=vo hz hzr.1;have hN:=vp z.cells n (by omega);have hNl:(Builtin.zeroCells z.cells n).toList.length=n*es:=by simp [Builtin.zeroCells,hzsz]
 have hyl:(An n zs).length=n:=Ci;have hone:∀ v∈(Builtin.zeroCells z.cells n).toList,v.oneCell'=true:=λv hv=>hzr.2 v (by rw [<- hzc];exact kx hv)
 obtain⟨hfit,m2⟩:=row_write m hH (j:=j) (ys:=An n zs) (N:=(Builtin.zeroCells z.cells n).toList) (by rw [hyl];exact hjn) (by rw [hNl,hyl]) (λp hp=>by rw [F5,<- zl,hzl]) hone (λp hp q hq=>by
  have hq':q<zs.length:=by simpa using hq
  obtain⟨v,q1,q2⟩:=zr q hq';refine⟨v,?_,by simpa using q2⟩
  have hqe:q<es:=by rw [<- hzl,zl];exact hq'
  rw [hN,<- hzsz,<- A4,rn _ _ _ _ (by simpa using hp) (by rw [A4,hzsz];exact hqe),hzc];exact q1) hη hg
 rw [hyl] at m2;have hst:=run_storeCells_at Γ.P g0 (j*es) tb (Builtin.zeroCells z.cells n).toList 0 cur w hg (by simpa using hfit) hone;have hrun:(execOp a.eval ⟨none,.call { callee:=.builtin .clear,args:=#[x],argTypes:=#[t] },ty,pos,af,g⟩).run Γ.P w = .ok (.value (.tuple #[])) (w.setRow g0 (cur.toList.take (j*es)++(Builtin.zeroCells z.cells n).toList++cur.toList.drop (j*es+(Builtin.zeroCells z.cells n).toList.length)).toArray):=by
  have hzv:(zeroValue te).run Γ.P w = .ok z w:=by
   simp [zeroValue,typeInfo,hi,hzz]
  obtain⟨n',rfl⟩:∃ n',n=n'+1:=⟨n-1,by omega⟩;simp only [Nat.add_zero] at hst;simp [execOp,resolve,invoke,builtin,hv,Builtin.clear_,run_underlying (Ctx.slice ht),hzv,hst]
 unfold Oper.wp;rw [hrun];exact⟨k,L,_,e,m2,hk⟩
end
theorem run_append_make {P:Program} (w:World) (t ti ty e:TypeId) (i:TypeInfo) (z:Value) (ht:P.underlying t=some (.slice e)) (hti:P.underlying ti=some (.int .i64)) (hi:P.info? e=some i) (hz:i.zero=some z)
  (n:Nat) (h0:0<n) (h63:(n:Int)<=9223372036854775807) (h48:n*i.bytes<=281474976710656) (hs:i.size≠0) :
  (Builtin.append_ #[t,ti] ty #[.slice none 0 0,.int .i64 n]).run P w =
   .ok (.slice (some ⟨w.heap.size,0,none⟩) n (grownCap w n 0 e)) (w.drew.alloc (.cells (Builtin.zeroCells z.cells n++Builtin.zeroCells z.cells (grownCap w n 0 e-n)) e)):=by
 have hn:n≠0:=by omega
 have h63':¬ (9223372036854775807<(n:Int)):=by omega
 have h48':¬ (281474976710656<Builtin.nextslicecap n 0*i.bytes):=by rw [nextslicecap_zero h0];omega
 have hw:IntKind.i64.wrap (n:Int)=n:=by simp [IntKind.wrap,IntKind.bits,IntKind.signed];omega
 have hl:¬ ((n:Int)<0):=by omega
 have hb:¬ (281474976710656<(n:Int)*(i.bytes:Int)):=by
  have:((n*i.bytes:Nat):Int)<=281474976710656:=by omega
  rw [Int.natCast_mul] at this;omega
 simp [Builtin.append_,asInt,asIntOf,run_underlying ht,run_underlying hti,sizeOf,typeInfo,zeroValue,hi,hz,hw,hl,hb,hn,h63',h48',Question.forced,run_firstCells_none,newRow,grownCap];intro h;exact absurd h (Nat.mul_ne_zero hn hs)
section
variable {Γ : Ctx} {k : Nat} {L : Sl} {H : Hp} {K : ca} {ops : List Oper} {rest : List Oper} {t : TypeId}
theorem evNils {kk:Nat->Prop} {a:Act} {w:World} {e:Env} (m:Models Γ kk L H e a w) {x:Operand} (hx:ai L x = .nils):a.eval x = .slice none 0 0:=by
 have hok:opOk x:=by
  cases x with
  | const v=>simp only [ai] at hx;unfold cSV at hx;split at hx<;>simp_all [opOk,cOk]
  | _=>trivial
 have:=m.op x hok
 rw [hx] at this;exact this
theorem ds_apmk (zs:List D) {d n es:Nat} {te ti ty:TypeId} {pos:String} {af:Array Edge} {g:Option (Nat×Bool)} {x y:Operand} {m':Int} (hx:ai L x = .nils) (hy:ai L y = .d (.int .i64 m')) (hn:m'=(n:Int)) (ht:(aj Γ.τ t).sh = .slice te) (hti:(aj Γ.τ ti).sh = .int .i64)
  (hkn:(aj Γ.τ te).sh.known=true) (hes:(aj Γ.τ te).cells=es) (hz:zeroIs (aj Γ.τ te).zero zs) (hzok:ek (aj Γ.τ te).zero=true) (hzl:(aj Γ.τ te).zero.length=es) (he:0<es) (h0:0<n) (hroom:n*(aj Γ.τ te).bytes<=281474976710656) (h63:n<=maxLen)
  (hw:aq ops L g=some true) (hd:Nat.blt d Γ.n=true) (hk:DS false Γ ops rest K (k+1) ((d,.row k)::L) ((k,.row te es (An n zs))::H)) :
  DS false Γ ops (⟨some d,.call { callee:=.builtin .append,args:=#[x,y],argTypes:=#[t,ti] },ty,pos,af,g⟩::rest) K k L H:=by
 subst hn;refine jk hw λe a w m=>?_
 obtain⟨inf,z,hi,hzz,hs,hb,hzc⟩:=Ctx.info (Sh.known_ne hkn);have hzsz:z.cells.size=es:=by rw [<- A4,hzc,hzl]
 have hti':Γ.P.underlying ti=some (.int .i64):=by
  have hti2:Γ.sh ti = .int .i64:=hti;obtain⟨u,inf,z,h1,_,_,h4,_⟩:=iq (Γ.ti (t:=ti) (by rw [hti2];intro h;cases h));rw [h1];have h5:nx Γ.P u = .int .i64:=h4▸hti2;cases u<;>simp [nx] at h5 ⊢
  exact h5
 have hrun:=run_append_make (P:=Γ.P) w t ti ty te inf z (Ctx.slice ht) hti' hi hzz n h0 (by unfold maxLen at h63;omega) (by rw [hb];exact hroom) (by rw [hs];have:Γ.cells te=es:=hes;omega);have hge:=grownCap_ge w n 0 te;have hcm:=grownCap_le_maxLen w n 0 te h63;generalize grownCap w n 0 te=c at hrun hge hcm;have hop:(execOp a.eval ⟨some d,.call { callee:=.builtin .append,args:=#[x,y],argTypes:=#[t,ti] },ty,pos,af,g⟩).run Γ.P w = .ok (.value (.slice (some ⟨w.heap.size,0,none⟩) n c)) (w.drew.alloc (.cells (Builtin.zeroCells z.cells n++Builtin.zeroCells z.cells (c-n)) te)):=by
  simp only [execOp,resolve,invoke,builtin,Sem.run_bind,Sem.run_pure,Result.andThen_ok,List.map_toArray,List.map_cons,List.map_nil,evNils m hx,evI m hy,hrun]
 unfold Oper.wp;rw [hop];have m1:Models Γ (lo k) L H e a w.drew:=m.below ((Beld.refl _ _ _).drew);have hze:¬ e.dom k:=λh=>jf k ((m.top k).1 h)
 have hη:(e.bindRow k (.slice (some ⟨w.heap.size,0,none⟩) n c)).η k = .slice (some ⟨w.heap.size,0,none⟩) n c:=if_pos rfl;have hNl:(Builtin.zeroCells z.cells n).toList.length=n*es:=by simp [Builtin.zeroCells,hzsz]
 have hfl:=vp z.cells n (by omega);have m2:=m1.new (jf k) (hb:=.row te es (An n zs)) (e':=e.bindRow k (.slice (some ⟨w.heap.size,0,none⟩) n c)) (w':=w.drew.alloc (.cells (Builtin.zeroCells z.cells n++Builtin.zeroCells z.cells (c-n)) te)) (λi=>or_congr (m.top i) Iff.rfl) (e.bindRow_ext _ _ hze) (fi Γ.dr _ _)
  (λb hb=>by simp only [HB.owned,hη,Value.ownBlock,Option.some.injEq] at hb;subst hb;exact Af _) (λhX=>by
   have hzr:=fg (X:=Γ.X (e.bindRow k (.slice (some ⟨w.heap.size,0,none⟩) n c)) ((k,.row te es (An n zs))::H)) (e:=e) (w:=w.drew.alloc (.cells (Builtin.zeroCells z.cells n++Builtin.zeroCells z.cells (c-n)) te)) _ hzok;obtain⟨zl,zr⟩:=vo hz hzr.1;refine⟨(Builtin.zeroCells z.cells n).toList,⟨by rw [hNl,Ci],.inr ⟨w.heap.size,c,_,by rw [hη,Ci],Nat.zero_le _,heap_alloc_new w.drew _,by rw [Ci];exact hge,hcm,?_,?_⟩⟩,λp hp=>by rw [F5,<- zl,hzl],λv hv=>hzr.2 v (by rw [<- hzc];exact kx hv),λp hp q hq=>?_⟩
   ·simp [Builtin.zeroCells,hzsz,<- B4];congr 1;omega
   ·rw [Ci,Array.toList_append,Cc (by rw [hNl];exact Af _),Ak (by rw [hNl];exact Af _)]
   ·have hq':q<zs.length:=by simpa using hq
    obtain⟨v,q1,q2⟩:=zr q hq';refine⟨v,?_,by simpa using q2⟩
    have hqe:q<es:=by rw [<- hzl,zl];exact hq'
    rw [hfl,<- hzsz,<- A4,rn _ _ _ _ (by simpa using hp) (by rw [A4,hzsz];exact hqe),hzc];exact q1)
 have m3:=m2.cast (gv k);exact⟨k+1,_,_,_,m3.put (s:=.row k) (v:=.slice (some ⟨w.heap.size,0,none⟩) n c) (Nat.le_of_ble_eq_true hd) ⟨.inr rfl,hη.symm,rfl⟩,hk⟩
theorem ms {kk:Nat->Prop} {te ty:TypeId} {x:Operand} (ht:Γ.sh t = .slice te) (hx:ai L x = .nils):Ev Γ kk L H (.call { callee:=.builtin .cap,args:=#[x],argTypes:=#[t] }) ty (.d (.int .i64 0)):=by
 intro e a w m;have hv:=evNils m hx;refine⟨.int .i64 0,λ_ _ _ _ w' _=>?_,.int (by decide)⟩
 simp [execOp,resolve,invoke,builtin,hv,Builtin.cap_,goInt,run_underlying (Ctx.slice ht)]
end
variable [Bnds]
attribute [local irreducible] DW DS DL DQ Ev FnOk FnP dp bh DT
def cmpG (p:Fct):List Fct->List Fct
 | []=>[]
 | y::l=>if cu y p=0 then cmpG y l else y::cmpG y l
def cmpF:List Fct->List Fct
 | []=>[]
 | x::l=>x::cmpG x l
theorem cmpG_snoc:∀ (l:List Fct) (p y:Fct),cmpG p (l++[y])=cmpG p l++(if cu y ((p::l).getLast (by simp))=0 then [] else [y])
 | [],p,y=>by
  show (if cu y p=0 then cmpG y [] else y::cmpG y [])=[]++_
  rfl
 | x::l,p,y=>by
  rw [Cd]
  simp only [cmpG]
  rw [cmpG_snoc l x y,List.getLast_cons (by simp:x::l≠[])]
  split<;>simp
theorem cmpF_take {l:List Fct} {n:Nat} (h0:0<n) (hn:n<l.length):cmpF (l.take (n+1))=cmpF (l.take n)++(if cu l[n] (l[n-1]'(by omega))=0 then [] else [l[n]]):=by
 rw [Am hn];have hne:l.take n≠[]:=by
  intro h;have:=congrArg List.length h
  rw [Au,Di] at this;omega
 obtain⟨x,r,hx⟩:=List.exists_cons_of_ne_nil hne;have hl:(l.take n).getLast hne=l[n-1]'(by omega):=by
  rw [List.getLast_eq_getElem,D1];have:(l.take n).length-1=n-1:=by rw [Au,Gh (by omega)]
  simp only [this]
 simp only [hx,Cd,cmpF];rw [cmpG_snoc];have:(x::r).getLast (by simp)=l[n-1]'(by omega):=by rw [<- hl];congr 1;exact hx.symm
 rw [this]
theorem cmpF_one {l:List Fct} (h:l.length<=1):cmpF l=l:=by
 match l,h with
 | [],_=>rfl
 | [x],_=>rfl
theorem compactO_fn (l:List Fct) (hl:l.length<=4398046511104):FnOk false Tryz.prog tab bp 134 [.row 0,.fn 108 []] 0 1 [(0,.row 37 2 (l.map ip))] (λ_ r H=>r = .d (.own Bnds.B (.slice 2 ((cmpF l).map aa)))/\H=[]):=by
 refine fn_enterF _ Tryz.func134 rfl rfl (by kernel_rfl) ?_;intro O w0 E0 β0;have ll:(l.map ip).length=l.length:=Aa _;by_cases h2:l.length<2
 ·rw [cmpF_one (by omega)];repeat' (first|refine zs ?_|(refine zm ?_ ?_<;>intro hg)|(exfalso;omega))
  refine au (ko 4 (e6 owns_fct _) rfl rfl rfl) ?_;repeat' (first|refine zr ?_|fail)
  exact⟨.inl rfl,_,rfl,0,[],trivial,rfl,rfl,rfl,rfl,rfl,rfl⟩
 ·repeat' (first|refine zs ?_|(refine zm ?_ ?_<;>intro hg)|(exfalso;omega))
  refine ak (ι:=Nat) (λi=>⟨1,[(0,.row 0),(1,.fn 108 []),(5,.d (.int .i64 i))],[(0,.row 37 2 (l.map ip))]⟩)
   (λi=>1<=i/\i<=l.length/\cmpF (l.take i)=l.take i) (λi=>l.length-i) 1 ⟨by omega,by omega,cmpF_one (by rw [Au];omega)⟩ (er id) ?_
  rintro i ⟨g0,g1,g2⟩;by_cases hi:i<l.length
  ·have hs:Fn 108 [elFctO l[i],elFctO (l[((i:Int)-1).toNat]'(by omega))] (λr=>r = .d (.bool (decide (cu l[i] (l[i-1]'(by omega))=0)))):=by
    have e:((i:Int)-1).toNat=i-1:=by omega
    simp only [e];exact (rsame_fn _ _).ofWeak _ rfl
   have ht:=cmpF_take (by omega:0<i) hi;cases hb:decide (cu l[i] (l[i-1]'(by omega))=0) with
   | false =>
    have hb':=of_decide_eq_false hb;rw [hb] at hs;rw [if_neg hb',g2,<- Am hi] at ht;repeat' (first|refine zs ?_|(apply pb;exact rfl;exact rfl;exact rfl;exact rfl;apply hs;exact rfl;(exact rfl);exact rfl;exact rfl;exact⟨_,rfl⟩;rintro _ rfl)|(refine zm ?_ ?_<;>intro hg)|(exfalso;omega))
    exact⟨i+1,⟨by omega,by omega,ht⟩,er id,by show l.length-(i+1)<l.length-i;omega⟩
   | true =>
    have hb':=of_decide_eq_true hb;rw [hb] at hs;rw [if_pos hb',B0] at ht;repeat' (first|refine zs ?_|(apply pb;exact rfl;exact rfl;exact rfl;exact rfl;apply hs;exact rfl;(exact rfl);exact rfl;exact rfl;exact⟨_,rfl⟩;rintro _ rfl)|(refine zm ?_ ?_<;>intro hg)|(exfalso;omega))
    refine ak (ι:=Nat×Nat×List Fct) (λx=>⟨1,[(0,.row 0),(1,.fn 108 []),(5,.d (.int .i64 x.1)),(6,.rsl 0 2 i ((l.map ip).length-i)),(7,.d (.int .i64 x.2.1))],[(0,.row 37 2 (x.2.2.map ip))]⟩)
     (λx=>x.2.2.length=l.length/\1<=x.2.1/\x.2.1<=l.length-i/\i<=x.1/\x.1+1<=i+x.2.1/\x.2.2.take x.1=cmpF (l.take (i+x.2.1))/\∀ p,i+x.2.1<=p+1->x.2.2[p]?=l[p]?) (λx=>l.length-i-x.2.1)
     (i,1,l) ⟨rfl,by dsimp only;omega,by dsimp only;omega,by dsimp only;omega,by dsimp only;omega,by rw [ht,g2],λ_ _=>rfl⟩ (er id) ?_
    rintro⟨u,k,o⟩ ⟨q1,q2,q3,q4,q5,q6,q7⟩;dsimp only at q1 q2 q3 q4 q5 q6 q7 ⊢;have lo:(o.map ip).length=o.length:=Aa _;clear hs;by_cases hk:k<l.length-i
    ·have o1:o[i+k]'(by omega)=l[i+k]'(by omega):=by
      have:=q7 (i+k) (by omega)
      rw [Ab (by omega),Ab (by omega)] at this;exact Option.some.inj this
     have o2:o[i+k-1]'(by omega)=l[i+k-1]'(by omega):=by
      have:=q7 (i+k-1) (by omega)
      rw [Ab (by omega),Ab (by omega)] at this;exact Option.some.inj this
     have hs:Fn 108 [elFctO (o[i+k]'(by omega)),elFctO (o[i+((k:Int)-1).toNat]'(by omega))] (λr=>r = .d (.bool (decide (cu (l[i+k]'(by omega)) (l[i+k-1]'(by omega))=0)))):=by
      have e:i+((k:Int)-1).toNat=i+k-1:=by omega
      simp only [e,o1,o2];exact (rsame_fn _ _).ofWeak _ rfl
     have hc:=cmpF_take (l:=l) (n:=i+k) (by omega) (by omega);cases hb2:decide (cu (l[i+k]'(by omega)) (l[i+k-1]'(by omega))=0) with
     | true =>
      have hb3:=of_decide_eq_true hb2;rw [hb2] at hs;rw [if_pos hb3,B0] at hc;repeat' (first|refine zs ?_|(apply pb;exact rfl;exact rfl;exact rfl;exact rfl;apply hs;exact rfl;(exact rfl);exact rfl;exact rfl;exact⟨_,rfl⟩;rintro _ rfl)|(refine zm ?_ ?_<;>intro hg)|(exfalso;omega))
      exact⟨(u,k+1,o),⟨q1,by dsimp only;omega,by dsimp only;omega,by dsimp only;omega,by dsimp only;omega,by dsimp only;rw [q6];exact hc.symm,λp hp=>q7 p (by dsimp only at hp;omega)⟩,er id,by show l.length-i-(k+1)<l.length-i-k;omega⟩
     | false =>
      have hb3:=of_decide_eq_false hb2;rw [hb2] at hs;rw [if_neg hb3] at hc;repeat' (first|refine z0 ?_|apply jj|(apply ke;exact rfl;exact rfl;(apply ig;(omega));exact rfl;exact rfl;(exact j9 rfl);exact rfl;exact rfl;exact rfl;exact rfl;exact rfl;exact rfl)|refine zs ?_|(apply pb;exact rfl;exact rfl;exact rfl;exact rfl;apply hs;exact rfl;(exact rfl);exact rfl;exact rfl;exact⟨_,rfl⟩;rintro _ rfl)|(refine zm ?_ ?_<;>intro hg)|(exfalso;omega))
      refine⟨(u+1,k+1,o.set u (o[i+k]'(by omega))),⟨by dsimp only;rw [A3];exact q1,by dsimp only;omega,by dsimp only;omega,by dsimp only;omega,by dsimp only;omega,?_,λp hp=>?_⟩,er id,by show l.length-i-(k+1)<l.length-i-k;omega⟩
      ·dsimp only;rw [Am (by rw [A3];omega),List.getElem_set_self,List.take_set,List.set_eq_of_length_le (by rw [Au];omega),q6,o1];exact hc.symm
      ·dsimp only at hp ⊢;rw [List.getElem?_set_ne (by omega)];exact q7 p (by omega)
    ·repeat' (first|refine zs ?_|(refine zm ?_ ?_<;>intro hg)|(exfalso;omega))
     have hke:i+k=l.length:=by omega
     rw [hke,Ak (Af _)] at q6;refine ds_clear [.int .i64 0,.slice 1 []] rfl rfl rfl rfl ⟨.inl rfl,.inr ⟨rfl,1,rfl⟩,trivial⟩ rfl rfl (by omega) (by omega) (by omega) rfl rfl ?_;repeat' (first|refine zs ?_|(exfalso;omega))
     refine au (ent_cut (n:=u) 4 rfl rfl (by simp only [Ap,Au,Ci,B9];omega) rfl) ?_;have hq:∀ z,z=(cmpF l).map ip->OwnsLL z ((cmpF l).map aa):=by rintro _ rfl;exact e6 owns_fct _
     refine au (ko (xs:=(cmpF l).map aa) 4 (hq _ ?_) rfl rfl rfl) ?_;rotate_left
     ·repeat' (first|refine zr ?_|fail)
      exact⟨.inl rfl,_,rfl,0,[],trivial,rfl,rfl,rfl,rfl,rfl,rfl⟩
     have hu:((o.map ip).take u).length=u:=by rw [Au];omega
     show List.take u ((o.map ip).take u++An _ _++List.drop _ (o.map ip))=_;rw [Bt,Cc (by omega),Ak (by omega),<- List.map_take,q6]
  ·rw [Ak (by omega)] at g2;rw [g2];repeat' (first|refine zs ?_|(refine zm ?_ ?_<;>intro hg)|(exfalso;omega))
   refine au (ko 4 (e6 owns_fct _) rfl rfl rfl) ?_;repeat' (apply dv)
   exact⟨.inl rfl,_,rfl,0,[],trivial,rfl,rfl,rfl,rfl,rfl,rfl⟩
variable [Bnds]
def Strict (l:List Fct):Prop:=l.Pairwise λx y=>cu x y<0
theorem lt_irrefl {x:Fct} (h:cu x x<0):False:=by rw [js] at h;omega
theorem lt_asymm {x y:Fct} (h:cu x y<0) (g:cu y x<0):False:=lt_irrefl (l8 h g)
theorem j4:∀ {a b:List Fct},Strict a->Strict b->(∀ x,x∈a↔x∈b)->a=b
 | [],[],_,_,_=>rfl
 | [],y::b,_,_,h=>by have:=(h y).2 Ae;simp at this
 | x::a,[],_,_,h=>by have:=(h x).1 Ae;simp at this
 | x::a,y::b,ha,hb,h=>by
  obtain⟨a1,a2⟩:=List.pairwise_cons.1 ha;obtain⟨b1,b2⟩:=List.pairwise_cons.1 hb;have hxy:x=y:=by
   rcases List.mem_cons.1 ((h x).1 Ae) with h1|h1
   ·exact h1
   ·rcases List.mem_cons.1 ((h y).2 Ae) with h2|h2
    ·exact h2.symm
    ·exact (lt_asymm (b1 x h1) (a1 y h2)).elim
  subst hxy;rw [j4 a2 b2 λz=>?_];constructor
  ·intro hz;rcases List.mem_cons.1 ((h z).1 (Ah _ hz)) with h1|h1
   ·subst h1;exact (lt_irrefl (a1 z hz)).elim
   ·exact h1
  ·intro hz;rcases List.mem_cons.1 ((h z).2 (Ah _ hz)) with h1|h1
   ·subst h1;exact (lt_irrefl (b1 z hz)).elim
   ·exact h1
theorem cmpG_spec:∀ (l:List Fct) (p:Fct),(p::l).Pairwise (λa b=>cu b a ≥ 0)->Strict (p::cmpG p l)/\∀ x,x∈p::cmpG p l↔x∈p::l
 | [],p,_=>⟨List.pairwise_cons.2 ⟨λx hx=>by simp [cmpG] at hx,.nil⟩,λx=>Iff.rfl⟩
 | y::l,p,h=>by
  obtain⟨h1,h2⟩:=List.pairwise_cons.1 h;obtain⟨i1,i2⟩:=cmpG_spec l y h2;unfold cmpG;split
  ·rename_i h3;have:=qp h3
   subst this;refine⟨i1,λx=>(i2 x).trans ⟨λhx=>Ah _ hx,λhx=>?_⟩⟩
   rcases List.mem_cons.1 hx with rfl|hx
   ·exact Ae
   ·exact hx
  ·rename_i h3;have hpy:cu p y<0:=by have:=h1 y Ae;rw [p6];omega
   refine⟨List.pairwise_cons.2 ⟨λz hz=>?_,i1⟩,λx=>?_⟩
   ·rcases List.mem_cons.1 hz with rfl|hz
    ·exact hpy
    ·exact l8 hpy ((List.pairwise_cons.1 i1).1 z hz)
   ·rw [Be,Be (a:=x) (b:=p),i2 x]
theorem cmpF_spec {s:List Fct} (h:s.Pairwise (λa b=>cu b a ≥ 0)):Strict (cmpF s)/\∀ x,x∈cmpF s↔x∈s:=by
 match s,h with
 | [],_=>exact⟨.nil,λ_=>Iff.rfl⟩
 | p::l,h=>exact cmpG_spec l p h
theorem kFrom_spec {l:List Fct} {f:Fct}:∀ (n:Nat),n<=l.length->qq l f n<=n/\(∀ j (hj:j<l.length),qq l f n<=j->j<n->0<cu l[j] f)/\(∀ j (hj:j<l.length),j+1=qq l f n->¬ 0<cu l[j] f)
 | 0,_=>⟨Af _,λj _ _ h=>by omega,λj _ h=>by simp [qq] at h⟩
 | n+1,hn=>by
  obtain⟨i1,i2,i3⟩:=kFrom_spec (l:=l) (f:=f) n (by omega);rw [kFrom_succ (by omega)];split
  ·rename_i h;refine⟨by omega,λj hj h1 h2=>?_,i3⟩
   by_cases hjn:j=n
   ·subst hjn;exact h
   ·exact i2 j hj h1 (by omega)
  ·rename_i h;refine⟨Af _,λj hj h1 h2=>by omega,λj hj h1=>?_⟩
   have:j=n:=by omega
   subst this;exact h
theorem hasF_iff {l:List Fct} {f:Fct}:hasF l f=true↔f∈l:=by
 unfold hasF;rw [List.any_eq_true];constructor
 ·rintro⟨x,hx,h⟩;rw [<- qp (of_decide_eq_true h)];exact hx
 ·intro h;exact⟨f,h,decide_eq_true (js f)⟩
theorem insF_spec {l:List Fct} {f:Fct} (h:Strict l):Strict (su l f)/\∀ x,x∈su l f↔x∈l∨x=f:=by
 unfold su;split
 ·rename_i hh;have:=hasF_iff.1 hh
  exact⟨h,λx=>⟨.inl,λhx=>hx.elim id λe=>e▸this⟩⟩
 ·rename_i hh;have hf:f ∉ l:=λhm=>hh (hasF_iff.2 hm)
  obtain⟨k1,k2,k3⟩:=kFrom_spec (l:=l) (f:=f) l.length (Af _);generalize qq l f l.length=k at k1 k2 k3;have hpi:=List.pairwise_iff_getElem.1 h;have hlo:∀ j (hj:j<l.length),j<k->cu l[j] f<0:=by
   intro j hj hjk;have hk1:k-1<l.length:=by omega
   have h1:=k3 (k-1) hk1 (by omega);have hne:cu l[k-1] f≠0:=λe=>hf (qp e▸List.getElem_mem hk1)
   have h2:cu l[k-1] f<0:=by omega
   by_cases hjk1:j=k-1
   ·subst hjk1;exact h2
   ·exact l8 (hpi j (k-1) hj hk1 (by omega)) h2
  have hhi:∀ j (hj:j<l.length),k<=j->cu f l[j]<0:=λj hj hjk=>by have:=k2 j hj hjk hj;rw [p6];omega
  have htk:∀ x∈l.take k,cu x f<0:=by
   intro x hx;obtain⟨j,hj,rfl⟩:=List.mem_iff_getElem.1 hx;rw [Au] at hj;rw [D1];exact hlo j (by omega) (by omega)
  have hdk:∀ x∈l.drop k,cu f x<0:=by
   intro x hx;obtain⟨j,hj,rfl⟩:=List.mem_iff_getElem.1 hx;rw [B9] at hj;rw [List.getElem_drop];exact hhi (k+j) (by omega) (by omega)
  refine⟨List.pairwise_append.2 ⟨h.sublist (List.take_sublist _ _),List.pairwise_cons.2 ⟨hdk,h.sublist (List.drop_sublist _ _)⟩,λx hx y hy=>?_⟩,λx=>?_⟩
  ·rcases List.mem_cons.1 hy with rfl|hy
   ·exact htk x hx
   ·exact l8 (htk x hx) (hdk y hy)
  ·rw [Bq,Be];constructor
   ·rintro (hx|rfl|hx)
    ·exact .inl (B1 hx)
    ·exact .inr rfl
    ·exact .inl (Bv hx)
   ·rintro (hx|rfl)
    ·have:=hx
     rw [<- List.take_append_drop k l] at this;rcases List.mem_append.1 this with h1|h1
     ·exact .inl h1
     ·exact .inr (.inr h1)
    ·exact .inr (.inl rfl)
theorem setF_spec':∀ (l o:List Fct),Strict o->Strict (l.foldl su o)/\∀ x,x∈l.foldl su o↔x∈o∨x∈l
 | [],o,h=>⟨h,λx=>by simp⟩
 | y::l,o,h=>by
  obtain⟨i1,i2⟩:=insF_spec (f:=y) h
  obtain⟨j1,j2⟩:=setF_spec' l (su o y) i1
  refine⟨j1,λx=>?_⟩
  rw [List.foldl_cons,j2,i2,Be,or_assoc]
theorem a8 (l:List Fct):Strict (av l)/\∀ x,x∈av l↔x∈l:=by
 obtain⟨h1,h2⟩:=setF_spec' l [] .nil;exact⟨h1,λx=>(h2 x).trans (by simp)⟩
theorem keep_set {s l:List Fct} (hp:s.Perm l) (hs:s.Pairwise (λa b=>cu b a ≥ 0)):cmpF s=av l :=
 j4 (cmpF_spec hs).1 (a8 l).1 λx=>by rw [(cmpF_spec hs).2,(a8 l).2,hp.mem_iff]
variable [Bnds]
structure Lv (ρ:Type) where
 rs:List ρ
 hd:List Fct->ρ->List Fct
 mw:List Fct->ρ->Bool
 A:List Fct->Prop
structure LvOk {ρ:Type} (V:Lv ρ):Prop where
 mono:∀ S T,V.A S->V.A T->Strict S->Strict T->(∀ x∈S,x∈T)->∀ r∈V.rs,V.mw T r=true->V.mw S r=true/\∀ x∈V.hd S r,x∈V.hd T r
 grow:∀ S T,V.A S->(∀ x∈S,x∈T)->(∀ x∈T,x∈S∨∃ r∈V.rs,∃ S',V.A S'/\Strict S'/\x∈V.hd S' r)->V.A T
structure Good {ρ:Type} (V:Lv ρ) (m0 T:List Fct):Prop where
 strict:Strict T
 a:V.A T
 sub:∀ x∈m0,x∈T
 few:∀ r∈V.rs,V.mw T r=true
 cl:∀ r∈V.rs,∀ x∈V.hd T r,x∈T
structure Fit {ρ:Type} (V:Lv ρ) (m0 M:List Fct):Prop where
 good:Good V m0 M
 len:M.length<=60
 least:∀ T,Good V m0 T->∀ x∈M,x∈T
structure InvM {ρ:Type} (V:Lv ρ) (m0 m:List Fct):Prop where
 strict:Strict m
 a:V.A m
 sub:∀ x∈m0,x∈m
 len:m.length<=60
 least:∀ T,Good V m0 T->∀ x∈m,x∈T
theorem Strict.nodup {l:List Fct} (h:Strict l):l.Nodup:=h.imp λh he=>by subst he;exact lt_irrefl h
theorem mj {α:Type}:∀ {a b:List α},a.Nodup->(∀ x∈a,x∈b)->a.length<=b.length
 | [],_,_,_=>Nat.zero_le _
 | x::a,b,hn,hs=>by
  obtain⟨h1,h2⟩:=List.nodup_cons.1 hn
  obtain⟨s,t,rfl⟩:=List.append_of_mem (hs x (Ae ..))
  have:=mj (b:=s++t) h2 λy hy=>by
   have hy':=hs y (Ah _ hy)
   rcases List.mem_append.1 hy' with h|h
   ·exact A0 _ h
   ·rcases List.mem_cons.1 h with rfl|h
    ·exact absurd hy h1
    ·exact List.mem_append_right _ h
  simp only [Ap,Bn] at this ⊢
  omega
theorem fu (l:List Fct):(av l).length<=l.length:=by
 have h:=sa l [];rw [Di,Nat.add_zero] at h;exact h
section
variable {ρ : Type} {V : Lv ρ} {m0 m m' : List Fct}
theorem Fit.unique {M M':List Fct} (h:Fit V m0 M) (h':Fit V m0 M'):M=M' :=
 j4 h.good.strict h'.good.strict λx=>⟨h.least M' h'.good x,h'.least M h.good x⟩
theorem p9 (h:Strict m0) (ha:V.A m0) (hl:m0.length<=60):InvM V m0 m0:=⟨h,ha,λ_ h=>h,hl,λ_ hT=>hT.sub⟩
theorem no_many (hV:LvOk V) (h:InvM V m0 m) {r:ρ} (hr:r∈V.rs) (hm:V.mw m r=false):¬ ∃ M,Fit V m0 M:=by
 rintro⟨M,hM⟩;have:=(hV.mono m M h.a hM.good.a h.strict hM.good.strict (h.least M hM.good) r hr (hM.good.few r hr)).1
 rw [hm] at this;cases this
theorem head_in (hV:LvOk V) (h:InvM V m0 m) {r:ρ} (hr:r∈V.rs) {x:Fct} (hx:x∈V.hd m r) {T:List Fct} (hT:Good V m0 T):x∈T :=
 hT.cl r hr x ((hV.mono m T h.a hT.a h.strict hT.strict (h.least T hT) r hr (hT.few r hr)).2 x hx)
theorem inv_put (hV:LvOk V) (h:InvM V m0 m) {H:List Fct} (hH:∀ x∈H,∃ r∈V.rs,∃ m',InvM V m0 m'/\x∈V.hd m' r) (hl:(av (m++H)).length<=60):InvM V m0 (av (m++H)):=by
 obtain⟨h1,h2⟩:=a8 (m++H);refine⟨h1,?_,λx hx=>(h2 x).2 (A0 _ (h.sub x hx)),hl,λT hT x hx=>?_⟩
 ·refine hV.grow m _ h.a (λx hx=>(h2 x).2 (A0 _ hx)) λx hx=>?_
  rcases List.mem_append.1 ((h2 x).1 hx) with hx|hx
  ·exact .inl hx
  ·obtain⟨r,hr,m',hm',hx⟩:=hH x hx;exact .inr ⟨r,hr,m',hm'.a,hm'.strict,hx⟩
 ·rcases List.mem_append.1 ((h2 x).1 hx) with hx|hx
  ·exact h.least T hT x hx
  ·obtain⟨r,hr,m',hm',hx⟩:=hH x hx;exact head_in hV hm' hr hx hT
theorem no_room (hV:LvOk V) (h:InvM V m0 m) {H:List Fct} (hH:∀ x∈H,∃ r∈V.rs,∃ m',InvM V m0 m'/\x∈V.hd m' r) (hn:H.Nodup) (hd:∀ x∈H,x ∉ m) (hl:60<m.length+H.length):¬ ∃ M,Fit V m0 M:=by
 rintro⟨M,hM⟩;have:(m++H).length<=M.length:=by
  refine mj (List.nodup_append.2 ⟨h.strict.nodup,hn,λx hx y hy he=>?_⟩) λx hx=>?_
  ·subst he;exact hd x hy hx
  ·rcases List.mem_append.1 hx with hx|hx
   ·exact h.least M hM.good x hx
   ·obtain⟨r,hr,m',hm',hx⟩:=hH x hx;exact head_in hV hm' hr hx hM.good
 have h2:=hM.len;rw [Ap] at this;omega
theorem sw (h:InvM V m0 m) (hf:∀ r∈V.rs,V.mw m r=true) (hc:∀ r∈V.rs,∀ x∈V.hd m r,x∈m):Fit V m0 m :=
 ⟨⟨h.strict,h.a,h.sub,hf,hc⟩,h.len,h.least⟩
theorem same_len {a b:List Fct} (ha:Strict a) (hb:Strict b) (hs:∀ x∈a,x∈b) (hl:b.length<=a.length):a=b:=by
 refine j4 ha hb λx=>⟨hs x,λhx=>?_⟩
 apply Classical.byContradiction;intro hn;have:=mj (a:=x::a) (b:=b) (List.nodup_cons.2 ⟨hn,ha.nodup⟩) λy hy=>by
  rcases List.mem_cons.1 hy with rfl|hy
  ·exact hx
  ·exact hs y hy
 rw [Bn] at this;omega
end
variable [Bnds]
theorem arity_at {p:Prg} {n:Int} (h0:0<=n) (h:n<(p.arity.length:Int)):p.arity.getD n.toNat 0=p.arity[n.toNat]'(by omega):=by
 rw [List.getD,Ab (by omega)];rfl
theorem k5 {n a b:Int} (h:inR n a b=true):a<=n/\n<=b:=by
 unfold inR at h;simpa using h
theorem lit_fn (p:Prg) (l:Ltl) (vars:Int) (h0:0<=vars) (h8:vars<=8):Fn 214 [db p,elLtl l,.d (.int .i64 vars)] (λr=>r = .d (.int .i64 (j7 p.arity vars l))):=by
 refine fqE Tryz.func214 ?_;intro O w0 E0 β0;obtain⟨kind,op,pred,terms⟩:=l;have la:(p.arity.map ah).length=p.arity.length:=Aa _;have lb:(terms.map aw).length=terms.length:=Aa _;refine ew 0 0 rfl rfl (λhk=>?_);refine ew 1 3 rfl rfl (λhk2=>?_);have ht:=terms_fn terms vars h0 h8;have w1:=ez kind 1 4;have ho:=op_fn kind op;unfold j7;dsimp only [elLtl];by_cases hk1:inR kind 1 4=true
 ·have hk':=k5 hk1;rw [hk1] at w1;rw [hk1,if_neg (show ¬ (true=false) by decide)];generalize opB kind op=bo at ho ⊢;by_cases hn:kind=1∨kind=2
  ·have w2:=ez pred 0 (((p.arity.map ah).length:Int)-1);rw [if_pos hn,<- la];by_cases hp:inR pred 0 (((p.arity.map ah).length:Int)-1)=true
   ·have hp':=k5 hp;have hA:=arity_at (p:=p) (n:=pred) (by omega) (by omega);rw [hp] at w2 ⊢;rw [if_neg (show ¬ (true=false) by decide),hA];clear hk1 hp hA;rcases hn with rfl|rfl
    all_goals repeat' (first|refine zr ?_|refine z21 ?_ (hc:=by apply w1)|refine z21 ?_ (hc:=by apply w2)|refine z21 ?_ (hc:=by apply ho)|refine z21 ?_ (hc:=by apply ht)|(refine zm ?_ ?_<;>intro hg)|fail)
    all_goals first
     | exact br rfl (by simp_all<;>omega)
     | exact br rfl rfl
   ·rw [Dj] at hp;rw [hp] at w2 ⊢;rw [if_pos rfl];clear hk1 hp;rcases hn with rfl|rfl
    all_goals repeat' (first|refine zr ?_|refine z21 ?_ (hc:=by apply w1)|refine z21 ?_ (hc:=by apply w2)|refine z21 ?_ (hc:=by apply ho)|(refine zm ?_ ?_<;>intro hg)|fail)
    all_goals first
     | exact br rfl (by simp_all<;>omega)
  ·rw [if_neg hn];clear hk1;rcases (show kind=3∨kind=4 by omega) with rfl|rfl
   all_goals repeat' (first|refine zr ?_|refine z21 ?_ (hc:=by apply w1)|refine z21 ?_ (hc:=by apply ho)|refine z21 ?_ (hc:=by apply ht)|(refine zm ?_ ?_<;>intro hg)|fail)
   all_goals first
    | exact br rfl (by simp_all<;>omega)
 ·rw [Dj] at hk1;rw [hk1] at w1 ⊢;rw [if_pos rfl];repeat' (first|refine zr ?_|refine z21 ?_ (hc:=by apply w1)|(refine zm ?_ ?_<;>intro hg)|fail)
  all_goals exact br rfl rfl
variable [Bnds]
def isTok (kind:Int) (s:ByteArray):Bool :=
 if h:0<s.size then
  decide (s.size<=5000) && decide (kind≠0) && decide ((cb s.data.toList).1=kind) && decide ((cb s.data.toList).2=s.size) && decide (ea kind s.size s[0]=0)
 else false
theorem tokErr_eq (kind:Int) (n:Nat) (c:UInt8):ea kind n c=if kind=0 then 1 else if ((kind=1∨kind=2)/\12<n)∨(kind=3/\7<n) then 2 else if kind=3/\1<n/\c=48 then 1 else 0:=by
 unfold ea;rfl
theorem size_zero (s:ByteArray) (h:s=⟨#[]⟩):s.size=0:=by rw [h];rfl
theorem size_pos (s:ByteArray) (h:¬ s=⟨#[]⟩):0<s.size:=by
 rcases Nat.eq_zero_or_pos s.size with h0|h0
 ·exact absurd (ByteArray.ext (Array.eq_empty_of_size_eq_zero h0)) h
 ·exact h0
theorem u8i (c d:UInt8):((c.toNat:Int)=(d.toNat:Int))=(c=d):=by
 rw [eq_iff_iff];exact⟨λh=>UInt8.toNat_inj.1 (by omega),λh=>by rw [h]⟩
theorem u48 (c:UInt8):((c.toNat:Int)=48)=(c=48):=u8i c 48
theorem natc_eq (a b:Nat):((a:Int)=(b:Int))=(a=b):=by rw [eq_iff_iff];omega
theorem natc_lt1 (b:Nat):((1:Int)<(b:Int))=(1<b):=by rw [eq_iff_iff];omega
theorem natc_lt7 (b:Nat):((7:Int)<(b:Int))=(7<b):=by rw [eq_iff_iff];omega
theorem natc_lt12 (b:Nat):((12:Int)<(b:Int))=(12<b):=by rw [eq_iff_iff];omega
theorem isToken_fn (kind:Int) (s:ByteArray):Fn 203 [.d (.int .i64 kind),.d (.str s)] (λr=>r = .d (.bool (isTok kind s))):=by
 refine fqE Tryz.func203 ?_;intro O w0 E0 β0;repeat' (first|refine zr ?_|(refine zm ?_ ?_<;>intro hg)|fail)
 all_goals first
  | exact cm rfl (by
    unfold isTok;split
    ·first
      | (simp [*];done)
      | (exfalso
         rw [size_zero s ‹_›] at *;omega)
      | (have h5:¬ s.size<=5000:=by omega
         simp [h5];done)
    ·rfl)
  | skip
 have h0:=size_pos s ‹_›;have hT:=tokenAt_fn s 0 h0 (by omega);rw [List.drop_zero] at hT;refine ow rfl rfl hT rfl rfl rfl ?_;rintro _ rfl;have hsz:s.size<=5000:=by omega
 have hd:isTok kind s=(decide ((cb s.data.toList).1=kind) && decide ((cb s.data.toList).2=s.size) && decide (ea kind s.size s[0]=0)):=by
  unfold isTok;rw [dif_pos h0];simp [*]
 repeat' (first|refine zr ?_|(refine zm ?_ ?_<;>intro hg)|fail)
 all_goals first
  | exact cm rfl (by
    rw [hd,tokErr_eq];try simp only [natc_eq,natc_lt1,natc_lt7,natc_lt12,u48] at *
    first
     | (simp_all;done)
     | (simp_all;omega)
     | (have:¬ 7<s.size:=by omega
        simp_all;done)
     | (have:¬ 7<s.size:=by omega
        by_cases h48:s[0]=48<;>simp_all;done)
     | (have:¬ 7<s.size:=by omega
        have:¬ 1<s.size:=by omega
        simp_all;done)
     | (have k3:kind=3:=by omega
        have n7:¬ 7<s.size:=by omega
        have n1:1<s.size:=by omega
        rw [decide_eq_true ‹(cb s.data.toList).fst=kind›,decide_eq_true ‹(cb s.data.toList).snd=s.size›,k3];by_cases h48:s[0]=48<;>simp [h48,n7,n1];done))
variable [Bnds]
def encScan (r:List Tok×Int×Int):SV:=.tup [.d (encToks r.1),.d (.int .i64 r.2.1),.d (.int .i64 r.2.2)]
theorem scanS_big (s:ByteArray) (h:5000<s.size):vf s=([],0,2):=by unfold vf;rw [if_pos h]
theorem scanS_ok (s:ByteArray) (h:¬ 5000<s.size) (l:List Tok) (e:cn s false 0 = .ok l):vf s=(l,0,0):=by unfold vf;rw [if_neg h,e]
theorem scanS_err (s:ByteArray) (h:¬ 5000<s.size) (p e:Int) (he:cn s false 0 = .error (p,e)):vf s=([],p,e):=by unfold vf;rw [if_neg h,he]
theorem i37 (c:UInt8):((c.toNat:Int)=37)=(c=37):=u8i c 37
theorem i32 (c:UInt8):((c.toNat:Int)=32)=(c=32):=u8i c 32
theorem i9 (c:UInt8):((c.toNat:Int)=9)=(c=9):=u8i c 9
theorem i10 (c:UInt8):((c.toNat:Int)=10)=(c=10):=u8i c 10
theorem yy (s:ByteArray) (note:Bool) (i:Nat) (h:i<s.size) (hn:note=true∨(s[i].toNat:Int)=37):cn s note i=cn s (decide ((s[i].toNat:Int)≠10)) (i+1):=by
 rw [scanAt_note s note i h (by rw [i37] at hn;rcases hn with hn|hn<;>simp [hn])];congr 1;rw [Bool.eq_iff_iff];simp only [ne_eq,i10];simp
theorem blank_step (s:ByteArray) (note:Bool) (i:Nat) (h:i<s.size) (hn:note=false) (h1:¬ (s[i].toNat:Int)=37) (h2:(s[i].toNat:Int)=32∨(s[i].toNat:Int)=9∨(s[i].toNat:Int)=10):cn s note i=cn s note (i+1):=by
 subst hn;rw [i37] at h1;rw [i32,i9,i10] at h2;exact scanAt_blank s i h (by simpa using h1) (by simpa [or_assoc] using h2)
theorem tok_step (s:ByteArray) (note:Bool) (i:Nat) (h:i<s.size) (hn:note=false) (h1:¬ (s[i].toNat:Int)=37) (h2:¬ (s[i].toNat:Int)=32) (h3:¬ (s[i].toNat:Int)=9) (h4:¬ (s[i].toNat:Int)=10) (q:Int×Nat) (hq:cb (s.data.toList.drop i)=q) :
  cn s note i=if ea q.1 q.2 s[i]=0 then (cn s note (i+q.2)).map (Tok.mk q.1 i (s.extract i (i+q.2))::·) else .error (i,ea q.1 q.2 s[i]):=by
 subst hn;subst hq;rw [i37] at h1;rw [i32] at h2;rw [i9] at h3;rw [i10] at h4;have e1:(s[i] == 37)=false:=by simpa using h1
 have e2:(s[i] == 32 || s[i] == 9 || s[i] == 10)=false:=by simp [h2,h3,h4]
 split
 ·rename_i he;exact scanAt_tok s i h e1 e2 he
 ·rename_i he;exact scanAt_err s i h e1 e2 he
theorem map_map (x:Except (Int×Int) (List Tok)) (f g:List Tok->List Tok):(x.map f).map g=x.map λl=>g (f l):=by cases x<;>rfl
theorem tokErr_int (kind:Int) (n:Nat) (c:UInt8):ea kind n c=if kind=0 then 1 else if ((kind=1∨kind=2)/\(12:Int)<n)∨(kind=3/\(7:Int)<n) then 2 else if kind=3/\(1:Int)<n/\(c.toNat:Int)=48 then 1 else 0:=by
 simp only [natc_lt12,natc_lt7,natc_lt1,u48];exact tokErr_eq kind n c
variable [Bnds]
theorem small_eq (c:UInt8):gi c=(decide ((97:Int)<=c.toNat) && decide ((c.toNat:Int)<=122)):=by unfold gi;rfl
theorem great_eq (c:UInt8):ju c=(decide ((65:Int)<=c.toNat) && decide ((c.toNat:Int)<=90)):=by unfold ju;rfl
theorem digit_eq (c:UInt8):ct c=(decide ((48:Int)<=c.toNat) && decide ((c.toNat:Int)<=57)):=by unfold ct;rfl
theorem small_fn (c:UInt8):Fn 291 [.d (.int .u8 (c.toNat:Int))] (λr=>r = .d (.bool (gi c))):=by
 refine fqE Tryz.func291 ?_;intro O w0 E0 β0;repeat' (first|refine zr ?_|(refine zm ?_ ?_<;>intro hg)|fail)
 all_goals exact cm rfl (by rw [small_eq];first|(simp_all;done)|(simp_all;omega))
theorem great_fn (c:UInt8):Fn 292 [.d (.int .u8 (c.toNat:Int))] (λr=>r = .d (.bool (ju c))):=by
 refine fqE Tryz.func292 ?_;intro O w0 E0 β0;repeat' (first|refine zr ?_|(refine zm ?_ ?_<;>intro hg)|fail)
 all_goals exact cm rfl (by rw [great_eq];first|(simp_all;done)|(simp_all;omega))
theorem digit_fn (c:UInt8):Fn 295 [.d (.int .u8 (c.toNat:Int))] (λr=>r = .d (.bool (ct c))):=by
 refine fqE Tryz.func295 ?_;intro O w0 E0 β0;repeat' (first|refine zr ?_|(refine zm ?_ ?_<;>intro hg)|fail)
 all_goals exact cm rfl (by rw [digit_eq];first|(simp_all;done)|(simp_all;omega))
theorem alnum_fn (c:UInt8):Fn 294 [.d (.int .u8 (c.toNat:Int))] (λr=>r = .d (.bool (d5 c))):=by
 refine fqE Tryz.func294 ?_;intro O w0 E0 β0;repeat' (first|refine zr ?_|refine z21 ?_ (hc:=by apply small_fn)|refine z21 ?_ (hc:=by apply great_fn)|refine z21 ?_ (hc:=by apply digit_fn)|(refine zm ?_ ?_<;>intro hg)|fail)
 all_goals exact cm rfl (by unfold d5 eu;simp_all)
variable [Bnds]
abbrev FnS (f:FuncId) (args:List SV) (J k:Nat) (H:Hp) (R:Nat->SV->Hp->Prop):Prop:=FnOk false Tryz.prog tab bp f args J k H R
abbrev scH (s:ByteArray) (i:Nat):Hp:=[(0,.blk 323 [.d (.str s),.d (.int .i64 i)])]
theorem sign_fn (s:ByteArray) (i:Nat):FnS 290 [.loc 0 0] 1 1 (scH s i) (λk2 r H2=>k2=1/\r = .d (.int .u8 (if h:i<s.size then (s[i].toNat:Int) else 0))/\H2=scH s i):=by
 refine foE Tryz.func290 ?_;intro O w0 E0 β0;repeat' (first|refine zr ?_|(refine zm ?_ ?_<;>intro hg)|fail)
 ·refine⟨.inl rfl,_,rfl,rfl,?_,rfl⟩
  rw [dif_pos (by omega)];rfl
 ·refine⟨.inl rfl,_,rfl,rfl,?_,rfl⟩
  rw [dif_neg (by omega)];rfl
theorem note_at (s:ByteArray) (j:Nat) (h:j<s.size) (h1:(s[j].toNat:Int)=37):cn s false j=cn s true j:=by
 rw [yy s false j h (.inr h1),yy s true j h (.inl rfl)]
theorem note_in (s:ByteArray) (j:Nat) (h:j<s.size) (h1:¬ (s[j].toNat:Int)=10):cn s true j=cn s true (j+1):=by
 rw [yy s true j h (.inl rfl),decide_eq_true h1]
theorem note_out (s:ByteArray) (j:Nat) (h:∀ h:j<s.size,(s[j].toNat:Int)=10):cn s true j=cn s false j:=by
 by_cases hj:j<s.size
 ·have h10:=h hj;rw [yy s true j hj (.inl rfl),decide_eq_false (by rw [h10];simp),blank_step s false j hj rfl (by omega) (by omega)]
 ·rw [tr s true j (by omega),tr s false j (by omega)]
theorem skip_fn (s:ByteArray) (i:Nat) (hi:i<=s.size) (hs:s.size<=5000):FnS 288 [.loc 0 0] 1 1 (scH s i)
  (λk2 r H2=>k2=1/\r = .tup []/\∃ j:Nat,i<=j/\j<=s.size/\cn s false i=cn s false j/\(∀ h:j<s.size,¬ (s[j].toNat:Int)=37/\¬ (s[j].toNat:Int)=32/\¬ (s[j].toNat:Int)=9/\¬ (s[j].toNat:Int)=10)/\H2=scH s j):=by
 refine foE Tryz.func288 ?_;intro O w0 E0 β0;repeat' (first|refine zs ?_|fail)
 refine ak (ι:=Nat) (λj=>⟨1,[(0,.loc 0 0)],scH s j⟩) (λj=>i<=j/\j<=s.size/\cn s false i=cn s false j) (λj=>s.size-j) i ⟨Af _,hi,rfl⟩
  (er id) ?_
 rintro j ⟨h1,h2,h3⟩;repeat' (first|refine zr ?_|(refine zm ?_ ?_<;>intro hg)|fail)
 all_goals first
  | (exfalso;omega)
  | (refine⟨j+1,⟨by omega,by omega,h3.trans (blank_step s false j (by omega) rfl (by omega) (by omega))⟩,er id,by omega⟩)
  | (refine⟨.inl rfl,_,rfl,rfl,rfl,j,h1,h2,h3,?_,rfl⟩
     intro hj;refine⟨?_,?_,?_,?_⟩<;>omega)
  | (refine⟨.inr rfl,_,rfl,rfl,rfl,j,h1,h2,h3,?_,rfl⟩
     intro hj;refine⟨?_,?_,?_,?_⟩<;>omega)
  | skip
 all_goals
  refine ak (ι:=Nat) (λm=>⟨1,[(0,.loc 0 0)],scH s m⟩) (λm=>j<=m/\m<=s.size/\cn s false i=cn s true m) (λm=>s.size-m) j
   ⟨Af _,h2,h3.trans (note_at s j (by omega) (by omega))⟩ (er id) ?_
  rintro m ⟨g1,g2,g3⟩;repeat' (first|refine zs ?_|(refine zm ?_ ?_<;>intro hg)|fail)
  all_goals first
   | (refine⟨m+1,⟨by omega,by omega,g3.trans (note_in s m (by omega) (by omega))⟩,er id,by omega⟩)
   | (have hne:m≠j:=by
       intro e;subst e;omega
      refine⟨m,⟨by omega,g2,g3.trans (note_out s m (by intro h;omega))⟩,er id,by omega⟩)
variable [Bnds]
theorem run_fn (s:ByteArray) (i:Nat) (hi:i<=s.size) (hs:s.size<=5000) (f:FuncId) (p:UInt8->Bool) (hp:∀ c:UInt8,Fn f [.d (.int .u8 (c.toNat:Int))] (λr=>r = .d (.bool (p c)))) :
  FnS 293 [.loc 0 0,.fn f []] 1 1 (scH s i)
   (λk2 r H2=>k2=1/\r = .d (.str (s.extract i (i+dh p (s.data.toList.drop i))))/\H2=scH s (i+dh p (s.data.toList.drop i))):=by
 refine foE Tryz.func293 ?_;intro O w0 E0 β0;repeat' (first|refine zs ?_|fail)
 have hl0:s.data.toList.length=s.size:=by simp
 refine ak (ι:=Nat) (λj=>⟨1,[(0,.loc 0 0),(1,.fn f []),(5,.d (.int .i64 i))],scH s j⟩) (λj=>i<=j/\j<=s.size/\i+dh p (s.data.toList.drop i)=j+dh p (s.data.toList.drop j)) (λj=>s.size-j) i ⟨Af _,hi,rfl⟩
  (er id) ?_
 rintro j ⟨h1,h2,h3⟩;have hstep:=λh hq=>tk p s.data.toList j h hq
 have hstop:=λh hq=>takeW_stop p s.data.toList j h hq
 have hend:=takeW_end p s.data.toList j;repeat' (first|refine zr ?_|(refine zm ?_ ?_<;>intro hg)|fail)
 all_goals first
  | (refine pb rfl rfl rfl rfl (hp _) rfl rfl rfl rfl ⟨_,rfl⟩ ?_;rintro _ rfl)
  | (exact absurd hg (by decide))
  | skip
 repeat' (first|refine zr ?_|(refine zm ?_ ?_<;>intro hg)|fail)
 all_goals first
  | (have hj:i+dh p (s.data.toList.drop i)=j:=by have:=hend (by omega);omega
     rw [hj];exact⟨.inl rfl,_,rfl,rfl,rfl,rfl⟩)
  | (have hq:=hstep (by omega) (by rw [oh _ _ (by omega)];first|assumption|simp_all)
     refine⟨j+1,⟨by omega,by omega,by omega⟩,er id,by omega⟩)
  | (have hq:=hstop (by omega) (by rw [oh _ _ (by omega)];first|assumption|simp_all)
     have hj:i+dh p (s.data.toList.drop i)=j:=by omega
     rw [hj];exact⟨.inl rfl,_,rfl,rfl,rfl,rfl⟩)
variable [Bnds]
def pairL:D:=.slice 1 [[.str ⟨#[58,45]⟩],[.str ⟨#[60,61]⟩],[.str ⟨#[33,61]⟩]]
theorem pairs_fn:Fn 297 [] (λr=>r = .d pairL):=by
 refine fqE Tryz.func297 ?_;intro O w0 E0 β0;repeat' (first|refine zr ?_|fail)
 exact⟨.inl rfl,_,rfl,rfl,rfl⟩
def fe (s t:ByteArray):Bool:=decide (t.size<=s.size) && decide (s.extract 0 t.size=t)
theorem hasPrefix0_fn (s t:ByteArray):Fn 302 [.d (.str s),.d (.str t)] (λr=>r = .d (.bool (fe s t))):=by
 refine fqE Tryz.func302 ?_;intro O w0 E0 β0;repeat' (first|refine zr ?_|(refine zm ?_ ?_<;>intro hg)|fail)
 all_goals exact cm rfl (by
  unfold fe;first
   | (have h:t.size<=s.size:=by omega
      simp [h];done)
   | (have h:¬ t.size<=s.size:=by omega
      simp [h];done))
theorem hasPrefix_fn (s t:ByteArray):Fn 299 [.d (.str s),.d (.str t)] (λr=>r = .d (.bool (fe s t))):=by
 refine fqE Tryz.func299 ?_;intro O w0 E0 β0;repeat' (first|refine zr ?_|refine z21 ?_ (hc:=by apply hasPrefix0_fn)|fail)
 all_goals exact cm rfl rfl
abbrev scH2 (s:ByteArray) (i:Nat):Hp:=[(0,.blk 323 [.d (.str s),.d (.int .i64 i)]),(1,.blk 321 [.loc 0 0])]
theorem begins_fn (s:ByteArray) (i:Nat) (hi:i<=s.size) (t:ByteArray) :
  FnS 298 [.d (.str t),.loc 1 0] 2 2 (scH2 s i) (λk2 r H2=>k2=2/\r = .d (.bool (fe (s.extract i s.size) t))/\H2=scH2 s i):=by
 refine foE Tryz.func298 ?_;intro O w0 E0 β0;repeat' (first|refine zr ?_|refine z22 ?_ (hc:=by apply hasPrefix_fn)|fail)
 exact⟨.inl rfl,_,rfl,rfl,rfl,rfl⟩
variable [Bnds]
def pairT:List ByteArray:=[⟨#[58,45]⟩,⟨#[60,61]⟩,⟨#[33,61]⟩]
def pi (r:ByteArray):Int:=if fe r ⟨#[58,45]⟩ then 0 else if fe r ⟨#[60,61]⟩ then 1 else if fe r ⟨#[33,61]⟩ then 2 else -1
theorem pairAt_hit (r:ByteArray) (j:Nat) (hj:j<pairT.length) (h2:∀ m (_:m<j) (hm3:m<pairT.length),fe r pairT[m]=false) (h:fe r pairT[j]=true):pi r=j:=by
 have hj3:j<3:=hj;unfold pi;match j,hj3 with
 | 0,_=>rw [if_pos (show fe r ⟨#[58,45]⟩=true from h)];rfl
 | 1,_=>rw [if_neg (by rw [show fe r ⟨#[58,45]⟩=false from h2 0 (by omega) (by decide)];decide),if_pos (show fe r ⟨#[60,61]⟩=true from h)];rfl
 | 2,_=>rw [if_neg (by rw [show fe r ⟨#[58,45]⟩=false from h2 0 (by omega) (by decide)];decide),if_neg (by rw [show fe r ⟨#[60,61]⟩=false from h2 1 (by omega) (by decide)];decide),if_pos (show fe r ⟨#[33,61]⟩=true from h)];rfl
theorem pairAt_none (r:ByteArray) (h2:∀ m (_:m<3) (hm3:m<pairT.length),fe r pairT[m]=false):pi r = -1:=by
 unfold pi;rw [if_neg (by rw [show fe r ⟨#[58,45]⟩=false from h2 0 (by omega) (by decide)];decide),if_neg (by rw [show fe r ⟨#[60,61]⟩=false from h2 1 (by omega) (by decide)];decide),if_neg (by rw [show fe r ⟨#[33,61]⟩=false from h2 2 (by omega) (by decide)];decide)]
theorem indexFunc_fn (s:ByteArray) (i:Nat) (hi:i<=s.size) :
  FnS 301 [.d (.slice 1 (pairT.map λt=>[.str t])),.fn 298 [.loc 1 0]] 2 2 (scH2 s i) (λ_ r H2=>r = .d (.int .i64 (pi (s.extract i s.size)))/\H2=scH2 s i):=by
 refine foE Tryz.func301 ?_;intro O w0 E0 β0;repeat' (first|refine zs ?_|fail)
 refine ak (ι:=Nat) (λj=>⟨2,[(0,.d (.slice 1 (pairT.map λt=>[.str t]))),(1,.fn 298 [.loc 1 0]),(7,.d (.int .i64 3)),(8,.d (.int .i64 j))],scH2 s i⟩)
  (λj=>j<=3/\∀ m (hm:m<j) (hm3:m<pairT.length),fe (s.extract i s.size) pairT[m]=false) (λj=>3-j) 0 ⟨by omega,λm hm=>absurd hm (by omega)⟩
  (er id) ?_
 rintro j ⟨h1,h2⟩;repeat' (first|refine zs ?_|fail)
 have hp3:pairT.length=3:=rfl;refine bi rfl (λhlt=>?_) (λhlt=>?_)
 ·repeat' (first|refine zs ?_|fail)
  have hj:j<pairT.length:=by omega
  refine ds_callVO id (begins_fn s i hi pairT[j]) rfl rfl rfl rfl rfl rfl ⟨rfl,rfl,trivial⟩ rfl rfl rfl rfl rfl rfl ?_ ?_
  ·rintro k2 r H2 ⟨rfl,rfl,rfl⟩;exact⟨rfl,rfl⟩
  rintro k2 r H2 ⟨rfl,rfl,rfl⟩;repeat' (first|refine zs ?_|fail)
  refine ff rfl (λhh=>?_) (λhh=>?_)
  ·repeat' (first|refine zr ?_|fail)
   refine⟨.inl rfl,_,rfl,?_⟩
   rw [pairAt_hit _ j hj h2 hh];exact⟨rfl,rfl⟩
  ·repeat' (first|refine zs ?_|fail)
   refine⟨j+1,⟨by omega,λm hm hm3=>?_⟩,er id,by omega⟩
   by_cases e:m=j
   ·subst e;exact hh
   ·exact h2 m (by omega) hm3
 ·repeat' (first|refine zr ?_|fail)
  refine⟨.inl rfl,_,rfl,?_,rfl⟩
  rw [pairAt_none _ (λm hm hm3=>h2 m (by omega) hm3)];rfl
theorem containsFunc_fn (s:ByteArray) (i:Nat) (hi:i<=s.size) :
  FnS 296 [.d (.slice 1 (pairT.map λt=>[.str t])),.fn 298 [.loc 1 0]] 2 2 (scH2 s i) (λ_ r H2=>r = .d (.bool (decide (pi (s.extract i s.size) ≥ 0)))/\H2=scH2 s i):=by
 refine foE Tryz.func296 ?_;intro O w0 E0 β0;repeat' (first|refine zs ?_|fail)
 refine ds_callO id (indexFunc_fn s i hi) rfl rfl rfl rfl ⟨rfl,rfl,trivial⟩ rfl rfl rfl rfl rfl rfl ?_ ?_
 ·rintro k2 r H2 ⟨rfl,rfl⟩;exact⟨rfl,rfl⟩
 rintro k2 r H2 ⟨rfl,rfl⟩;repeat' (first|refine zr ?_|fail)
 exact⟨.inl rfl,_,rfl,rfl,rfl⟩
variable [Bnds]
theorem indexByte0_fn (s:ByteArray) (c:UInt8):Fn 303 [.d (.str s),.d (.int .u8 (c.toNat:Int))] (λr=>r = .d (.int .i64 (firstIdx s ((c.toNat:Int).toNat.toUInt8)))):=by
 refine fqE Tryz.func303 ?_;intro O w0 E0 β0;repeat' (first|refine zs ?_|fail)
 refine jo (ev_indexByte Tryz.func304 rfl rfl rfl rfl rfl rfl rfl) rfl rfl ?_;repeat' (first|refine zr ?_|fail)
 exact br rfl rfl
theorem indexByte_fn (s:ByteArray) (c:UInt8):Fn 300 [.d (.str s),.d (.int .u8 (c.toNat:Int))] (λr=>r = .d (.int .i64 (firstIdx s ((c.toNat:Int).toNat.toUInt8)))):=by
 refine fqE Tryz.func300 ?_;intro O w0 E0 β0;repeat' (first|refine zr ?_|refine z21 ?_ (hc:=by apply indexByte0_fn)|fail)
 exact br rfl rfl
variable [Bnds]
section
variable (s : ByteArray) (i : Nat) (hi : i<s.size)
include hi
theorem zf:s.data.toList.drop i=s[i]::s.data.toList.drop (i+1):=by
 have hl0:s.data.toList.length=s.size:=by simp
 rw [List.drop_eq_getElem_cons (by omega),oh]
theorem takeW_one (p:UInt8->Bool) (h:p s[i]=true):dh p (s.data.toList.drop i)=1+dh p (s.data.toList.drop (i+1)):=by
 have:=tk p s.data.toList i (by simpa using hi) (by rw [oh _ _ hi];exact h)
 omega
theorem tok_letter (h:eu s[i]=true):cb (s.data.toList.drop i)=(if gi s[i] then 1 else 2,dh d5 (s.data.toList.drop i)):=by
 rw [takeW_one s i hi d5 (by unfold d5;rw [h];rfl),zf s i hi,ey,if_pos h]
theorem tok_digit (h:eu s[i]=false) (hd:ct s[i]=true):cb (s.data.toList.drop i)=(3,dh ct (s.data.toList.drop i)):=by
 rw [takeW_one s i hi ct hd,zf s i hi,ey,if_neg (by rw [h];exact C0),if_pos hd]
theorem tok_sign (h:eu s[i]=false) (hd:ct s[i]=false):cb (s.data.toList.drop i)=if mh (s[i]::s.data.toList.drop (i+1)) then (4,2) else if signs.contains s[i] then (4,1) else (0,0):=by
 rw [zf s i hi,ey,if_neg (by rw [h];exact C0),if_neg (by rw [hd];exact C0)]
omit hi in
theorem ext_ext (k:Nat) (h:i+k<=s.size):(s.extract i s.size).extract 0 k=s.extract i (i+k):=by
 rw [ByteArray.extract_extract];congr 1;omega
theorem pair_at:decide (pi (s.extract i s.size) ≥ 0)=mh (s[i]::s.data.toList.drop (i+1)):=by
 have hsz:(s.extract i s.size).size=s.size-i:=by rw [ByteArray.size_extract];omega
 by_cases h2:i+1<s.size
 ·rw [pair_ext s i h2];have hp:∀ t:ByteArray,t.size=2->fe (s.extract i s.size) t=decide (s.extract i (i+2)=t):=by
   intro t ht;unfold fe;rw [ht,hsz,ext_ext s i 2 (by omega),decide_eq_true (by omega),Bool.true_and]
  unfold pi;rw [hp _ rfl,hp _ rfl,hp _ rfl];by_cases a:s.extract i (i+2)=⟨#[58,45]⟩
  ·simp [a]
  ·by_cases b:s.extract i (i+2)=⟨#[60,61]⟩
   ·simp [b]
   ·by_cases c:s.extract i (i+2)=⟨#[33,61]⟩
    ·simp [c]
    ·simp [a,b,c]
 ·have hp:∀ t:ByteArray,t.size=2->fe (s.extract i s.size) t=false:=by
   intro t ht;unfold fe;rw [ht,hsz,decide_eq_false (by omega),Bool.false_and]
  have hl:s.data.toList.drop (i+1)=[]:=F6 (by simp;omega);unfold pi;rw [hp _ rfl,hp _ rfl,hp _ rfl,hl];simp [mh]
theorem pair_room (h:pi (s.extract i s.size) ≥ 0):i+2<=s.size:=by
 have hq:=pair_at s i hi;rw [decide_eq_true h] at hq;rcases Nat.lt_or_ge (i+1) s.size with h2|h2
 ·omega
 ·have hl:s.data.toList.drop (i+1)=[]:=F6 (by simp;omega);rw [hl] at hq;simp [mh] at hq
end
theorem idx_signs (c:UInt8):decide ((0:Int)<=firstIdx ⟨#[40,41,44,46,60,61,43,45,42]⟩ c)=signs.contains c:=by
 have key:∀ n:Fin 256,decide ((0:Int)<=firstIdx ⟨#[40,41,44,46,60,61,43,45,42]⟩ (UInt8.ofNat n.1))=signs.contains (UInt8.ofNat n.1):=by decide +kernel
 have:=key ⟨c.toNat,c.toNat_lt⟩
 simpa using this
theorem signs_low (c:UInt8) (h:signs.contains c=true):(c.toNat:Int)<128:=by
 have key:∀ n:Fin 256,signs.contains (UInt8.ofNat n.1)=true->(n.1:Int)<128:=by decide +kernel
 exact key ⟨c.toNat,c.toNat_lt⟩ (by simpa using h)
theorem use1 {A C G:Prop} (c:A->C) (a:A) (k:C->G):G:=k (c a)
theorem use2 {A B C G:Prop} (c:A->B->C) (a:A) (b:B) (k:C->G):G:=k (c a b)
theorem use3 {A B E C G:Prop} (c:A->B->E->C) (a:A) (b:B) (e:E) (k:C->G):G:=k (c a b e)
theorem errL (kd:Int) (n:Nat) (c:UInt8) (h:kd=1∨kd=2):ea kd n c=if 12<n then 2 else 0:=by
 unfold ea;rcases h with rfl|rfl<;>simp
theorem errD (n:Nat) (c:UInt8):ea 3 n c=if 7<n then 2 else if 1<n/\(c.toNat:Int)=48 then 1 else 0:=by
 rw [tokErr_int];simp only [if_false,true_and,Int.reduceEq,or_self,false_and,false_or];by_cases h1:7<n
 ·rw [if_pos h1,if_pos (by omega)]
 ·rw [if_neg h1,if_neg (by omega)];by_cases h2:1<n/\(c.toNat:Int)=48
  ·rw [if_pos h2,if_pos (by omega)]
  ·rw [if_neg h2,if_neg (by omega)]
theorem errP (n:Nat) (c:UInt8):ea 4 n c=0:=by
 unfold ea;simp
theorem small_great {c:UInt8} (h:gi c=true):ju c=false:=by
 unfold gi at h;unfold ju;simp at h ⊢;omega
def tokenR (s:ByteArray) (i:Nat) (hi:i<s.size) (r:SV) (H2:Hp):Prop :=
 ∃ (kd e:Int) (tx:ByteArray) (j:Nat),r = .tup [.agg [.d (.int .i64 kd),.d (.int .i64 i),.d (.str tx)],.d (.int .i64 e)]/\H2=scH s j/\e=ea (cb (s.data.toList.drop i)).1 (cb (s.data.toList.drop i)).2 s[i] /\
  (e=0->kd=(cb (s.data.toList.drop i)).1/\tx=s.extract i (i+(cb (s.data.toList.drop i)).2)/\j=i+(cb (s.data.toList.drop i)).2)
theorem token_fn (s:ByteArray) (i:Nat) (hi:i<s.size) (hs:s.size<=5000) :
  FnS 289 [.loc 0 0] 1 1 (scH s i) (λ_ r H2=>tokenR s i hi r H2):=by
 refine fn_enterF _ Tryz.func289 rfl rfl (by kernel_rfl) ?_;intro O w0 E0 β0;repeat' (first|refine zs ?_|fail)
 (refine bk id (sign_fn s i) rfl rfl rfl rfl ⟨rfl,trivial⟩ rfl rfl rfl rfl rfl rfl ?_ ?_)
 ·rintro k2 r H2 ⟨rfl,rfl,rfl⟩;exact⟨rfl,rfl⟩
 rintro k2 r H2 ⟨rfl,rfl,rfl⟩;rw [dif_pos hi];change DS _ _ _ _ _ _ _ _;have hl0:s.data.toList.length=s.size:=by simp
 have hla:=vx d5 (s.data.toList.drop i);have hld:=vx ct (s.data.toList.drop i);rw [B9,hl0] at hla hld;have hea:(s.extract i (i+dh d5 (s.data.toList.drop i))).size=dh d5 (s.data.toList.drop i):=by rw [ByteArray.size_extract];omega
 have hed:(s.extract i (i+dh ct (s.data.toList.drop i))).size=dh ct (s.data.toList.drop i):=by rw [ByteArray.size_extract];omega
 have cS:gi s[i]=true->(cb (s.data.toList.drop i)).1=1/\(cb (s.data.toList.drop i)).2=dh d5 (s.data.toList.drop i):=by
  intro h;rw [tok_letter s i hi (by unfold eu;simp [h]),if_pos h];exact⟨rfl,rfl⟩
 have cG:gi s[i]=false->ju s[i]=true->(cb (s.data.toList.drop i)).1=2/\(cb (s.data.toList.drop i)).2=dh d5 (s.data.toList.drop i):=by
  intro h h2;rw [tok_letter s i hi (by unfold eu;simp [h2]),if_neg (by rw [h];exact C0)];exact⟨rfl,rfl⟩
 have cD:gi s[i]=false->ju s[i]=false->ct s[i]=true->(cb (s.data.toList.drop i)).1=3/\(cb (s.data.toList.drop i)).2=dh ct (s.data.toList.drop i):=by
  intro h h2 h3;rw [tok_digit s i hi (by unfold eu;simp [h,h2]) h3];exact⟨rfl,rfl⟩
 have cN:gi s[i]=false->ju s[i]=false->ct s[i]=false->cb (s.data.toList.drop i)=if pi (s.extract i s.size) ≥ 0 then (4,2) else if signs.contains s[i] then (4,1) else (0,0):=by
  intro h h2 h3;rw [tok_sign s i hi (by unfold eu;simp [h,h2]) h3,<- pair_at s i hi];by_cases hp:pi (s.extract i s.size) ≥ 0
  ·rw [if_pos hp,if_pos (by simpa using hp)]
  ·rw [if_neg hp,if_neg (by simpa using hp)]
 have cX:gi s[i]=true->ju s[i]=true->False:=λh h2=>by rw [small_great h] at h2;cases h2
 have cY:ju s[i]=true->ju s[i]=false->False:=λh h2=>by rw [h] at h2;cases h2
 have hroom:=pair_room s i hi;clear hl0;repeat' (first|refine zs ?_|refine z21 ?_ (hc:=by apply small_fn)|refine z21 ?_ (hc:=by apply great_fn)|refine z21 ?_ (hc:=by apply digit_fn)|(refine zm ?_ ?_<;>intro hg)|fail)
 all_goals first
  | ((refine bk id (run_fn s i (by omega) hs _ d5 alnum_fn) rfl rfl rfl rfl ⟨rfl,trivial⟩ rfl rfl rfl rfl rfl rfl ?_ ?_)
     ·rintro k2 r H2 ⟨rfl,rfl,rfl⟩;exact⟨rfl,rfl⟩
     rintro k2 r H2 ⟨rfl,rfl,rfl⟩;change DS _ _ _ _ _ _ _ _)
  | ((refine bk id (run_fn s i (by omega) hs _ ct digit_fn) rfl rfl rfl rfl ⟨rfl,trivial⟩ rfl rfl rfl rfl rfl rfl ?_ ?_)
     ·rintro k2 r H2 ⟨rfl,rfl,rfl⟩;exact⟨rfl,rfl⟩
     rintro k2 r H2 ⟨rfl,rfl,rfl⟩;change DS _ _ _ _ _ _ _ _)
  | skip
 repeat' (first|refine zr ?_|refine z21 ?_ (hc:=by apply pairs_fn)|(refine zm ?_ ?_<;>intro hg)|fail)
 all_goals first
  | (refine use2 cX ?_ ?_ False.elim;assumption;assumption)
  | (refine use2 cY ?_ ?_ False.elim;assumption;assumption)
  | (refine use1 cS ?_ ?_;assumption;rintro⟨t1,t2⟩
     refine⟨.inl rfl,_,rfl,1,scH s _,⟨rfl,trivial⟩,rfl,rfl,rfl,rfl,_,_,_,_,rfl,rfl,?_,?_⟩
     ·rw [t1,t2,errL _ _ _ (.inl rfl)];first|rw [if_pos (by omega)]|rw [if_neg (by omega)]
     ·intro he;first|exact absurd he (by decide)|(rw [t1,t2];exact⟨rfl,rfl,rfl⟩))
  | (refine use2 cG ?_ ?_ ?_;assumption;assumption;rintro⟨t1,t2⟩
     refine⟨.inl rfl,_,rfl,1,scH s _,⟨rfl,trivial⟩,rfl,rfl,rfl,rfl,_,_,_,_,rfl,rfl,?_,?_⟩
     ·rw [t1,t2,errL _ _ _ (.inr rfl)];first|rw [if_pos (by omega)]|rw [if_neg (by omega)]
     ·intro he;first|exact absurd he (by decide)|(rw [t1,t2];exact⟨rfl,rfl,rfl⟩))
  | (refine use3 cD ?_ ?_ ?_ ?_;assumption;assumption;assumption;rintro⟨t1,t2⟩
     refine⟨.inl rfl,_,rfl,1,scH s _,⟨rfl,trivial⟩,rfl,rfl,rfl,rfl,_,_,_,_,rfl,rfl,?_,?_⟩
     ·rw [t1,t2,errD];first|rw [if_pos (by omega)]|rw [if_neg (by omega),if_pos (by omega)]|rw [if_neg (by omega),if_neg (by omega)]
     ·intro he;first|exact absurd he (by decide)|(rw [t1,t2];exact⟨rfl,rfl,rfl⟩))
  | skip
 have hT:=cN ‹_› ‹_› ‹_›;(refine bk id (containsFunc_fn s i (by omega)) rfl rfl rfl rfl ⟨rfl,rfl,trivial⟩ rfl rfl rfl rfl rfl rfl ?_ ?_)
 ·rintro k2 r H2 ⟨rfl,rfl⟩;exact⟨rfl,rfl⟩
 rintro k2 r H2 ⟨rfl,rfl⟩;change DS _ _ _ _ _ _ _ _;repeat' (first|refine zs ?_|fail)
 refine bi rfl (λhp=>?_) (λhp=>?_)
 ·have hr:=hroom hp;rw [if_pos hp] at hT;repeat' (first|refine zr ?_|fail)
  refine⟨.inl rfl,_,rfl,1,scH s _,⟨rfl,trivial⟩,rfl,rfl,rfl,rfl,_,_,_,_,rfl,rfl,?_,?_⟩
  ·rw [hT,errP]
  ·intro he;rw [hT];exact⟨rfl,rfl,rfl⟩
 ·rw [if_neg hp] at hT;repeat' (first|refine zs ?_|refine z21 ?_ (hc:=by apply indexByte_fn)|fail)
  have hidx:=idx_signs s[i];have hu:((s[i].toNat:Int).toNat.toUInt8)=s[i]:=by simp
  refine bi rfl (λhq=>?_) (λhq=>?_)
  ·rw [hu] at hq;rw [decide_eq_true (by exact hq)] at hidx;have hlow:=signs_low s[i] hidx.symm;have hlow0:(0:Int)<=(s[i].toNat:Int):=by omega
   rw [if_pos hidx.symm] at hT;have hone:(⟨#[s[i]]⟩:ByteArray)=s.extract i (i+1):=by
    apply ByteArray.ext;simp only [ByteArray.data_extract];apply Array.toList_inj.1;rw [Array.toList_extract,List.extract_eq_take_drop,show i+1-i=1 by omega,zf s i hi];rfl
   repeat' (first|refine zr ?_|fail)
   refine⟨.inl rfl,_,rfl,1,scH s _,⟨rfl,trivial⟩,rfl,rfl,rfl,rfl,_,_,_,_,rfl,rfl,?_,?_⟩
   ·rw [hT,errP]
   ·intro he;rw [hT];exact⟨rfl,hone,rfl⟩
  ·rw [hu] at hq;rw [decide_eq_false (by exact hq)] at hidx;rw [if_neg (by rw [<- hidx];exact C0)] at hT;repeat' (first|refine zr ?_|fail)
   refine⟨.inl rfl,_,rfl,1,scH s _,⟨rfl,trivial⟩,rfl,rfl,rfl,rfl,_,_,_,_,rfl,rfl,?_,?_⟩
   ·rw [hT];unfold ea;simp
   ·intro he;exact absurd he (by decide)
end Go.Proofs.YtapciiffpnociadGreat
