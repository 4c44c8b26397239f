/- Several texts in one: RuV GxRR RuW GxSr1 RuI RuJ. Condition: none. -/
import Derived.Test.YtapciiffpnociadGreatT20
import Derived.Test.YtapciiffpnociadGreatT09
import Derived.Test.YtapciiffpnociadGreatT10
import Derived.Test.YtapciiffpnociadGreatT11
set_option maxHeartbeats 8000000
open Array renaming getElem?_eq_getElem→D3,getElem?_modify→Ee,getElem?_toList→Br,getElem_toList→Gv
open List renaming append_assoc→Cf,eq_nil_of_length_eq_zero→C4,findIdx_getElem→D6,flatMap_append→Di,getElem?_eq_getElem→Ad,getElem?_eq_none→A8,getElem?_map→Bg,getElem_map→Dh,getElem_mem→Aj,length→Bv,length_append→Af,length_drop→A7,length_eraseIdx→D7,length_map→Aa,length_singleton→Au,length_take→Aq,map_append→Ar,map_cons→A3,map_nil→Db,map_replicate→Dm,mem_cons_of_mem→Ag,mem_of_mem_drop→B2,mem_of_mem_take→Bq,not_of_lt_findIdx→Gh,take_of_length_le→Ai,take_succ_eq_append_getElem→An
open Nat renaming blt→Av,le_of_ble_eq_true→Ab,le_refl→Ah,not_lt_zero→A9,zero_le→Ak
namespace Go.Proofs.YtapciiffpnociadGreat
section
open Go Go.RowKit
attribute [local irreducible] DW DS DL DQ Ev FnOk FnP ef bt DT
theorem growLtl_fn (n:Nat) (hn:n<=1000000):FnOk false Tryz.prog tab b9 221 [.nils,.d (.int .i64 n)] 0 0 [] (λ_ r H=>r = .row 0/\H=[(0,.row 68 4 [])]):=by
 refine frE Tryz.func221 ?_;intro O w0 E0 β0;by_cases h0:n=0
 ·subst h0;repeat' (first|refine zs ?_|(exfalso;omega))
  refine je (ek rfl rfl) rfl rfl ?_;repeat' (first|refine zs ?_|(exfalso;omega))
  refine ak (cd (t:=4) 68 4 rfl) ?_;repeat' (apply c9)
  exact⟨.inl rfl,_,rfl,kp id 1 (.row 0) ([(0,.row 68 4 [])]) ⟨rfl,rfl⟩⟩
 ·repeat' (first|refine zs ?_|(exfalso;omega))
  refine je (ek rfl rfl) rfl rfl ?_;repeat' (first|refine zr ?_|(refine zm ?_ ?_<;>intro hg)|(exfalso;omega))
  refine je (ek rfl rfl) rfl rfl ?_;repeat' refine z0 ?_
  all_goals try (exfalso;omega)
  refine ds_apmk (n:=n) (es:=4) (te:=68) [.int .i64 0,.int .i64 0,.int .i64 0,.slice 2 []] rfl rfl (by omega) rfl rfl rfl rfl ⟨.inl rfl,.inl rfl,.inl rfl,.inr ⟨rfl,2,rfl⟩,trivial⟩ rfl rfl (by omega) (by omega) ?_ (by unfold maxLen;omega) rfl rfl ?_
  ·show n*48<=_;omega
  repeat' (first|refine zs ?_|(exfalso;omega))
  refine ak (yy (n:=0) 4 rfl rfl (Ak _) rfl) ?_;repeat' (apply c9)
  exact⟨.inl rfl,_,rfl,kp (λj=>match j with|0=>1|j=>j) 1 (.row 0) ([(0,.row 68 4 [])]) ⟨rfl,rfl⟩⟩
theorem concatLtl_fn (ls:List (List (Ltl))) (h:(ls.map Bv).sum<=1000000) (h2:ls.length<=1000000):Fn 164 [.d (.slice 1 (ls.map λl=>[.slice 4 (l.map ay)]))] (λr=>r = .d (.slice 4 (ls.flatten.map ay))):=by
 refine fqE Tryz.func164 ?_;intro O w0 E0 β0;have ll:(ls.map λl=>[D.slice 4 (l.map ay)]).length=ls.length:=Aa _;repeat' (first|refine zs ?_|fail)
 refine ag (ι:=Nat) (λi=>⟨0,[(0,.d (.slice 1 (ls.map λl=>[.slice 4 (l.map ay)]))),(3,.d (.int .i64 (((ls.take i).map Bv).sum:Nat))),(9,.d (.slice 1 (ls.map λl=>[.slice 4 (l.map ay)]))),(10,.d (.int .i64 ls.length)),(11,.d (.int .i64 i))],[]⟩)
  (λi=>i<=ls.length) (λi=>ls.length-i) 0 (Ak _) (ai id ⟨rfl,rfl,rfl,by rw [<- ll];rfl,rfl,trivial⟩ trivial rfl rfl rfl rfl rfl rfl) ?_
 intro i g1;by_cases hi:i<ls.length
 ·have h3:=px hi;have h4:=yi ls (i+1);have h5:(ls[i].map ay).length=ls[i].length:=Aa _;repeat' (first|refine zs ?_|(refine zm ?_ ?_<;>intro hg)|(exfalso;omega))
  exact⟨i+1,by omega,ai id ⟨rfl,congrArg (λz=>SV.d (.int .i64 z)) (by rw [h3,h5];omega),rfl,rfl,rfl,trivial⟩ trivial rfl rfl rfl rfl rfl rfl,by omega⟩
 ·rw [Ai (by omega)];repeat' (first|refine zs ?_|(refine zm ?_ ?_<;>intro hg)|(exfalso;omega))
  refine bg id (growLtl_fn (ls.map Bv).sum h) rfl rfl rfl rfl trivial rfl rfl rfl rfl rfl rfl ?_ ?_
  ·rintro k2 r H2 ⟨rfl,rfl⟩;exact⟨rfl,rfl⟩
  rintro k2 r H2 ⟨rfl,rfl⟩;change DS _ _ _ _ _ _ _ _;repeat' (first|refine zs ?_|fail)
  refine ag (ι:=Nat) (λi=>⟨1,[(6,.row 0),(25,.d (.slice 1 (ls.map λl=>[.slice 4 (l.map ay)]))),(26,.d (.int .i64 ls.length)),(27,.d (.int .i64 i))],[(0,.row 68 4 ((ls.take i).flatten.map ay))]⟩)
   (λi=>i<=ls.length) (λi=>ls.length-i) 0 (Ak _) (ai id ⟨rfl,rfl,by rw [<- ll];rfl,rfl,trivial⟩ ⟨rfl,trivial⟩ rfl rfl rfl rfl rfl rfl) ?_
  clear hi g1;intro i g1;by_cases hi:i<ls.length
  ·have h3:=px hi;have h4:=yi ls (i+1);have h5:(ls[i].map ay).length=ls[i].length:=Aa _;have h6:((ls.take i).flatten.map ay).length=((ls.take i).map Bv).sum:=by rw [Aa,List.length_flatten]
   have h7:(ls.take (i+1)).flatten=(ls.take i).flatten++ls[i]:=by rw [An hi,List.flatten_append];simp
   repeat' (first|refine zr ?_|(refine zm ?_ ?_<;>intro hg)|(exfalso;omega))
   exact⟨i+1,by omega,ai (λ_=>1) ⟨rfl,rfl,rfl,rfl,trivial⟩ ⟨by rw [h7,Ar];rfl,trivial⟩ rfl rfl rfl rfl rfl rfl,by omega⟩
  ·rw [Ai (by omega)];repeat' (first|refine zs ?_|(refine zm ?_ ?_<;>intro hg)|(exfalso;omega))
   refine ak (bh 2 rfl rfl rfl) ?_;repeat' (apply c9)
   exact⟨.inl rfl,_,rfl,rfl,rfl⟩
theorem indexLtl_fn {f:FuncId} {caps:List SV} (p:Ltl->Bool) (l:List (Ltl)) (hcap:SV.lowL 0 caps=true) (hp:∀ x∈l,Fn f (elLtl x::caps) (λr=>r = .d (.bool (p x)))):Fn 219 [.d (.slice 4 (l.map ay)),.fn f caps] (λr=>r = .d (.int .i64 (kr p l))):=by
 refine fqE Tryz.func219 ?_;intro O w0 E0 β0;refine cp (t:=0) rfl λhb=>?_
 repeat' (first|refine zs ?_|fail)
 refine ag (ι:=Nat) (λi=>⟨0,[(0,.d (.slice 4 (l.map ay))),(1,.fn f caps),(7,.d (.int .i64 l.length)),(8,.d (.int .i64 i))],[]⟩)
  (λi=>i<=l.length/\∀ j (hj:j<l.length),j<i->p l[j]=false) (λi=>l.length-i) 0 ⟨Ak _,λj _ h=>absurd h (A9 j)⟩
  (ai id ⟨rfl,congrArg (SV.fn f) (SV.renL_id caps).symm,by simp;rfl,rfl,trivial⟩ trivial (by simp [Sl.low,SV.low,hcap]) rfl rfl rfl rfl rfl) ?_
 rintro i ⟨h1,h2⟩;repeat' (first|refine zs ?_|fail)
 refine bf rfl (λh=>?_) (λh=>?_)
 ·have hi:i<l.length:=by omega
  have hpx:=hp l[i] (Aj hi);repeat' (first|refine zs ?_|(apply ki;exact rfl;exact rfl;exact rfl;exact rfl;apply hpx;exact rfl;(assumption);exact rfl;rintro _ rfl))
  refine d7 rfl (λhb=>?_) (λhb=>?_)
  ·repeat' (first|refine zr ?_|fail)
   exact a6 rfl (jp h2 hi hb).symm
  ·repeat' (first|refine zs ?_|fail)
   exact⟨i+1,⟨hi,gz h2 hi hb⟩,ai id ⟨rfl,congrArg (SV.fn f) (SV.renL_id caps).symm,rfl,rfl,trivial⟩ trivial (by simp [Sl.low,SV.low,hcap]) rfl rfl rfl rfl rfl,by omega⟩
 ·repeat' (first|refine zr ?_|fail)
  exact a6 rfl (ja λj hj=>h2 j hj (by omega)).symm
theorem next1_fn (l:Ltl):Fn 220 [elLtl l] (λr=>r = .d (.bool (decide (l.kind=1)))):=by
 refine fqE Tryz.func220 ?_;intro O w0 E0 β0;repeat' (first|refine zr ?_|fail)
 exact⟨.inl rfl,_,rfl,rfl,rfl⟩
theorem idxF_findIdx {α:Type} {p:α->Bool} {l:List α} (h:l.findIdx p<l.length):kr p l=(l.findIdx p:Nat) :=
 jp (λj _ hj=>by have:=Gh hj;simpa using this) h D6
theorem findIdx_at {α:Type} {p:α->Bool} {l:List α} {i:Nat} (hi:i<l.length) (h:∀ j (_:j<l.length),j<i->p l[j]=false) (hp:p l[i]=true):l.findIdx p=i:=by
 rcases Nat.lt_trichotomy (l.findIdx p) i with h1|h1|h1
 ·have h2:=h _ (by omega) h1;have h3:=D6 (xs:=l) (p:=p) (w:=by omega);rw [h2] at h3;cases h3
 ·exact h1
 ·have:=Gh h1;rw [hp] at this;simp at this
theorem findIdx_no {α:Type} {p:α->Bool} {l:List α} (h:∀ j (_:j<l.length),p l[j]=false):¬ l.findIdx p<l.length:=λh1=>by
 have h3:=D6 (xs:=l) (p:=p) (w:=h1)
 rw [h _ h1] at h3;cases h3
theorem needT_len (l:Ltl):(pc l).length<=l.terms.length:=by
 unfold pc;split
 ·rw [Aq];omega
 ·exact Ah _
theorem next_fn (r:Rul) (S:List Fct) (out:List (List Int)) (e:RE) (left:List Ltl) (hok:∀ l∈left,okL S e.length l) (hl:left.length<=1000000) (hn:e6 e left<left.length) (htl:∀ l∈left,l.terms.length<=3) :
  FnOk false Tryz.prog tab b9 163 [.loc 0 0,.d (.slice 4 (left.map ay))] 4 4 (pfH r S e out) (λ_ res H=>res = .d (.int .i64 (e6 e left:Nat))/\H=pfH r S e out):=by
 refine frE Tryz.func163 ?_;intro O w0 E0 β0;have ll:(left.map ay).length=left.length:=Aa _;repeat' (first|refine zs ?_|fail)
 refine ag (ι:=Nat) (λi=>⟨4,[(0,.loc 0 0),(1,.d (.slice 4 (left.map ay))),(10,.d (.slice 4 (left.map ay))),(11,.d (.int .i64 left.length)),(12,.d (.int .i64 i))],pfH r S e out⟩)
  (λi=>i<=left.length/\∀ j (_:j<left.length),j<i->tw e left[j]=false) (λi=>left.length-i) 0 ⟨Ak _,λ_ _ h=>by omega⟩ (ai id ⟨rfl,rfl,rfl,by rw [<- ll];rfl,rfl,trivial⟩ ⟨rfl,rfl,rfl,rfl,trivial⟩ rfl rfl rfl rfl rfl rfl) ?_
 rintro i ⟨g1,g2⟩;dsimp only at g1 g2 ⊢;by_cases hi:i<left.length
 ·have hm:=Aj hi;have ho:=hok _ hm;have h3:=htl _ hm;have w:=values_fn r S out e (pc left[i]) (λt ht=>ho.terms t (by unfold pc at ht;split at ht;exact Bq ht;exact ht)) (by have:=needT_len left[i];omega);have hr:tw e left[i]=(pc left[i]).all λt=>(vOf e t).isSome:=rfl
  by_cases h4:left[i].kind=4
  ·have hc3:=ho.calc3 h4;have lt:(left[i].terms.map av).length=left[i].terms.length:=Aa _;have hnt:pc left[i]=left[i].terms.take 2:=by unfold pc;rw [if_pos h4]
   rw [hnt] at w hr;repeat' (first|(apply pa;exact rfl;exact rfl;exact rfl;exact rfl;exact rfl;exact rfl;(refine⟨?_,?_,?_⟩<;>(omega));((with_reducible apply oe);(exact bl _));exact rfl;exact rfl)|refine zs ?_|(refine zm ?_ ?_<;>intro hg)|(exfalso;omega))
   (refine bg id (w) rfl rfl rfl rfl ⟨rfl,rfl,rfl,rfl,trivial⟩ rfl rfl rfl rfl rfl rfl ?_ ?_)
   ·rintro k2 res H2 ⟨rfl,rfl⟩;split<;>exact⟨rfl,rfl⟩
   rintro k2 res H2 ⟨rfl,rfl⟩;clear w;cases hb:tw e left[i] with
   | false =>
    rw [<- hr,hb,if_neg (by simp)];change DS _ _ _ _ _ _ _ _;repeat' (first|refine zs ?_|(exfalso;omega))
    exact⟨i+1,⟨hi,λj hj hji=>by
     by_cases hq:j=i
     ·subst hq;exact hb
     ·exact g2 j hj (by omega)⟩,er id,by omega⟩
   | true =>
    have hfi:left.findIdx (tw e)=i:=findIdx_at hi g2 hb;have hne:e6 e left=i:=by unfold e6;rw [hfi,if_pos hi]
    rw [<- hr,hb,if_pos rfl,hne];change DS _ _ _ _ _ _ _ _;repeat' (first|refine zr ?_|(exfalso;omega))
    exact⟨.inl rfl,_,rfl,kp id 4 _ (pfH r S e out) ⟨rfl,rfl⟩⟩
  ·have hnt:pc left[i]=left[i].terms:=by unfold pc;rw [if_neg h4]
   rw [hnt] at w hr;repeat' (first|(apply pa;exact rfl;exact rfl;exact rfl;exact rfl;exact rfl;exact rfl;(refine⟨?_,?_,?_⟩<;>(omega));((with_reducible apply oe);(exact bl _));exact rfl;exact rfl)|refine zs ?_|(refine zm ?_ ?_<;>intro hg)|(exfalso;omega))
   (refine bg id (w) rfl rfl rfl rfl ⟨rfl,rfl,rfl,rfl,trivial⟩ rfl rfl rfl rfl rfl rfl ?_ ?_)
   ·rintro k2 res H2 ⟨rfl,rfl⟩;split<;>exact⟨rfl,rfl⟩
   rintro k2 res H2 ⟨rfl,rfl⟩;clear w;cases hb:tw e left[i] with
   | false =>
    rw [<- hr,hb,if_neg (by simp)];change DS _ _ _ _ _ _ _ _;repeat' (first|refine zs ?_|(exfalso;omega))
    exact⟨i+1,⟨hi,λj hj hji=>by
     by_cases hq:j=i
     ·subst hq;exact hb
     ·exact g2 j hj (by omega)⟩,er id,by omega⟩
   | true =>
    have hfi:left.findIdx (tw e)=i:=findIdx_at hi g2 hb;have hne:e6 e left=i:=by unfold e6;rw [hfi,if_pos hi]
    rw [<- hr,hb,if_pos rfl,hne];change DS _ _ _ _ _ _ _ _;repeat' (first|refine zr ?_|(exfalso;omega))
    exact⟨.inl rfl,_,rfl,kp id 4 _ (pfH r S e out) ⟨rfl,rfl⟩⟩
 ·have hno:¬ left.findIdx (tw e)<left.length:=findIdx_no λj hj=>g2 j hj (by omega)
  have hne:e6 e left=left.findIdx λl=>decide (l.kind=1):=by unfold e6;rw [if_neg hno]
  rw [hne] at hn ⊢;have w:=indexLtl_fn (caps:=[]) (f:=220) (λl=>decide (l.kind=1)) left rfl (λx _=>next1_fn x);rw [idxF_findIdx hn] at w;repeat' (first|(apply pa;exact rfl;exact rfl;exact rfl;exact rfl;exact rfl;exact rfl;(refine⟨?_,?_,?_⟩<;>(omega));((with_reducible apply oe);(exact bl _));exact rfl;exact rfl)|refine zr ?_|refine z21 ?_ (hc:=by apply w)|(refine zm ?_ ?_<;>intro hg)|(exfalso;omega))
  exact⟨.inl rfl,_,rfl,kp id 4 _ (pfH r S e out) ⟨rfl,rfl⟩⟩
end
section
open Go Go.RowKit
section
variable {Γ : Ctx} {k : Nat -> Prop} {L : Sl} {H : Hp} {a : Act} {w : World} {e : Env} {t t' ty : TypeId} {x y : Operand}
theorem op_append_rowR [NoDr Γ] {d z:Nat} {te t2 tb:TypeId} {pos:String} {af:Array Edge} {g:Option (Nat×Bool)} {i j es:Nat} {xs ys:List (List D)}
  (hz':¬ k z) (ht:Γ.sh t = .slice te) (hkn:(Γ.sh te).known=true) (hes:Γ.cells te=es) (hpos:Av 0 es=true) (hz:Nat.beq (aj Γ.τ te).zero.length (Γ.cells te)=true)
  (hx:ap L x = .row i) (hH:Hp.get H i=some (.row te es xs)) (hy:ap L y = .row j) (hHj:Hp.get H j=some (.row tb es ys)) (hd:Av d Γ.n=true)
  (hroom:(xs.length+ys.length)*(aj Γ.τ te).bytes<=140737488355328) (h63:xs.length+ys.length<=maxLen) :
  OpOk Γ ⟨some d,.call { callee:=.builtin .append,args:=#[x,y],argTypes:=#[t,t] },t2,pos,af,g⟩ k L H (mg k z) ((d,.row z)::L) ((z,.row te es (xs++ys))::Hp.del H i):=by
 intro e a w Q m;have hze:¬ e.dom z:=λh=>hz' ((m.top z).1 h)
 obtain⟨inf,zv,hi,hzz,hs,hb,hzc⟩:=Ctx.info (Sh.known_ne hkn);have hut:=Ctx.slice ht;obtain⟨_,hvx,_⟩:=evT m hx (l9 · _);obtain⟨_,hvy,_⟩:=evT m hy (l9 · _);obtain⟨vs,ho,hxe,hone,hrep⟩:=(m.heap _ (Hp.mem_of hH)).2;obtain⟨us,hoy,hye,hone2,hrep2⟩:=(m.heap _ (Hp.mem_of hHj)).2;have hsz:inf.size=es:=by rw [hs,hes]
 rw [<- hsz] at ho;have hcase:∃ v' w',(Builtin.append_ #[t,t] t2 #[e.η i,a.eval y]).run Γ.P w = .ok v' w'/\w'.ownsRow 0 te inf.size v' (xs.length+ys.length) (vs++us)/\w.grownBy w' (e.η i).ownBlock/\(∀ c,v'.ownBlock=some c->(e.η i).ownBlock=some c∨w.heap.size<=c):=by
  rcases hoy.2 with ⟨hv,hl0⟩|⟨gb,cap,cur,hv,_⟩
  ·have hys:ys=[]:=C4 hl0;have hu0:us=[]:=C4 (by rw [hoy.1,hl0,Nat.zero_mul]);rw [hvy,hv,hys,hu0];have hrun:=run_append_owned_none (P:=Γ.P) (w:=w) 0 t t2 te inf inf.size hut hi (e.η i) xs.length vs ho;exact⟨e.η i,w,hrun,by simpa using ho,⟨rfl,rfl,rfl,Ah _,λ_ _ _=>rfl⟩,λc hc=>.inl hc⟩
  ·have hcells:∀ j u,us[j]?=some u->w.cell? ((⟨gb,0,none⟩:Addr).add j)=some u:=hoy.cells (g:=gb) (by rw [hv];rfl);rw [hvy,hv];exact append_own (P:=Γ.P) (ty:=t2) hut hi hzz (Ctx.zsize hzc hz hs) (by rw [hsz];exact Ab hpos) ho (c:=cap) (by rw [hoy.1,hsz]) hcells hone2 h63 (by rw [hb];exact hroom)
 obtain⟨v',w',hrun,hown',hgr,hblk⟩:=hcase;have hop:(execOp a.eval ⟨some d,.call { callee:=.builtin .append,args:=#[x,y],argTypes:=#[t,t] },t2,pos,af,g⟩).run Γ.P w = .ok (.value v') w':=by
  simp only [execOp,resolve,invoke,builtin,Sem.run_bind,Sem.run_pure,Result.andThen_ok,List.map_toArray,A3,Db,hvx,hrun]
 unfold Oper.wp;rw [hop];have hη:(e.bindRow z v').η z=v':=if_pos rfl;have hl:=ho.1;have m2:=m.trade (hb:=.row te es (xs++ys)) hH hz' (e':=e.bindRow z v') (w':=w') (λi=>or_congr (m.top i) Iff.rfl) (e.bindRow_ext _ _ hze) hgr.size hgr.os hgr.tape hgr.output NoDr.any
  (λc hc hne=>hgr.block c hc (λh=>hne (by simp [HB.owned,h]))) (λc hc=>by simp only [HB.owned,hη] at hc;exact hblk c hc) (λhX=>by
   have hkeep:∀ b,b<w.heap.size->¬ Γ.X e H b->w'.heap[b]?=w.heap[b]?:=λb hb hx=>hgr.block b hb (λh=>hx (.inr (List.mem_filterMap.2 ⟨_,Hp.mem_of hH,by simp [HB.owned,h]⟩)))
   obtain⟨q1,q2⟩:=rows_append hxe hye (by rw [hl,hsz]) hrep hrep2;refine⟨vs++us,?_,q1,λv hv=>?_,λi' hi' j hj=>?_⟩
   ·rw [hη,Af,<- hsz];exact hown'
   ·rcases List.mem_append.1 hv with hv|hv
    ·exact hone v hv
    ·exact hone2 v hv
   ·obtain⟨v,p1,p2⟩:=q2 i' hi' j hj;exact⟨v,p1,RepC.keep hgr.size hkeep hX p2⟩)
 exact⟨_,m2.put (s:=.row z) (v:=v') (Ab hd) ⟨.inr rfl,hη.symm,ownsRow_one hown'⟩⟩
end
section
variable {Γ : Ctx} {k : Nat} {L : Sl} {H : Hp} {K : cy} {ops : List Oper} {rest : List Oper} {t t' ty : TypeId} {x y : Operand}
theorem ds_append_rowR [NoDr Γ] (j:Nat) {d:Nat} {te t2 tb:TypeId} {pos:String} {af:Array Edge} {g:Option (Nat×Bool)} {i es:Nat} {xs ys:List (List D)} {H':Hp}
  (ht:Γ.sh t = .slice te) (hkn:(Γ.sh te).known=true) (hes:Γ.cells te=es) (hpos:Av 0 es=true) (hz:Nat.beq (aj Γ.τ te).zero.length (Γ.cells te)=true)
  (hx:ap L x = .row i) (hH:Hp.get H i=some (.row te es xs)) (hy:ap L y = .row j) (hHj:Hp.get H j=some (.row tb es ys)) (hw:au ops L g=some true) (hd:Av d Γ.n=true)
  (hroom:(xs.length+ys.length)*(aj Γ.τ te).bytes<=140737488355328) (h63:xs.length+ys.length<=maxLen) (hD:zn H i some=some H')
  (hk:DS false Γ ops rest K (k+1) ((d,.row k)::L) ((k,.row te es (xs++ys))::H')) :
  DS false Γ ops (⟨some d,.call { callee:=.builtin .append,args:=#[x,y],argTypes:=#[t,t] },t2,pos,af,g⟩::rest) K k L H:=by
 rw [ni] at hD;simp only [Option.some.injEq] at hD;subst hD;exact z6 hw ((op_append_rowR (gn k) ht hkn hes hpos hz hx hH hy hHj hd hroom h63).cast (ff k)) hk
theorem ds_eqnilR {d i es:Nat} {te tb:TypeId} {pos:String} {af:Array Edge} {g:Option (Nat×Bool)} {xs:List (List D)} (hx:ap L x = .row i) (hH:Hp.get H i=some (.row tb es xs)) (hy:ap L y = .nils) (ht:(aj Γ.τ t).sh = .slice te) (hd:Av d Γ.n=true) (hw:au ops L g=some true)
  (h1:xs=[]->DS false Γ ops rest K k ((d,.d (.bool true))::L) H) (h2:DS false Γ ops rest K k ((d,.d (.bool false))::L) H):DS false Γ ops (⟨some d,.binOp .eql t x y t',ty,pos,af,g⟩::rest) K k L H:=by
 refine gp hw λe a w m=>?_
 obtain⟨_,hvx,_⟩:=evT m hx (l9 · _);obtain⟨us,hown,_⟩:=(m.heap _ (Hp.mem_of hH)).2;have hvy:a.eval y = .slice none 0 0:=by
  have hok:opOk y:=by
   cases y with
   | const v=>simp only [ap] at hy;unfold cSV at hy;split at hy<;>simp_all [opOk,cOk]
   | _=>trivial
  have:=m.op y hok
  rw [hy] at this;exact this
 have hv:∃ ao n cap,e.η i = .slice ao n cap/\(ao=none->xs=[]):=by
  rcases hown.2 with ⟨hv,h0⟩|⟨gb,cap,cur,hv,_⟩
  ·exact⟨_,_,_,hv,λ_=>C4 h0⟩
  ·exact⟨_,_,_,hv,λh=>by cases h⟩
 obtain⟨ao,n,cap,hv,hnone⟩:=hv;have hrun:(execOp a.eval ⟨some d,.binOp .eql t x y t',ty,pos,af,g⟩).run Γ.P w = .ok (.value (.bool ao.isNone)) w:=by
  simp [execOp,hvx,hv,hvy,eqGuard,Lib.run_eql_slice_nil w t te ao n cap 0 0 (Ctx.slice ht)]
 unfold Oper.wp;rw [hrun];cases ao with
 | none=>exact⟨k,_,H,e,m.put (s:=.d (.bool true)) (v:=.bool true) (Ab hd) .bool,h1 (hnone rfl)⟩
 | some ad=>exact⟨k,_,H,e,m.put (s:=.d (.bool false)) (v:=.bool false) (Ab hd) .bool,h2⟩
end
attribute [local irreducible] DW DS DL DQ Ev FnOk FnP ef bt DT
theorem cloneIR_fn (l:List Int) (hl:l.length<=17592186044416):FnOk false Tryz.prog tab b9 67 [.row 0] 1 1 [(0,.row 3 1 (l.map aq))] (λ_ r H=>r = .d (.slice 1 (l.map aq))/\H=[(0,.row 3 1 (l.map aq))]):=by
 refine frE Tryz.func67 ?_;intro O w0 E0 β0;have la:(l.map aq).length=l.length:=Aa _;repeat' (first|refine zs ?_|fail)
 refine ds_eqnilR rfl rfl rfl rfl rfl rfl (λh=>?_) ?_
 ·have h0:l=[]:=List.map_eq_nil_iff.1 h;subst h0;repeat' (first|refine zs ?_|fail)
  refine ak (cr 2 1 rfl) ?_;repeat' (first|refine zr ?_|fail)
  exact⟨.inl rfl,_,rfl,kp id 1 _ ([(0,.row 3 1 [])]) ⟨rfl,rfl⟩⟩
 ·repeat' (first|(apply x5;exact rfl;exact rfl;exact rfl;exact rfl;exact rfl;exact rfl;exact rfl;exact rfl)|(first|refine zs ?_|fail))
  refine ds_append_rowR 0 rfl rfl rfl rfl rfl rfl rfl rfl rfl rfl rfl ?_ ?_ rfl ?_
  ·show (0+(l.map aq).length)*8<=_;omega
  ·show 0+(l.map aq).length<=_;unfold maxLen;omega
  repeat' (first|refine zs ?_|fail)
  refine ak (bh 2 rfl rfl rfl) ?_;repeat' (apply c9)
  exact⟨.inl rfl,_,rfl,kp id 1 _ ([(0,.row 3 1 (l.map aq))]) ⟨rfl,rfl⟩⟩
theorem putW_app {a b out:List (List Int)} (h:qy a out=true):m8 (a++b) out=m8 b (m8 a out)/\qy (a++b) out=qy b (m8 a out)/\(m8 a out).length<=2000:=by
 have h:=of_decide_eq_true h;have hp:m8 a out=out++a:=by unfold m8;exact Ai (by rw [Af];omega)
 rw [hp];refine⟨by unfold m8;rw [Cf],?_,by rw [Af];exact h⟩
 unfold qy;rw [Af,Af];exact decide_eq_decide.2 (by omega)
theorem putW_many {a b out:List (List Int)} (h:qy a out=false):m8 (a++b) out=m8 a out/\qy (a++b) out=false:=by
 have h:=of_decide_eq_false h;refine⟨?_,decide_eq_false (by rw [Af];omega)⟩
 unfold m8;rw [<- Cf,List.take_append_of_le_length (by rw [Af];omega)]
theorem uh:∀ {ts:List Trm} {ns:List Int} {e e':RE},o6 e->(∀ n∈ns,-1000000<=n/\n<=1000000)->cw e ts ns=some e'->o6 e'
 | [],_,e,e',hn,_,h=>by simp only [cw,Option.some.injEq] at h;subst h;exact hn
 | _::_,[],e,e',hn,_,h=>by simp only [cw,Option.some.injEq] at h;subst h;exact hn
 | t::ts,n::ns,e,e',hn,hns,h=>by
  rw [cw] at h
  cases hv:vOf e t with
  | some x =>
   rw [hv] at h
   simp only at h
   split at h
   ·exact uh hn (λm hm=>hns m (Ag _ hm)) h
   ·cases h
  | none =>
   rw [hv] at h
   simp only at h
   refine uh (λv x hx=>?_) (λm hm=>hns m (Ag _ hm)) h
   by_cases hq:t.var.toNat=v
   ·subst hq
    by_cases hl:t.var.toNat<e.length
    ·rw [List.getElem?_set_self hl] at hx
     simp at hx;subst hx
     exact hns n (List.mem_cons_self ..)
    ·rw [A8 (by rw [List.length_set];omega)] at hx;cases hx
   ·rw [List.getElem?_set_ne hq] at hx
    exact hn v x hx
def vk (W:RE->List (List Int)) (e:RE) (l:Ltl) (x:Fct):List (List Int):=if x.pred=l.pred then matW W (cw e l.terms x.args) else []
theorem litW_yes' {S:List Fct} {W:RE->List (List Int)} {l:Ltl} {e:RE} (h:l.kind=1):xm S W l e=S.flatMap (vk W e l):=by
 unfold xm;rw [if_pos h];rfl
def FindOk (r:Rul) (S:List Fct) (left:List Ltl):Prop:=∀ (e:RE) (out:List (List Int)),okB S e.length left->o6 e->Bd left (bx e)->out.length<=2000 ->
 FnOk false Tryz.prog tab b9 116 [.loc 0 0,.d (.slice 4 (left.map ay))] 3 4 (pfH r S e out)
  (λk2 res H=>k2=4/\res = .d (.bool (qy (ix S left.length left e) out))/\H=pfH r S e (m8 (ix S left.length left e) out))
theorem find1_fn (r:Rul) (S:List Fct) (left:List Ltl) (hf:FindOk r S left) (e:RE) (out:List (List Int)) (h1:okB S e.length left) (h2:o6 e) (h3:Bd left (bx e)) (h4:out.length<=2000) :
  FnOk false Tryz.prog tab b9 165 [.loc 3 0,.loc 4 0] 5 6 (goH r S left e out) (λk2 res H=>k2=6/\res = .d (.bool (qy (ix S left.length left e) out))/\H=goH r S left e (m8 (ix S left.length left e) out)):=by
 refine frE Tryz.func165 ?_;intro O w0 E0 β0;have w:=hf e out h1 h2 h3 h4;clear hf;generalize qy (ix S left.length left e) out=bb at w ⊢;generalize m8 (ix S left.length left e) out=o2 at w ⊢;repeat' (first|refine zs ?_|fail)
 refine bg (λj=>match j with|3=>5|j=>j) w rfl rfl rfl rfl ⟨rfl,rfl,rfl,rfl,trivial⟩ rfl rfl rfl rfl rfl rfl ?_ ?_
 ·rintro k2 res H2 ⟨rfl,rfl,rfl⟩;exact⟨rfl,rfl⟩
 rintro k2 res H2 ⟨rfl,rfl,rfl⟩;change DS _ _ _ _ _ _ _ _;repeat' (first|refine zr ?_|fail)
 exact⟨.inl rfl,_,rfl,kp (λj=>match j with|5=>9|j=>j) 6 _ (goH r S left e o2) ⟨rfl,rfl,rfl⟩⟩
theorem find_nil (r:Rul) (S:List Fct):FindOk r S []:=by
 intro e out h1 _ _ h4;refine frE Tryz.func116 ?_;intro O w0 E0 β0;have he:=h1.vle;have w:=cloneIR_fn (bq e) (by rw [dx];omega);have hfe:ix S 0 [] e=[bq e]:=rfl;rw [show ([]:List Ltl).length=0 from rfl,hfe];repeat' ((fail_if_success (apply bk 2));(first|refine zs ?_|fail))
 refine j6 12 (by kernel_rfl) (by kernel_rfl) (by kernel_rfl) rfl rfl rfl ?_;repeat' refine z5 ?_
 refine s8 (λj=>match j with|0=>1|j=>j) w (by rintro _ rfl;exact⟨rfl,rfl⟩) ⟨_,rfl⟩ rfl rfl rfl rfl ⟨rfl,trivial⟩ rfl rfl rfl rfl rfl rfl rfl rfl rfl ?_;rintro _ rfl;have lo:(out.map ey).length=out.length:=Aa _;repeat' (first|refine zr ?_|fail)
 have hp:m8 [bq e] out=out++[bq e]:=by unfold m8;exact Ai (by simp only [Af,Au];omega)
 rw [hp];have hfew:decide (((((out.map ey++[[D.slice 1 ((bq e).map aq)]]).length:Nat):Int))<=2000)=qy [bq e] out:=by
  unfold qy;simp only [Af,Au,lo];exact decide_eq_decide.2 (by omega)
 exact⟨.inl rfl,_,rfl,λj=>match j with|3=>16|j=>j,4,.d (.bool _),pfH r S e (out++[bq e]),rfl,⟨rfl,rfl,rfl,by rw [Ar];rfl,trivial⟩,rfl,rfl,rfl,rfl,rfl,rfl,rfl,congrArg (λb=>SV.d (.bool b)) hfew,rfl⟩
theorem find_step (r:Rul) (S:List Fct) (hS:Strict S) (hS2:S.length<=4398046511104) (left:List Ltl) (hne:left≠[]) (ih:∀ i (_:i<left.length),FindOk r S (left.eraseIdx i)):FindOk r S left:=by
 intro e out h1 h2 h3 h4;refine frE Tryz.func116 ?_;intro O w0 E0 β0;have ll:(left.map ay).length=left.length:=Aa _;have hl4:=h1.len;have hpos:0<left.length:=List.length_pos_iff.2 hne;have hnx:=next_lt hne h1.lit h3;have hnr:=next_is hnx;have w1:=next_fn r S out e left h1.lit (by omega) hnx h1.tlen;have hB':∀ e',leB (bx e) (bx e')->((∀ t∈d8 left[e6 e left],isT (bx e') t=true)∨∀ ds,co ds left[e6 e left]=false)->Bd (left.eraseIdx (e6 e left)) (bx e'):=λe' k1 k2=>Bd_rest hnx h3 k1 k2
 have hok':∀ e':RE,e'.length=e.length->okB S e'.length (left.eraseIdx (e6 e left)):=λe' k1=>by
  have hsub:∀ l∈left.eraseIdx (e6 e left),l∈left:=λl hl=>(sx hnx l).2 (.inr hl)
  rw [k1];exact⟨λl hl=>h1.lit l (hsub l hl),λl hl=>h1.op l (hsub l hl),λl hl=>h1.nums l (hsub l hl),h1.facts,by rw [D7];split<;>omega,h1.vle,λl hl=>h1.tlen l (hsub l hl)⟩
 have hfe:ix S left.length left e=xm S (ix S (left.length-1) (left.eraseIdx (e6 e left))) left[e6 e left] e:=by
  obtain⟨l0,ls,rfl⟩:=List.exists_cons_of_ne_nil hne;rw [List.length_cons,ix,Ad hnx,Nat.add_sub_cancel]
 have hel:(left.eraseIdx (e6 e left)).length=left.length-1:=by rw [D7,if_pos hnx]
 have ih':=ih _ hnx;have hlm:=Aj hnx;have hlo:=h1.lit _ hlm;have hlop:=h1.op _ hlm;have hlnum:=h1.nums _ hlm;have hl3:=h1.tlen _ hlm;rw [hfe,<- hel];clear ih hfe h3;have hc:Fn 164 [.d (.slice 1 [[.slice 4 ((left.take (e6 e left)).map ay)],[.slice 4 ((left.drop (e6 e left+1)).map ay)]])] (λr=>r = .d (.slice 4 ((left.eraseIdx (e6 e left)).map ay))):=by
  have h:=concatLtl_fn [left.take (e6 e left),left.drop (e6 e left+1)] (by simp only [A3,Db,List.sum_cons,List.sum_nil,Aq,A7];omega) (by simp);rw [show [left.take (e6 e left),left.drop (e6 e left+1)].flatten=left.eraseIdx (e6 e left) by rw [List.eraseIdx_eq_take_drop_succ];simp] at h;exact h
 repeat' (first|refine zs ?_|(refine zm ?_ ?_<;>intro hg)|(exfalso;omega))
 (refine bg id (w1) rfl rfl rfl rfl ⟨rfl,rfl,rfl,rfl,trivial⟩ rfl rfl rfl rfl rfl rfl ?_ ?_)
 ·rintro k2 res H2 ⟨rfl,rfl⟩;exact⟨rfl,rfl⟩
 rintro k2 res H2 ⟨rfl,rfl⟩;change DS _ _ _ _ _ _ _ _;clear w1;generalize e6 e left=j at *;repeat' ((fail_if_success (apply ip 8));(first|refine zs ?_|refine z22 ?_ (hc:=by apply hc)|fail))
 all_goals try (exfalso;omega)
 refine ak (ai (k':=7) (L':=[(2,.loc 3 0),(6,.loc 6 0),(8,.fn 165 [.loc 3 0,.loc 4 0])]) (H':=(6,litB left[j])::goH r S (left.eraseIdx j) e out) (λz=>match z with|3=>4|4=>15|5=>3|6=>5|z=>z) ⟨rfl,rfl,rfl,trivial⟩ ⟨rfl,rfl,rfl,rfl,rfl,rfl,rfl,trivial⟩ rfl rfl rfl rfl rfl rfl) ?_;clear hc ll hlm;generalize left[j]=l at *;generalize left.eraseIdx j=rest at *;have hthen:∀ (ts:List Trm) (ns:List Int) (o:List (List Int)),o.length<=2000->ts.length=ns.length->(∀ t∈ts,okT e.length t)->(∀ n∈ns,-1000000<=n/\n<=1000000)->d8 l=ts->∀ e',cw e ts ns=some e' ->
   FnOk false Tryz.prog tab b9 165 [.loc 3 0,.loc 4 0] 5 6 (goH r S rest e' o) (λk2 res H=>k2=6/\res = .d (.bool (qy (ix S rest.length rest e') o))/\H=goH r S rest e' (m8 (ix S rest.length rest e') o)):=by
  intro ts ns o q1 q2 q3 q4 q5 e' q6;obtain⟨m1,_,m3⟩:=f9 q2 q3 q6;exact find1_fn r S rest ih' e' o (hok' e' m1) (uh h2 q4 q6) (hB' e' (by rw [m3];exact k9 _ _) (.inl (by rw [q5,m3];exact m6 (by rw [cx];exact q3)))) q1
 have hthen0:l.kind≠1->l.kind≠4->FnOk false Tryz.prog tab b9 165 [.loc 3 0,.loc 4 0] 5 6 (goH r S rest e out) (λk2 res H=>k2=6/\res = .d (.bool (qy (ix S rest.length rest e) out))/\H=goH r S rest e (m8 (ix S rest.length rest e) out)):=λn1 n4 =>
  find1_fn r S rest ih' e out (hok' e rfl) h2 (hB' e (leB.refl _) (.inr λds=>by unfold co;rw [decide_eq_false n1,decide_eq_false n4];rfl)) h4
 have hfacts:=h1.facts;have hfl:=hlo.facts;have hT:=hlo.terms;have hc3:=hlo.calc3;have ht2:=hlo.test2;have hkind:=hlo.kind;have hvle:=h1.vle;clear ih' hB' hok' hlo h1 hel hnx hpos;generalize ix S rest.length rest=W at hthen hthen0 ⊢;by_cases hk1:l.kind=1
 ·rw [litW_yes' hk1];have lS:(S.map ae).length=S.length:=Aa _;repeat' (first|refine zs ?_|(refine zm ?_ ?_<;>intro hg)|(exfalso;omega))
  refine ag (ι:=Nat) (λi=>⟨7,[(2,.loc 3 0),(6,.loc 6 0),(8,.fn 165 [.loc 3 0,.loc 4 0]),(68,.d (.slice 2 (S.map ae))),(69,.d (.int .i64 S.length)),(70,.d (.int .i64 i))],(6,litB l)::goH r S rest e (m8 ((S.take i).flatMap (vk W e l)) out)⟩)
   (λi=>i<=S.length/\qy ((S.take i).flatMap (vk W e l)) out=true) (λi=>S.length-i) 0 ⟨Ak _,s7 h4⟩ (ai id ⟨rfl,rfl,rfl,rfl,by rw [<- lS];rfl,rfl,trivial⟩ ⟨rfl,rfl,rfl,rfl,rfl,rfl,by rw [show (S.take 0).flatMap (vk W e l)=[] from rfl,sq h4];rfl,trivial⟩ rfl rfl rfl rfl rfl rfl) ?_
  rintro i ⟨g1,g2⟩;dsimp only at g1 g2 ⊢;by_cases hi:i<S.length
  ·have hx:=Aj hi;have hst:(S.take (i+1)).flatMap (vk W e l)=(S.take i).flatMap (vk W e l)++vk W e l S[i]:=by rw [An hi,Di];simp
   obtain⟨p1,p2,p3⟩:=putW_app (b:=vk W e l S[i]) g2;have hwh:S.flatMap (vk W e l)=(S.take (i+1)).flatMap (vk W e l)++(S.drop (i+1)).flatMap (vk W e l):=by rw [<- Di,List.take_append_drop]
   have hfx:=hfacts _ hx;have hfa:=hfl hk1 _ hx;rw [<- hst] at p1 p2;generalize m8 ((S.take i).flatMap (vk W e l)) out=o at p1 p2 p3 ⊢;have w:=match_fnR r S rest o e l.terms S[i].args W;by_cases hp:S[i].pred=l.pred
   ·have hfw:vk W e l S[i]=matW W (cw e l.terms S[i].args):=by unfold vk;rw [if_pos hp]
    have w:=w (hfa hp).symm (by omega) hT p3 (hthen l.terms S[i].args o p3 (hfa hp).symm hT hfx (by unfold d8;rw [if_pos hk1]));rw [<- hfw,<- p1,<- p2] at w;repeat' (first|refine zr ?_|(refine zm ?_ ?_<;>intro hg)|(exfalso;omega))
    (refine bg id (w) rfl rfl rfl rfl ⟨rfl,rfl,rfl,rfl,rfl,rfl,trivial⟩ rfl rfl rfl rfl rfl rfl ?_ ?_)
    ·rintro k2 res H2 ⟨rfl,rfl,rfl⟩;exact⟨rfl,rfl⟩
    rintro k2 res H2 ⟨rfl,rfl,rfl⟩;change DS _ _ _ _ _ _ _ _;cases hb:qy ((S.take (i+1)).flatMap (vk W e l)) out with
    | true =>
     repeat' (first|refine zs ?_|(exfalso;omega))
     exact⟨i+1,⟨hi,hb⟩,er (λj=>match j with|5=>13|j=>j),by omega⟩
    | false =>
     obtain⟨q1,q2⟩:=putW_many (b:=(S.drop (i+1)).flatMap (vk W e l)) hb;rw [<- hwh] at q1 q2;rw [q1,q2];repeat' (first|refine zr ?_|(exfalso;omega))
     exact⟨.inl rfl,_,rfl,kp (λj=>match j with|3=>13|j=>j) 4 _ (pfH r S e _) ⟨rfl,rfl,rfl⟩⟩
   ·have hfw:vk W e l S[i]=[]:=by unfold vk;rw [if_neg hp]
    rw [hfw] at p1 p2;rw [sq p3] at p1;rw [s7 p3] at p2;repeat' (first|refine zr ?_|(refine zm ?_ ?_<;>intro hg)|(exfalso;omega))
    exact⟨i+1,⟨hi,p2⟩,ai id ⟨rfl,rfl,rfl,rfl,rfl,rfl,trivial⟩ ⟨rfl,rfl,rfl,rfl,rfl,rfl,by rw [p1];rfl,trivial⟩ rfl rfl rfl rfl rfl rfl,by omega⟩
  ·rw [Ai (by omega)] at g2 ⊢;rw [g2];repeat' (first|refine zr ?_|(refine zm ?_ ?_<;>intro hg)|(exfalso;omega))
   exact⟨.inl rfl,_,rfl,kp (λj=>match j with|3=>5|j=>j) 4 _ (pfH r S e _) ⟨rfl,rfl,rfl⟩⟩
 ·have hrd:tw e l=true:=hnr.resolve_right hk1;by_cases hk4:l.kind=4
  ·have h3:=hc3 hk4;have hnum:∀ t∈l.terms,-1000000<=vA (bq e) t/\vA (bq e) t<=1000000:=λt ht=>vA_num h2 (hlnum t ht)
   have hall:(l.terms.take 2).all (λt=>(vOf e t).isSome)=true:=by
    unfold tw pc at hrd;rw [if_pos hk4] at hrd;exact hrd
   have hlW:xm S W l e=if numB (kx l (bq e)) then matW W (cw e (l.terms.drop 2) [kx l (bq e)]) else []:=by
    unfold xm;rw [if_neg hk1,if_pos hk4];rfl
   have w:=values_fn r S out e (l.terms.take 2) (λt ht=>hT t (Bq ht)) (by rw [Aq];omega);rw [hall,if_pos rfl] at w;have hthen4:=hthen (l.terms.drop 2) [kx l (bq e)] out h4 (by rw [A7,h3];rfl) (λt ht=>hT t (B2 ht));have hlt:d8 l=l.terms.drop 2:=by unfold d8;rw [if_neg hk1]
   have wm:=λhn:numB (kx l (bq e))=true=>match_fnR r S rest out e (l.terms.drop 2) [kx l (bq e)] W (by rw [A7,h3];rfl) (by rw [A7];omega) (λt ht=>hT t (B2 ht)) h4
    (hthen4 (by intro n hn';rw [List.mem_singleton] at hn';subst hn';exact numB_iff.1 hn) hlt)
   have hcl:kx l (bq e)=mt l.op ((l.terms.map (vA (bq e))).getD 0 0) ((l.terms.map (vA (bq e))).getD 1 0):=rfl;rw [hcl] at hlW wm;clear hthen4 hthen hthen0 hcl hlt hall hrd hnr;obtain⟨kind,op,pred,terms⟩:=l;dsimp only at h3 hk4 hk1 hnum w wm hlW hT;match terms,h3 with
   | [t1,t2,t3],_ =>
    simp only [A3,Db,List.getD_cons_zero,List.getD_cons_succ,List.take_succ_cons,List.take_zero,List.drop_succ_cons,List.drop_zero] at w wm hlW;have n1:=hnum t1 (by simp);have n2:=hnum t2 (by simp);clear hnum;generalize vA (bq e) t1=x at *;generalize vA (bq e) t2=y at *;have w4:=calc_fn op x y n1 n2;have w5:=qg (mt op x y);repeat' (first|refine zs ?_|(refine zm ?_ ?_<;>intro hg)|fail)
    all_goals try (exfalso;first|omega|exact hk1 hg|exact hg hk4|exact hk4 hg|exact hk3 hg|exact hg hk3)
    refine s8 (λj=>match j with|3=>5|j=>j) w (by rintro _ rfl;exact⟨rfl,rfl⟩) ⟨_,rfl⟩ rfl rfl rfl rfl ⟨rfl,rfl,rfl,rfl,trivial⟩ rfl rfl rfl rfl rfl rfl rfl rfl rfl ?_;rintro _ rfl;clear w;repeat' ((fail_if_success (apply bk 20));(first|refine zs ?_|refine z22 ?_ (hc:=by apply w4)|fail))
    all_goals try (exfalso;first|omega|exact hk1 hg|exact hg hk4|exact hk4 hg|exact hk3 hg|exact hg hk3)
    cases hn:numB (mt op x y) with
    | false =>
     rw [hn] at hlW w5;rw [hlW,if_neg (by simp),s7 h4,sq h4];repeat' (first|refine zr ?_|refine z22 ?_ (hc:=by apply w5)|fail)
     all_goals try (exfalso;first|omega|exact hk1 hg|exact hg hk4|exact hk4 hg|exact hk3 hg|exact hg hk3)
     exact⟨.inl rfl,_,rfl,kp (λj=>match j with|3=>5|j=>j) 4 _ (pfH r S e out) ⟨rfl,rfl,rfl⟩⟩
    | true =>
     have wm:=wm hn;rw [hn] at hlW w5;rw [hlW,if_pos rfl];refine j6 11 (by kernel_rfl) (by kernel_rfl) (by kernel_rfl) rfl rfl rfl ?_;repeat' (first|refine zs ?_|refine z22 ?_ (hc:=by apply w5)|fail)
     all_goals try (exfalso;first|omega|exact hk1 hg|exact hg hk4|exact hk4 hg|exact hk3 hg|exact hg hk3)
     (refine bg id (wm) rfl rfl rfl rfl ⟨rfl,rfl,rfl,rfl,rfl,rfl,trivial⟩ rfl rfl rfl rfl rfl rfl ?_ ?_)
     ·rintro k2 res H2 ⟨rfl,rfl,rfl⟩;exact⟨rfl,rfl⟩
     rintro k2 res H2 ⟨rfl,rfl,rfl⟩;change DS _ _ _ _ _ _ _ _;repeat' (first|refine zr ?_|fail)
     exact⟨.inl rfl,_,rfl,kp (λj=>match j with|3=>12|j=>j) 4 _ (pfH r S e _) ⟨rfl,rfl,rfl⟩⟩
  ·have hlW:xm S W l e=if holdE S l (bq e) then W e else []:=by unfold xm;rw [if_neg hk1,if_neg hk4]
   have hth:=hthen0 hk1 hk4;clear hthen0;have hall:l.terms.all (λt=>(vOf e t).isSome)=true:=by
    unfold tw pc at hrd;rw [if_neg hk4] at hrd;exact hrd
   have w:=values_fn r S out e l.terms hT (by omega);rw [hall,if_pos rfl] at w;clear hthen hall hrd hnr;by_cases hk3:l.kind=3
   ·have h2':=ht2 hk3;obtain⟨kind,op,pred,terms⟩:=l;dsimp only at h2' hk3 hk4 hk1 w hlW hT;match terms,h2' with
    | [t1,t2],_ =>
     have hh:holdE S ⟨kind,op,pred,[t1,t2]⟩ (bq e)=zo op (vA (bq e) t1) (vA (bq e) t2):=by subst hk3;rfl
     rw [hh] at hlW;simp only [A3,Db] at w;generalize vA (bq e) t1=x at *;generalize vA (bq e) t2=y at *;have w4:=test_fn op x y;repeat' (first|refine zs ?_|(refine zm ?_ ?_<;>intro hg)|fail)
     all_goals try (exfalso;first|omega|exact hk1 hg|exact hg hk4|exact hk4 hg|exact hk3 hg|exact hg hk3)
     refine bg (λj=>match j with|3=>5|j=>j) w rfl rfl rfl rfl ⟨rfl,rfl,rfl,rfl,trivial⟩ rfl rfl rfl rfl rfl rfl ?_ ?_
     ·rintro k2 res H2 ⟨rfl,rfl⟩;exact⟨rfl,rfl⟩
     rintro k2 res H2 ⟨rfl,rfl⟩;change DS _ _ _ _ _ _ _ _;cases hb:zo op x y with
     | false =>
      rw [hb] at hlW w4;rw [hlW,if_neg (by simp),s7 h4,sq h4];repeat' (first|refine zr ?_|refine z22 ?_ (hc:=by apply w4)|(refine zm ?_ ?_<;>intro hg)|fail)
      all_goals try (exfalso;first|omega|exact hk1 hg|exact hg hk4|exact hk4 hg|exact hk3 hg|exact hg hk3)
      exact⟨.inl rfl,_,rfl,kp (λj=>match j with|3=>5|j=>j) 4 _ (pfH r S e out) ⟨rfl,rfl,rfl⟩⟩
     | true =>
      rw [hb] at hlW w4;rw [hlW,if_pos rfl];repeat' (first|refine zs ?_|refine z22 ?_ (hc:=by apply w4)|(refine zm ?_ ?_<;>intro hg)|fail)
      all_goals try (exfalso;first|omega|exact hk1 hg|exact hg hk4|exact hk4 hg|exact hk3 hg|exact hg hk3)
      (refine qc id (hth) rfl rfl rfl rfl rfl rfl ⟨rfl,rfl,rfl,rfl,rfl,rfl,trivial⟩ rfl rfl rfl rfl rfl rfl ?_ ?_)
      ·rintro k2 res H2 ⟨rfl,rfl,rfl⟩;exact⟨rfl,rfl⟩
      rintro k2 res H2 ⟨rfl,rfl,rfl⟩;change DS _ _ _ _ _ _ _ _;repeat' (first|refine zr ?_|fail)
      exact⟨.inl rfl,_,rfl,kp (λj=>match j with|3=>12|j=>j) 4 _ (pfH r S e _) ⟨rfl,rfl,rfl⟩⟩
   ·have hk2:l.kind=2:=by omega
    have hh:holdE S l (bq e) = !hasF S ⟨l.pred,l.terms.map (vA (bq e))⟩:=by unfold holdE;rw [if_neg hk1,if_pos hk2]
    rw [hh] at hlW;have w4:=in_fn S ⟨l.pred,l.terms.map (vA (bq e))⟩ hS2 hS;repeat' (first|refine zs ?_|(refine zm ?_ ?_<;>intro hg)|fail)
    all_goals try (exfalso;first|omega|exact hk1 hg|exact hg hk4|exact hk4 hg|exact hk3 hg|exact hg hk3)
    refine bg (λj=>match j with|3=>5|j=>j) w rfl rfl rfl rfl ⟨rfl,rfl,rfl,rfl,trivial⟩ rfl rfl rfl rfl rfl rfl ?_ ?_
    ·rintro k2 res H2 ⟨rfl,rfl⟩;exact⟨rfl,rfl⟩
    rintro k2 res H2 ⟨rfl,rfl⟩;change DS _ _ _ _ _ _ _ _;cases hb:hasF S ⟨l.pred,l.terms.map (vA (bq e))⟩ with
    | true =>
     rw [hb] at hlW w4;rw [hlW,if_neg (by simp),s7 h4,sq h4];repeat' (first|refine zr ?_|refine z22 ?_ (hc:=by apply w4)|(refine zm ?_ ?_<;>intro hg)|fail)
     all_goals try (exfalso;first|omega|exact hk1 hg|exact hg hk4|exact hk4 hg|exact hk3 hg|exact hg hk3)
     exact⟨.inl rfl,_,rfl,kp (λj=>match j with|3=>5|j=>j) 4 _ (pfH r S e out) ⟨rfl,rfl,rfl⟩⟩
    | false =>
     rw [hb] at hlW w4;rw [hlW,if_pos (by simp)];repeat' (first|refine zs ?_|refine z22 ?_ (hc:=by apply w4)|(refine zm ?_ ?_<;>intro hg)|fail)
     all_goals try (exfalso;first|omega|exact hk1 hg|exact hg hk4|exact hk4 hg|exact hk3 hg|exact hg hk3)
     (refine qc id (hth) rfl rfl rfl rfl rfl rfl ⟨rfl,rfl,rfl,rfl,rfl,rfl,trivial⟩ rfl rfl rfl rfl rfl rfl ?_ ?_)
     ·rintro k2 res H2 ⟨rfl,rfl,rfl⟩;exact⟨rfl,rfl⟩
     rintro k2 res H2 ⟨rfl,rfl,rfl⟩;change DS _ _ _ _ _ _ _ _;repeat' (first|refine zr ?_|fail)
     exact⟨.inl rfl,_,rfl,kp (λj=>match j with|3=>12|j=>j) 4 _ (pfH r S e _) ⟨rfl,rfl,rfl⟩⟩
theorem find_fn (r:Rul) (S:List Fct) (hS:Strict S) (hS2:S.length<=4398046511104):∀ (n:Nat) (left:List Ltl),left.length=n->FindOk r S left
 | 0,left,h=>by rw [C4 h];exact find_nil r S
 | n+1,left,h=>find_step r S hS hS2 left (λh0=>by rw [h0] at h;cases h) λi hi=>find_fn r S hS hS2 n _ (by rw [D7,if_pos hi];omega)
end
section
open Go Go.RowKit Go.Sort Go.Shelf
section
variable {β : Type}
def Held.val {X:Nat->Prop} {w:World} {enc:β->List D} (h:Held X w 1 enc):Value:=h.vs.headD undef
theorem Held.vs1 {X:Nat->Prop} {w:World} {enc:β->List D} (h:Held X w 1 enc):h.vs=[h.val]:=by
 have:=h.len
 unfold Held.val;match hv:h.vs,this with
 | [v],_=>rfl
theorem sort1_heap {α:Type} [Inhabited α] {w:World} {g n:Nat} {os:Array Obj} {cur:Array Value} {e:TypeId} {fr:Nat×Nat} (enc:α->Value) (d:Array α) (hb:w.heap[g]?=some (.cells cur e fr)) :
  (sortWorld enc w g 0 n d os).heap[g]?=some (.cells (putCells enc 0 d cur) e fr):=by
 have hg:g<w.heap.size:=(Array.getElem?_eq_some_iff.1 hb).1;unfold sortWorld;rw [heap_grow_old _ _ (by simpa using hg)];simp [putRow,mapBlock,Sort.ahead,Ee,hb,onCells]
theorem vx {α:Type} [Inhabited α] {w:World} {g n:Nat} {os:Array Obj} (enc:α->Value) (d:Array α) {b:Nat} (hb:b<w.heap.size) (hne:b≠g) :
  (sortWorld enc w g 0 n d os).heap[b]?=w.heap[b]?:=by
 unfold sortWorld;rw [heap_grow_old _ _ (by simpa using hb)];have:g≠b:=λh=>hne h.symm
 simp [putRow,mapBlock,Sort.ahead,Ee,this]
theorem sort1_size {α:Type} [Inhabited α] {w:World} {g n:Nat} {os:Array Obj} (enc:α->Value) (d:Array α):w.heap.size<=(sortWorld enc w g 0 n d os).heap.size:=by
 unfold sortWorld;simp
theorem take_putCells1 {α:Type} [Inhabited α] (enc:α->Value) (cur:Array Value) (d:Array α) (h:d.size<=cur.size):(putCells enc 0 d cur).toList.take d.size=d.toList.map enc:=by
 apply List.ext_getElem?;intro j;by_cases hj:j<d.size
 ·rw [List.getElem?_take_of_lt hj,Br,Bg,Br,D3 hj];simp [putCells,hj,show j<cur.size by omega]
 ·rw [List.getElem?_take_eq_none (by omega),A8 (by simp;omega)]
variable {P : Program} {τ : List (Nat×TI)} {τok : dz P τ} {ρ : Ren}
theorem sort_row1 (L:SlLaysF.n6 P ρ) (enc:β->List D) (hes:∀ x,(enc x).length=1) (cf:β->β->Int) (hO:SWO (ltOf cf)) (g:Nat)
  (hc:∀ a b,FnP true P τ τok g ((enc a++enc b).map .d) (λr=>r = .d (.int .i64 (cf a b)))) (te:TypeId) (l:List β) (hl:l.length<4611686018427387904)
  {X:Nat->Prop} {e:Env} {w:World} {i:Nat} (hXo:∀ c,HB.owned e (i,.row te 1 (l.map enc))=some c->X c) (hXl:∀ b,X b->b<w.heap.size) (hrow:HRel X e w (i,.row te 1 (l.map enc))) :
  Calls P (ρ.f 6) #[e.η i,.func (.func g) #[] #[]] w λen w'=>en = .returned (.tuple #[])/\w.heap.size<=w'.heap.size/\w'.os=w.os/\w'.tape=w.tape/\w'.output=w.output /\
   (∀ c,c<w.heap.size->HB.owned e (i,.row te 1 (l.map enc))≠some c->w'.heap[c]?=w.heap[c]?)/\∃ l':List β,l'.Perm l/\l'.Pairwise (λa b=>cf b a ≥ 0)/\HRel X e w' (i,.row te 1 (l'.map enc)):=by
 obtain⟨us,hown,hlen,hone2,hrep⟩:=hrow;by_cases hne:l=[]
 ·subst hne;obtain⟨p,cap,hv⟩:∃ p cap,e.η i = .slice p 0 cap:=by
   rcases hown.2 with ⟨hv,_⟩|⟨gb,cap,cur,hv,_⟩
   ·exact⟨_,_,hv⟩
   ·exact⟨_,_,hv⟩
  rw [hv];refine (AnyF.slices_SortFunc_none { L with } p cap _ w).mono ?_;rintro en w' ⟨rfl,rfl⟩;exact⟨rfl,Ah _,rfl,rfl,rfl,λ_ _ _=>rfl,[],.refl _,.nil,us,hown,hlen,hone2,hrep⟩
 ·have hpos:0<l.length:=List.length_pos_iff.2 hne;have lm:(l.map enc).length=l.length:=Aa _;obtain⟨hul,hcase⟩:=hown;rw [lm] at hul hcase;rcases hcase with ⟨_,h⟩|⟨gb,cap,cur,hv,_,hblk,hnc,hcm,hcs,htk⟩
  ·omega
  have hgb:gb<w.heap.size:=(Array.getElem?_eq_some_iff.1 hblk).1;have howned:∀ (m:List (List D)),HB.owned e (i,.row te 1 m)=some gb:=λm=>by simp [HB.owned,hv,Value.ownBlock]
  have hXg:X gb:=hXo gb (howned _);obtain⟨d,d1,d2⟩:=held_of (X:=X) (w:=w) (enc:=enc) hes l us hul hone2 (λi hi j hj=>by
   obtain⟨v,q1,q2⟩:=hrep i (by rw [lm];exact hi) j (by simpa using hj);exact⟨v,q1,by simpa using q2⟩)
  have hdl:d.length=l.length:=by rw [<- d1,Aa]
  haveI:Inhabited (Held X w 1 enc):=⟨d[0]'(by omega)⟩
  have hflat:∀ (q:List (Held X w 1 enc)),(q.map Held.vs).flatten=q.map Held.val:=by
   intro q;induction q with
   | nil=>rfl
   | cons x q ih=>rw [A3,List.flatten_cons,ih,x.vs1];rfl
  have hF:d.map Held.val=us:=by rw [<- hflat,d2]
  have hHold:Holds (Held.val (X:=X) (w:=w) (enc:=enc)) w gb 0 d.toArray:=by
   intro t ht;have ht':t<l.length:=by simpa [hdl] using ht
   have hc1:cur[t]?=us[t]?:=by
    rw [<- htk,List.getElem?_take,if_pos (by omega),Br]
   refine⟨?_,by simp [World.frozen?,hblk]⟩
   simp only [World.cell?,hblk,Nat.zero_add];simp only [Option.isSome_none,Bool.false_eq_true,if_false];rw [hc1,<- hF,Bg,getElem!_pos _ t ht];have:d[t]?=some d[t]:=Ad (by omega)
   rw [this];simp
  have hcmp:CmpLays1 P g #[] (Held.val (X:=X) (w:=w) (enc:=enc)) (λx y=>cf x.x y.x) gb 0 d.toArray.size w:=by
   intro m os dk hdk x y;generalize hW:sortWorld Held.val w gb 0 m dk os=W;have hWs:w.heap.size<=W.heap.size:=hW▸sort1_size _ _;have hWb:∀ b,b<w.heap.size->¬ X b->W.heap[b]?=w.heap[b]?:=λb hb hx=>hW▸vx _ _ hb λh=>hx (h▸hXg)
   have hXW:∀ b,X b->b<W.heap.size:=λb hb=>Nat.lt_of_lt_of_le (hXl b hb) hWs
   have hel:∀ z:Held X w 1 enc,RelL X e W ((enc z.x).map .d) [z.val]:=λz=>by
    have:=relL_d (X:=X) (e:=e) (w:=W) (enc z.x) z.vs (by rw [z.len,hes]) λj hj=>by
     obtain⟨v,q1,q2⟩:=z.rep j hj;exact⟨v,q1,RepC.keep hWs hWb (λ_ _ h=>h) q2⟩
    rw [z.vs1] at this;exact this
   have hk:=(hc x.x y.x).2 X (e.ren id 0) W [x.val,y.val] ⟨λ_=>Iff.rfl,by simp,by simp,by simp [ah],by simp [ah],rfl,rfl,rfl,λ_=>Ah _,Ah _,λ_ _ _=>rfl,λb hb=>⟨hXW b hb,by simp [ah]⟩,λj hj=>absurd hj (A9 j),λj hj=>absurd hj (A9 j)⟩ ?_
   ·refine hk.mono ?_;rintro en w' ⟨k',r,H',e',v,⟨rfl,hlr,rfl⟩,rfl,hH2,hrel⟩;refine⟨?_,grown_eq hH2.os hH2.tape hH2.output (hH2.drawn rfl) hH2.size λb hb=>hH2.block b hb (by simp [ah])⟩
    cases hrel;rfl
   ·have hXX:∀ b,Ctx.X ⟨P,τ,τok,X,W,λb=>b∈ah (e.ren id 0) [],0,0,(e.ren id 0).an,none,dl,true,true⟩ (e.ren id 0) [] b↔X b:=λb=>by unfold Ctx.X;simp [ah]
    refine RelL.keep (Ah _) (λ_ _ _=>rfl) (λb _ h=>(hXX b).1 h) _ _ (X:=X) (w:=W) ?_;rw [Ar];exact RelL.append _ _ _ _ (RelL.env _ _ (lowL_d _) (hel x)) (RelL.env _ _ (lowL_d _) (hel y))
  have hOα:SWO (ltOf λx y:Held X w 1 enc=>cf x.x y.x):=⟨λx=>hO.irrefl x.x,λx y z=>hO.trans x.x y.x z.x,λx y z=>hO.ntrans x.x y.x z.x⟩
  have eg:∀ args w,(callFunc g args).run P w = .ok (.enter g args) w:=wq ((if h:l.length=0 then by omega else (hc (l[0]'hpos) (l[0]'hpos)).1));have hone:OneCell (Held.val (X:=X) (w:=w) (enc:=enc)):=λx=>x.one _ (by rw [x.vs1];simp)
  have hs:=Any.slices_SortFunc L (Held.val (X:=X) (w:=w) (enc:=enc)) hone (λx y=>cf x.x y.x) hOα g #[] gb 0 cap d.toArray w eg hcmp hHold hgb (by simpa [hdl] using hl);have hsz:d.toArray.size=l.length:=by simpa using hdl
  rw [hsz] at hs;rw [hv];refine hs.mono ?_;rintro en w' ⟨rfl,d',m,os,hp,hso,rfl⟩;have hd's:d'.size=l.length:=hp.1.trans hsz;have hperm:d'.toList.Perm d:=by
   have:=hp.2.2
   rwa [show d'.extract 0 l.length=d' by rw [<- hd's];simp,show d.toArray.extract 0 l.length=d.toArray by rw [<- hsz];simp] at this
  refine⟨rfl,sort1_size _ _,rfl,rfl,rfl,λc hc hne=>vx _ _ hc λh=>hne (by rw [howned,h]),d'.toList.map Held.x,d1▸hperm.map _,?_,?_⟩
  ·rw [List.pairwise_map,List.pairwise_iff_getElem];intro i j hi hj hij;have h1:=hso i j (Ak _) hij (by simpa [hd's] using hj);rw [getElem!_pos d' i (by simpa using hi),getElem!_pos d' j (by simpa using hj)] at h1;have h2:¬ cf d'[j].x d'[i].x<0:=of_decide_eq_false h1;simp only [Gv];omega
  ·have hl':(d'.toList.map Held.x).length=l.length:=by simp [hd's]
   refine⟨d'.toList.map Held.val,⟨?_,.inr ⟨gb,cap,_,hv▸?_,Ak _,sort1_heap _ _ hblk,?_,hcm,by simp [putCells,hcs],?_⟩⟩,?_,?_,?_⟩
   ·simp
   ·simp [hd's]
   ·simp [hd's];exact hnc
   ·have:(d'.toList.map Held.x).length*1=d'.size:=by simp
    rw [Aa,this];exact take_putCells1 _ _ _ (by rw [hd's,hcs];omega)
   ·intro j hj;rw [Dh];exact hes _
   ·intro v hv';obtain⟨z,_,rfl⟩:=List.mem_map.1 hv';exact hone z
   ·intro i' hi' j hj;rw [Aa,hl'] at hi';have hz:i'<d'.size:=by omega
    simp only [Dh,Gv] at hj ⊢;have hj0:j=0:=by have:=hes (d'[i'].x);omega
    subst hj0;obtain⟨v,q1,q2⟩:=d'[i'].rep 0 (by simpa using hj);refine⟨v,?_,RepC.keep (sort1_size _ _) (λb hb hx=>vx _ _ hb λh=>hx (h▸hXg)) (λb _ h=>h) q2⟩
    rw [Bg,Br,Nat.mul_one,Nat.add_zero,D3 hz];rw [d'[i'].vs1] at q1;simpa using q1
end
open Go Go.RowKit Go.Sort
theorem swoL:Go.Sort.SWO (ltOf du) where
 irrefl x:=by unfold ltOf;rw [ordL_self];rfl
 trans x y z h g:=decide_eq_true (ua (of_decide_eq_true h) (of_decide_eq_true g))
 ntrans x y z h g:=by
  have h:=of_decide_eq_false h;have g:=of_decide_eq_false g;refine decide_eq_false ?_;have:=r6 (a:=z) (b:=y) (c:=x) (by rw [ko];omega) (by rw [ko];omega)
  rw [ko] at this;omega
theorem sortWays_c:SortC Tryz.prog 117 105 22 1 ey du:=λl hl _ _ _ _ h1 h2 h3 =>
 sort_row1 (ρ:=Tryz.sortWays_ren) Tryz.sortWays ey (λ_=>rfl) du swoL 105 (λa b=>vg true a b) 22 l hl h1 h2 h3
attribute [local irreducible] DW DS DL DQ Ev FnOk FnP ef bt DT
theorem equalI_fn (a b:List Int):Fn 100 [.d (.slice 1 (a.map aq)),.d (.slice 1 (b.map aq))] (λr=>r = .d (.bool (decide (a=b)))):=by
 refine fqE Tryz.func100 ?_;intro O w0 E0 β0;have la:(a.map aq).length=a.length:=Aa _;have lb:(b.map aq).length=b.length:=Aa _;refine o9 (t:=0) rfl (λhk=>?_);by_cases hl:a.length=b.length
 ·repeat' (first|refine zr ?_|(refine zm ?_ ?_<;>intro hg)|(exfalso;omega))
  refine ag (ι:=Nat) (λi=>⟨0,[(0,.d (.slice 1 (a.map aq))),(1,.d (.slice 1 (b.map aq))),(12,.d (.int .i64 a.length)),(13,.d (.int .i64 i))],[]⟩)
   (λi=>i<=a.length/\a.take i=b.take i) (λi=>a.length-i) 0 ⟨Ak _,rfl⟩ (ai id ⟨rfl,rfl,by rw [<- la];rfl,rfl,trivial⟩ trivial rfl rfl rfl rfl rfl rfl) ?_
  rintro i ⟨g1,g2⟩;dsimp only at g1 g2 ⊢;by_cases hi:i<a.length
  ·have hb:i<b.length:=by omega
   by_cases he:a[i]=b[i]
   ·repeat' (first|refine zr ?_|(refine zm ?_ ?_<;>intro hg)|(exfalso;omega))
    all_goals try (exfalso;exact hg he)
    exact⟨i+1,⟨hi,by rw [An hi,An hb,g2,he]⟩,er id,by omega⟩
   ·have hne:a≠b:=λh=>he (by subst h;rfl)
    rw [decide_eq_false hne];repeat' (first|refine zr ?_|(refine zm ?_ ?_<;>intro hg)|(exfalso;omega))
    all_goals exact⟨.inl rfl,_,rfl,rfl,rfl⟩
  ·rw [Ai (by omega),Ai (by omega)] at g2;rw [decide_eq_true g2];repeat' (first|refine zr ?_|(refine zm ?_ ?_<;>intro hg)|(exfalso;omega))
   all_goals exact⟨.inl rfl,_,rfl,rfl,rfl⟩
 ·have hne:a≠b:=λh=>hl (by rw [h])
  rw [decide_eq_false hne];repeat' (first|refine zr ?_|(refine zm ?_ ?_<;>intro hg)|(exfalso;omega))
  all_goals exact⟨.inl rfl,_,rfl,rfl,rfl⟩
theorem compactW_fn (l:List (List Int)) (hn:l.Nodup) (hl:l.length<=1000000):FnOk false Tryz.prog tab b9 118 [.row 0,.fn 100 []] 0 1 [(0,.row 22 1 (l.map ey))] (λ_ r H=>r = .d (.slice 1 (l.map ey))/\H=[]):=by
 refine fn_enterF _ Tryz.func118 rfl rfl (by kernel_rfl) ?_;intro O w0 E0 β0;have ll:(l.map ey).length=l.length:=Aa _;by_cases h2:l.length<2
 ·repeat' (first|refine zs ?_|(refine zm ?_ ?_<;>intro hg)|(exfalso;omega))
  refine ak (bh 4 rfl rfl rfl) ?_;repeat' (first|refine zr ?_|fail)
  exact⟨.inl rfl,_,rfl,0,[],trivial,rfl,rfl,rfl,rfl,rfl,rfl⟩
 ·repeat' (first|refine zs ?_|(refine zm ?_ ?_<;>intro hg)|(exfalso;omega))
  refine ag (ι:=Nat) (λi=>⟨1,[(0,.row 0),(1,.fn 100 []),(5,.d (.int .i64 i))],[(0,.row 22 1 (l.map ey))]⟩)
   (λi=>1<=i/\i<=l.length) (λi=>l.length-i) 1 ⟨by omega,by omega⟩ (er id) ?_
  rintro i ⟨g0,g1⟩;by_cases hi:i<l.length
  ·have hne:l[i]≠l[i-1]'(by omega):=λh=>by
    have:=(List.getElem_inj hn).1 h
    omega
   have hs:Fn 100 [.d (.slice 1 ((l[i]).map aq)),.d (.slice 1 ((l[((i:Int)-1).toNat]'(by omega)).map aq))] (λr=>r = .d (.bool false)):=by
    have e:((i:Int)-1).toNat=i-1:=by omega
    simp only [e];have h:=equalI_fn l[i] (l[i-1]'(by omega));rw [decide_eq_false hne] at h;exact h
   repeat' (first|refine zs ?_|(apply jd;exact rfl;exact rfl;exact rfl;exact rfl;apply hs;exact rfl;(exact rfl);exact rfl;exact rfl;exact⟨_,rfl⟩;rintro _ rfl)|(refine zm ?_ ?_<;>intro hg)|(exfalso;omega))
   exact⟨i+1,⟨by omega,by omega⟩,er id,by show l.length-(i+1)<l.length-i;omega⟩
  ·repeat' (first|refine zs ?_|(refine zm ?_ ?_<;>intro hg)|(exfalso;omega))
   refine ak (bh 4 rfl rfl rfl) ?_;repeat' (apply c9)
   exact⟨.inl rfl,_,rfl,0,[],trivial,rfl,rfl,rfl,rfl,rfl,rfl⟩
open Go Go.RowKit
def manyW (S:List Fct) (r:Rul):Bool:=decide ((rj S r.vars.toNat r.body).length<=2000)
def fm (S:List Fct) (r:Rul):List (List Int):=if manyW S r then rj S r.vars.toNat r.body else []
structure RulS (S:List Fct) (r:Rul):Prop where
 ok:okB S r.vars.toNat r.body
 bd:Bd r.body (List.replicate r.vars.toNat false)
 vars:0<=r.vars/\r.vars<=8
theorem raw_fn (S:List Fct) (r:Rul) (hS:Strict S) (hS2:S.length<=4398046511104) (hr:RulS S r):Fn 60 [vf r,.d (.slice 2 (S.map ae))] (λres=>res = .tup [.d (.slice 1 ((fm S r).map ey)),.d (.bool (manyW S r))]):=by
 refine fqE Tryz.func60 ?_;intro O w0 E0 β0;have hv:=hr.vars;have hnd:S.Nodup:=hS.imp λh he=>by subst he;exact lt_irrefl h
 obtain⟨p1,p2,p3⟩:=mh hnd hr.ok.lit hr.bd;have w:=find_fn r S hS hS2 r.body.length r.body rfl (e0 r.vars.toNat) [] (by rw [show (e0 r.vars.toNat).length=r.vars.toNat from List.length_replicate];exact hr.ok) (λv x hx=>by
  unfold e0 at hx;rw [List.getElem?_replicate] at hx;split at hx<;>simp at hx) (by rw [hasE_e0];exact hr.bd) (by simp)
 have hlen:(rj S r.vars.toNat r.body).length=(ix S r.body.length r.body (e0 r.vars.toNat)).length:=((jg S r.vars.toNat r.body).trans p1.symm).length_eq;have hnodup:=(p1.nodup_iff).2 p2;have hperm:=p1;clear p1 p2 p3;have hfew:qy (ix S r.body.length r.body (e0 r.vars.toNat)) []=manyW S r:=by unfold qy manyW;rw [hlen];simp
 rw [hfew] at w;have hput:manyW S r=true->m8 (ix S r.body.length r.body (e0 r.vars.toNat)) []=ix S r.body.length r.body (e0 r.vars.toNat):=λh=>by
  unfold manyW at h;have:=of_decide_eq_true h
  unfold m8;rw [List.nil_append,Ai (by omega)]
 generalize ix S r.body.length r.body (e0 r.vars.toNat)=fw at *;generalize m8 fw []=pw at *;repeat' (first|refine zs ?_|(exfalso;omega))
 refine dt_new rfl rfl rfl ⟨rfl,hv.1,?_,?_⟩ rfl rfl rfl rfl rfl ?_
 ·show 8*r.vars.toNat<=_;omega
 ·unfold maxLen;omega
 repeat' refine z5 ?_
 refine dt_new rfl rfl rfl ⟨rfl,hv.1,?_,?_⟩ rfl rfl rfl rfl rfl ?_
 ·show 1*r.vars.toNat<=_;omega
 ·unfold maxLen;omega
 repeat' ((fail_if_success (apply eo 2));(first|refine zs ?_|fail))
 refine ak (kg 10 9 22 1 rfl rfl rfl) ?_;refine ak (ai (k':=5) (L':=[(2,.loc 4 0),(6,.loc 0 0)]) (H':=(4,.blk 64 [.d (.int .i64 r.pred),.d (.slice 2 (r.terms.map av)),.d (.int .i64 r.fold),.d (.slice 4 (r.body.map ay)),.d (.int .i64 r.vars)])::pfH r S (e0 r.vars.toNat) []) (λj=>match j with|0=>10|1=>5|2=>8|3=>12|4=>0|j=>j)
  ⟨rfl,rfl,trivial⟩ ⟨rfl,rfl,by rw [outE_e0,Dm];rfl,by rw [hasE_e0,Dm];rfl,rfl,trivial⟩ rfl rfl rfl rfl rfl rfl) ?_
 repeat' (first|refine zs ?_|fail)
 (refine bg id (w) rfl rfl rfl rfl ⟨rfl,rfl,rfl,rfl,trivial⟩ rfl rfl rfl rfl rfl rfl ?_ ?_)
 ·rintro k2 res H2 ⟨rfl,rfl,rfl⟩;exact⟨rfl,rfl⟩
 rintro k2 res H2 ⟨rfl,rfl,rfl⟩;change DS _ _ _ _ _ _ _ _;clear w;unfold fm;cases hm:manyW S r with
 | false =>
  rw [if_neg (by simp)];repeat' (first|refine zs ?_|(exfalso;omega))
  refine ak (cr 4 1 rfl) ?_;repeat' (first|refine zr ?_|fail)
  exact⟨.inl rfl,_,rfl,rfl,rfl⟩
 | true =>
  have hp:=hput hm;have hl2:fw.length<=2000:=by rw [<- hlen];unfold manyW at hm;exact of_decide_eq_true hm
  rw [if_pos rfl];subst hp;repeat' (first|refine zs ?_|(exfalso;omega))
  refine ds_sort sortWays_c pw (by kernel_rfl) rfl rfl rfl rfl rfl rfl (by omega) ?_;intro l' h6 h7;have hsort:SortW l':=h7.imp fun {a b} h=>by rw [ko];omega
  have hl':l'=rj S r.vars.toNat r.body:=vo hsort (h6.trans hperm);have hnd':l'.Nodup:=h6.nodup_iff.2 hnodup;have w2:=compactW_fn l' hnd' (by rw [h6.length_eq];omega);rw [<- hl'];repeat' (first|refine zs ?_|(exfalso;omega))
  refine bg (λ_=>8) w2 rfl rfl rfl rfl ⟨rfl,trivial⟩ rfl rfl rfl rfl rfl rfl ?_ ?_
  ·rintro k2 res H2 ⟨rfl,rfl⟩;exact⟨rfl,rfl⟩
  rintro k2 res H2 ⟨rfl,rfl⟩;change DS _ _ _ _ _ _ _ _;repeat' (first|refine zr ?_|fail)
  exact⟨.inl rfl,_,rfl,rfl,rfl⟩
end
end Go.Proofs.YtapciiffpnociadGreat
