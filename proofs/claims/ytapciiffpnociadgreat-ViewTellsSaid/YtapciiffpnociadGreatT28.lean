/- Several texts in one: VwL PrgIn WirIn DagIn. Condition: none. -/
import Derived.Test.YtapciiffpnociadGreatT27
set_option maxHeartbeats 8000000
open List renaming mem_cons_of_mem→Ag,mem_cons_self→Ac
namespace Go.Proofs.YtapciiffpnociadGreat
open Go Go.RowKit
theorem ubx {X e w} {q:Nat} {a:SV} {v:Value} (h:Rel X e w (.agg [a,.nils]) v):Rel X e w (.agg [a,.d (.slice q [])]) v:=by
 obtain⟨us,hv,hr⟩:=h;match us,hr with
 | [x,y],⟨h1,h2,_⟩=>exact⟨[x,y],hv,h1,uci h2,trivial⟩
 | [],h=>exact h.elim
 | [_],⟨_,h⟩=>exact h.elim
 | _::_::_::_,⟨_,_,h⟩=>exact h.elim
attribute [local irreducible] DW DS DL DQ Ev FnOk FnP ef bt DT
theorem uaf:Fn 37 [] (λr=>r = .d (.bool true)):=by
 refine fqE Tryz.func37 ?_;intro O w0 E0 β0;have h1:=lsmall_fn;have h2:=first_fn;have h3:=second_fn;have h4:=lfull_fn;have h5:=ubs smallP ⟨[firstU],[]⟩ (by decide) (by decide);rw [uar] at h5;have h6:=uaj smallP rplO [secondU,firstU] (by decide) (by decide);rw [ubg] at h6;have h5:Fn 31 [gu smallP,.agg [.d (.slice 5 ([firstU].map aa)),.nils]] _:=FnP.args h5 λ_ _ _ vs h=>match vs,h with
  | _::_::_,⟨g1,g2,g3⟩=>⟨g1,ubx g2,g3⟩
  | [_],⟨_,h⟩=>h.elim
  | [],h=>h.elim
 have h6:Fn 32 [gu smallP,.agg [.nils,.nils],.d (.slice 5 ([secondU,firstU].map aa))] _:=FnP.args h6 λ_ _ _ vs h=>match vs,h with
  | _::_::_,⟨g1,g2,g3⟩=>⟨g1,ubt g2,g3⟩
  | [_],⟨_,h⟩=>h.elim
  | [],h=>h.elim
 have h7:=jj fullF fullF;rw [sameF_eq] at h7;have h8:=qj [firstU,secondU] [firstU,secondU];rw [gl Upd.same_refl] at h8;have h9:=fact_fn 0 [4,5];have h10:=fact_fn 1 [4,5];have h11:=jj m45 m45;rw [sameF_eq] at h11;repeat' (first|refine zr ?_|refine z21 ?_ (hc:=by apply h1)|refine z21 ?_ (hc:=by apply h2)|refine z22 ?_ (hc:=by apply h2)|refine z21 ?_ (hc:=by apply h3)|refine z22 ?_ (hc:=by apply h3)|refine z22 ?_ (hc:=by apply h4)|refine z21 ?_ (hc:=by apply h5)|refine z21 ?_ (hc:=by apply h6)|refine z22 ?_ (hc:=by apply h7)|refine z22 ?_ (hc:=by apply h8)|refine z22 ?_ (hc:=by apply h9)|refine z22 ?_ (hc:=by apply h10)|refine z22 ?_ (hc:=by apply h11)|fail)
 exact a7 rfl rfl
theorem ucj {α:Type} {e:RT} {enc:α->List D} (h:∀ x,TyD e x->∃ t,x=enc t):∀ (l:List (List D)),(∀ x∈l,TyD e x)->∃ ts:List α,l=ts.map enc
 | [],_=>⟨[],rfl⟩
 | x::l,hl=>by
  obtain⟨t,rfl⟩:=h x (hl x (Ac ..))
  obtain⟨ts,rfl⟩:=ucj h l λy hy=>hl y (Ag _ hy)
  exact⟨t::ts,rfl⟩
theorem sr {α:Type} {c b:Nat} {e:RT} {enc:α->List D} (h:∀ x,TyD e x->∃ t,x=enc t) (x:List D) (hx:TyD (.slice c b e) x):∃ ts:List α,x=[.slice c (ts.map enc)]:=by
 obtain⟨l,_,_,rfl,h3⟩:=hx;obtain⟨ts,rfl⟩:=ucj h l h3;exact⟨ts,rfl⟩
abbrev udm:RT:=.struct [.int .i64,.int .i64]
abbrev udn:RT:=.struct [.int .i64,.int .i64,.int .i64,.slice 2 16 udm]
abbrev udo:RT:=.struct [.int .i64,.slice 2 16 udm,.int .i64,.slice 4 48 udn,.int .i64]
abbrev udp:RT:=.struct [.slice 1 8 (.int .i64),.slice 1 16 .str,.slice 5 72 udo]
theorem uck (x:List D) (h:TyD (.int .i64) x):∃ n:Int,x=aq n:=by
 obtain⟨n,_,rfl⟩:=h;exact⟨n,rfl⟩
theorem ucl (x:List D) (h:TyD .str x):∃ n:ByteArray,x=oq n:=by
 obtain⟨n,_,rfl⟩:=h;exact⟨n,rfl⟩
theorem uda (x:List D) (h:TyD udm x):∃ t:Trm,x=av t:=by
 obtain⟨a,b,rfl,⟨k,_,rfl⟩,c,d,rfl,⟨p,_,rfl⟩,rfl⟩:=h;exact⟨⟨k,p⟩,rfl⟩
theorem udb (x:List D) (h:TyD udn x):∃ t:Ltl,x=ay t:=by
 obtain⟨a,b,rfl,⟨k,_,rfl⟩,c,d,rfl,⟨p,_,rfl⟩,e,f,rfl,⟨q,_,rfl⟩,g,i,rfl,h4,rfl⟩:=h;obtain⟨l,rfl⟩:=sr uda g h4;exact⟨⟨k,p,q,l⟩,rfl⟩
theorem udc (x:List D) (h:TyD udo x):∃ t:Rul,x=dj t:=by
 obtain⟨a,b,rfl,⟨k,_,rfl⟩,c,d,rfl,h2,e,f,rfl,⟨q,_,rfl⟩,g,i,rfl,h4,j,m,rfl,⟨v,_,rfl⟩,rfl⟩:=h;obtain⟨l,rfl⟩:=sr uda c h2;obtain⟨n,rfl⟩:=sr udb g h4;exact⟨⟨k,l,q,n,v⟩,rfl⟩
theorem ucm (x:List D) (h:TyD udp x):∃ p:Prg,RT.arg udp x=gu p:=by
 obtain⟨c,d,rfl,h2,e,f,rfl,h3,g,h,rfl,h4,rfl⟩:=h;obtain⟨l,rfl⟩:=sr uck c h2;obtain⟨m,rfl⟩:=sr ucl e h3;obtain⟨n,rfl⟩:=sr udc g h4;exact⟨⟨l,m,n⟩,rfl⟩
theorem udd {α:Type} {e:RT} {enc:α->List D} (h:∀ x,TyD e x->∃ t,x=enc t):∀ (l:List (List D)),(∀ x∈l,TyD e x)->∃ ts:List α,l=ts.map enc
 | [],_=>⟨[],rfl⟩
 | x::l,hl=>by
  obtain⟨t,rfl⟩:=h x (hl x (Ac ..))
  obtain⟨ts,rfl⟩:=udd h l λy hy=>hl y (Ag _ hy)
  exact⟨t::ts,rfl⟩
theorem ucn {α:Type} {c b:Nat} {e:RT} {enc:α->List D} (h:∀ x,TyD e x->∃ t,x=enc t) (x:List D) (hx:TyD (.slice c b e) x):∃ ts:List α,x=[.slice c (ts.map enc)]:=by
 obtain⟨l,_,_,rfl,h3⟩:=hx;obtain⟨ts,rfl⟩:=udd h l h3;exact⟨ts,rfl⟩
abbrev rtId:RT:=.struct [.int .i64,.int .i64]
abbrev ude:RT:=.struct [.int .i64,.slice 1 8 (.int .i64)]
abbrev udq:RT:=.struct [rtId,.slice 2 16 rtId,.slice 2 32 ude,.slice 2 16 rtId]
theorem udf (x:List D) (h:TyD (.int .i64) x):∃ n:Int,x=aq n:=by
 obtain⟨n,_,rfl⟩:=h;exact⟨n,rfl⟩
theorem udr (x:List D) (h:TyD rtId x):∃ t:UId,x=ck t:=by
 obtain⟨a,b,rfl,⟨k,_,rfl⟩,c,d,rfl,⟨p,_,rfl⟩,rfl⟩:=h;exact⟨⟨k,p⟩,rfl⟩
theorem uco (x:List D) (h:TyD ude x):∃ t:Fct,x=ae t:=by
 obtain⟨a,b,rfl,⟨k,_,rfl⟩,c,d,rfl,h2,rfl⟩:=h;obtain⟨l,rfl⟩:=ucn udf c h2;exact⟨⟨k,l⟩,rfl⟩
theorem udg (x:List D) (h:TyD udq x):∃ u:Upd,x=aa u:=by
 obtain⟨a,b,rfl,h1,c,d,rfl,h2,e,f,rfl,h3,g,h,rfl,h4,rfl⟩:=h;obtain⟨i,rfl⟩:=udr a h1;obtain⟨l,rfl⟩:=ucn udr c h2;obtain⟨m,rfl⟩:=ucn uco e h3;obtain⟨n,rfl⟩:=ucn udr g h4;exact⟨⟨i,l,m,n⟩,rfl⟩
abbrev udh:RT:=.slice 5 88 udq
abbrev uds:RT:=.struct [udh,udh]
theorem uby {R:Nat} {α:Type} {c b:Nat} {e:RT} {enc:α->List D} (h:∀ x,TyDR R e x->∃ t,x=enc t) (x:List D) (hx:TyDR R (.slice c b e) x):∃ ts:List α,x=[.slice c (ts.map enc)]/\ts.length*b<=R:=by
 obtain⟨l,h1,_,rfl,h3⟩:=hx;have key:∀ l:List (List D),(∀ x∈l,TyDR R e x)->∃ ts:List α,l=ts.map enc:=by
  intro l;induction l with
  | nil=>exact λ_=>⟨[],rfl⟩
  | cons x l ih =>
   intro hl;obtain⟨t,rfl⟩:=h x (hl x (Ac ..));obtain⟨ts,rfl⟩:=ih λy hy=>hl y (Ag _ hy)
   exact⟨t::ts,rfl⟩
 obtain⟨ts,rfl⟩:=key l h3;exact⟨ts,rfl,by rw [<- List.length_map (f:=enc)];exact h1⟩
theorem ubz (x:List D) (h:TyD udh x):∃ l:List Upd,RT.arg udh x = .d (.slice 5 (l.map aa))/\l.length<=4398046511104:=by
 obtain⟨l,rfl,hl⟩:=uby udg x h;exact⟨l,rfl,by unfold reachBytes at hl;omega⟩
theorem ucp (x:List D) (h:TyD uds x):∃ r:Rpl,RT.arg uds x=jf r/\r.has.length<=4398046511104/\r.waits.length<=4398046511104:=by
 obtain⟨a,b,rfl,h1,c,d,rfl,h2,rfl⟩:=h;obtain⟨l,rfl,hl⟩:=uby udg a h1;obtain⟨m,rfl,hm⟩:=uby udg c h2;exact⟨⟨l,m⟩,rfl,by unfold reachBytes at hl;dsimp only;omega,by unfold reachBytes at hm;dsimp only;omega⟩
end Go.Proofs.YtapciiffpnociadGreat
