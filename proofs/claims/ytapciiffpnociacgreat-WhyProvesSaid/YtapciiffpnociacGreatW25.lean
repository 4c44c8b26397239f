/- Several texts in one: PrgIn WhIn. Condition: none. -/
import Derived.Test.YtapciiffpnociacGreatW10
import Derived.Test.YtapciiffpnociacGreatW23
namespace Go.Proofs.YtapciiffpnociacGreat
open Go Go.RowKit
theorem plistOf {α:Type} {e:RT} {enc:α→List D} (h:∀ x,TyD e x→∃ t,x=enc t):∀ (l:List (List D)),(∀ x∈l,TyD e x)→∃ ts:List α,l=ts.map enc
 | [],_=>⟨[],rfl⟩
 | x::l,hl=>by
  obtain⟨t,rfl⟩:=h x (hl x (List.mem_cons_self ..))
  obtain⟨ts,rfl⟩:=plistOf h l fun y hy=>hl y (List.mem_cons_of_mem _ hy)
  exact⟨t::ts,rfl⟩
theorem psliceOf {α:Type} {c b:Nat} {e:RT} {enc:α→List D} (h:∀ x,TyD e x→∃ t,x=enc t) (x:List D) (hx:TyD (.slice c b e) x):∃ ts:List α,x=[.slice c (ts.map enc)]:=by
 obtain⟨l,_,_,rfl,h3⟩:=hx
 obtain⟨ts,rfl⟩:=plistOf h l h3
 exact⟨ts,rfl⟩
abbrev rtTrm:RT:=.struct [.int .i64,.int .i64]
abbrev rtLtl:RT:=.struct [.int .i64,.int .i64,.int .i64,.slice 2 16 rtTrm]
abbrev rtRul:RT:=.struct [.int .i64,.slice 2 16 rtTrm,.int .i64,.slice 4 48 rtLtl,.int .i64]
abbrev rtPrg:RT:=.struct [.slice 1 8 (.int .i64),.slice 1 16 .str,.slice 5 72 rtRul]
theorem pint_of (x:List D) (h:TyD (.int .i64) x):∃ n:Int,x=bf n:=by
 obtain⟨n,_,rfl⟩:=h
 exact⟨n,rfl⟩
theorem pstr_of (x:List D) (h:TyD .str x):∃ n:ByteArray,x=encT n:=by
 obtain⟨n,_,rfl⟩:=h
 exact⟨n,rfl⟩
theorem trm_of (x:List D) (h:TyD rtTrm x):∃ t:Trm,x=bm t:=by
 obtain⟨a,b,rfl,⟨k,_,rfl⟩,c,d,rfl,⟨p,_,rfl⟩,rfl⟩:=h
 exact⟨⟨k,p⟩,rfl⟩
theorem ltl_of (x:List D) (h:TyD rtLtl x):∃ t:Ltl,x=bp t:=by
 obtain⟨a,b,rfl,⟨k,_,rfl⟩,c,d,rfl,⟨p,_,rfl⟩,e,f,rfl,⟨q,_,rfl⟩,g,i,rfl,h4,rfl⟩:=h
 obtain⟨l,rfl⟩:=psliceOf trm_of g h4
 exact⟨⟨k,p,q,l⟩,rfl⟩
theorem rul_of (x:List D) (h:TyD rtRul x):∃ t:Rul,x=co t:=by
 obtain⟨a,b,rfl,⟨k,_,rfl⟩,c,d,rfl,h2,e,f,rfl,⟨q,_,rfl⟩,g,i,rfl,h4,j,m,rfl,⟨v,_,rfl⟩,rfl⟩:=h
 obtain⟨l,rfl⟩:=psliceOf trm_of c h2
 obtain⟨n,rfl⟩:=psliceOf ltl_of g h4
 exact⟨⟨k,l,q,n,v⟩,rfl⟩
theorem prg_arg (x:List D) (h:TyD rtPrg x):∃ p:Prg,RT.arg rtPrg x=elPrg p:=by
 obtain⟨c,d,rfl,h2,e,f,rfl,h3,g,h,rfl,h4,rfl⟩:=h
 obtain⟨l,rfl⟩:=psliceOf pint_of c h2
 obtain⟨m,rfl⟩:=psliceOf pstr_of e h3
 obtain⟨n,rfl⟩:=psliceOf rul_of g h4
 exact⟨⟨l,m,n⟩,rfl⟩
abbrev rtFct:RT:=.struct [.int .i64,.slice 1 8 (.int .i64)]
theorem fct_of (x:List D) (h:TyD rtFct x):∃ t:Fct,x=ay t:=by
 obtain⟨a,b,rfl,⟨k,_,rfl⟩,c,d,rfl,h2,rfl⟩:=h
 obtain⟨l,rfl⟩:=psliceOf pint_of c h2
 exact⟨⟨k,l⟩,rfl⟩
theorem fct_arg (x:List D) (h:TyD rtFct x):∃ f:Fct,RT.arg rtFct x=elFct f:=by
 obtain⟨f,rfl⟩:=fct_of x h
 exact⟨f,rfl⟩
theorem fcts_arg (x:List D) (h:TyD (.slice 2 32 rtFct) x):∃ l:List Fct,RT.arg (.slice 2 32 rtFct) x = .d (.slice 2 (l.map ay)):=by
 obtain⟨l,rfl⟩:=psliceOf fct_of x h
 exact⟨l,rfl⟩
abbrev rtStp:RT:=.struct [rtFct,.int .i64,.slice 1 8 (.int .i64)]
theorem stp_of (x:List D) (h:TyD rtStp x):∃ t:Stp,x=bt t:=by
 obtain⟨a,b,rfl,⟨a1,b1,rfl,⟨k,_,rfl⟩,a2,b2,rfl,h2,rfl⟩,c,d,rfl,⟨p,_,rfl⟩,e,f,rfl,h4,rfl⟩:=h
 obtain⟨l,rfl⟩:=psliceOf pint_of a2 h2
 obtain⟨n,rfl⟩:=psliceOf pint_of e h4
 exact⟨⟨⟨k,l⟩,p,n⟩,rfl⟩
theorem stps_arg (x:List D) (h:TyD (.slice 4 64 rtStp) x):∃ l:List Stp,RT.arg (.slice 4 64 rtStp) x = .d (.slice 4 (l.map bt)):=by
 obtain⟨l,rfl⟩:=psliceOf stp_of x h
 exact⟨l,rfl⟩
end Go.Proofs.YtapciiffpnociacGreat
