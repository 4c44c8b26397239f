/- Several texts in one: WirIn DagIn. Condition: none. -/
import Derived.Test.YtapciiffpnociaaGreatP16
import Derived.Test.YtapciiffpnociaaGreatP10
import Derived.Test.YtapciiffpnociaaGreatP13
namespace Go.Proofs.YtapciiffpnociaaGreat
open Go Go.RowKit
theorem listOf {α:Type} {e:RT} {enc:α→List D} (h:∀ x,TyD e x→∃ t,x=enc t):∀ (l:List (List D)),(∀ x∈l,TyD e x)→∃ ts:List α,l=ts.map enc
 | [],_=>⟨[],rfl⟩
 | x::l,hl=>by
  obtain⟨t,rfl⟩:=h x (hl x (List.mem_cons_self ..))
  obtain⟨ts,rfl⟩:=listOf h l fun y hy=>hl y (List.mem_cons_of_mem _ hy)
  exact⟨t::ts,rfl⟩
theorem sliceOf {α:Type} {c b:Nat} {e:RT} {enc:α→List D} (h:∀ x,TyD e x→∃ t,x=enc t) (x:List D) (hx:TyD (.slice c b e) x):∃ ts:List α,x=[.slice c (ts.map enc)]:=by
 obtain⟨l,_,_,rfl,h3⟩:=hx
 obtain⟨ts,rfl⟩:=listOf h l h3
 exact⟨ts,rfl⟩
abbrev rtId:RT:=.struct [.int .i64,.int .i64]
abbrev rtFctW:RT:=.struct [.int .i64,.slice 1 8 (.int .i64)]
abbrev rtUpd:RT:=.struct [rtId,.slice 2 16 rtId,.slice 2 32 rtFctW,.slice 2 16 rtId]
theorem int_of (x:List D) (h:TyD (.int .i64) x):∃ n:Int,x=bi n:=by
 obtain⟨n,_,rfl⟩:=h
 exact⟨n,rfl⟩
theorem id_of (x:List D) (h:TyD rtId x):∃ t:UId,x=dj t:=by
 obtain⟨a,b,rfl,⟨k,_,rfl⟩,c,d,rfl,⟨p,_,rfl⟩,rfl⟩:=h
 exact⟨⟨k,p⟩,rfl⟩
theorem fctW_of (x:List D) (h:TyD rtFctW x):∃ t:Fct,x=a6 t:=by
 obtain⟨a,b,rfl,⟨k,_,rfl⟩,c,d,rfl,h2,rfl⟩:=h
 obtain⟨l,rfl⟩:=sliceOf int_of c h2
 exact⟨⟨k,l⟩,rfl⟩
theorem upd_of (x:List D) (h:TyD rtUpd x):∃ u:Upd,x=a7 u:=by
 obtain⟨a,b,rfl,h1,c,d,rfl,h2,e,f,rfl,h3,g,h,rfl,h4,rfl⟩:=h
 obtain⟨i,rfl⟩:=id_of a h1
 obtain⟨l,rfl⟩:=sliceOf id_of c h2
 obtain⟨m,rfl⟩:=sliceOf fctW_of e h3
 obtain⟨n,rfl⟩:=sliceOf id_of g h4
 exact⟨⟨i,l,m,n⟩,rfl⟩
abbrev rtUpds:RT:=.slice 5 88 rtUpd
abbrev rtRpl:RT:=.struct [rtUpds,rtUpds]
theorem sliceOfB {R:Nat} {α:Type} {c b:Nat} {e:RT} {enc:α→List D} (h:∀ x,TyDR R e x→∃ t,x=enc t) (x:List D) (hx:TyDR R (.slice c b e) x):∃ ts:List α,x=[.slice c (ts.map enc)]∧ts.length * b≤R:=by
 obtain⟨l,h1,_,rfl,h3⟩:=hx
 have key:∀ l:List (List D),(∀ x∈l,TyDR R e x)→∃ ts:List α,l=ts.map enc:=by
  intro l
  induction l with
  | nil=>exact fun _=>⟨[],rfl⟩
  | cons x l ih =>
   intro hl
   obtain⟨t,rfl⟩:=h x (hl x (List.mem_cons_self ..))
   obtain⟨ts,rfl⟩:=ih fun y hy=>hl y (List.mem_cons_of_mem _ hy)
   exact⟨t::ts,rfl⟩
 obtain⟨ts,rfl⟩:=key l h3
 exact⟨ts,rfl,by rw [← List.length_map (f:=enc)];exact h1⟩
theorem upds_arg (x:List D) (h:TyD rtUpds x):∃ l:List Upd,RT.arg rtUpds x = .d (.slice 5 (l.map a7))∧l.length≤4398046511104:=by
 obtain⟨l,rfl,hl⟩:=sliceOfB upd_of x h
 exact⟨l,rfl,by unfold reachBytes at hl;omega⟩
theorem rpl_arg (x:List D) (h:TyD rtRpl x):∃ r:Rpl,RT.arg rtRpl x=elRpl r∧r.has.length≤4398046511104∧r.waits.length≤4398046511104:=by
 obtain⟨a,b,rfl,h1,c,d,rfl,h2,rfl⟩:=h
 obtain⟨l,rfl,hl⟩:=sliceOfB upd_of a h1
 obtain⟨m,rfl,hm⟩:=sliceOfB upd_of c h2
 exact⟨⟨l,m⟩,rfl,by unfold reachBytes at hl;dsimp only;omega,by unfold reachBytes at hm;dsimp only;omega⟩
end Go.Proofs.YtapciiffpnociaaGreat
