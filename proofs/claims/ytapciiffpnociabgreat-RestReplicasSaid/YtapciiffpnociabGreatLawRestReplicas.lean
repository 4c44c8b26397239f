/- RestReplicas: replicas and updates that came, and were changed, change nothing that was handed in, nor what comes next. Condition: none. -/
import Derived.Test.YtapciiffpnociabGreatRows
import Derived.Test.YtapciiffpnociabGreatLawRRT
import Derived.Test.YtapciiffpnociabGreatM19
namespace Go.Proofs.YtapciiffpnociabGreat
open Go Go.RowKit Go.ChangeShapes Go.WideShapes Go.ChangeAt
abbrev zL:RT:=.struct [.int .i64,.int .i64]
abbrev gD:RT:=.struct [zL,.slice 2 16 zL,.slice 2 32 mR,.slice 2 16 zL]
abbrev iD:RT:=.struct [.slice 5 88 gD,.slice 5 88 gD]
abbrev dX:List RT:=[aJ,iD,iD,gD]
theorem ZJ [Y0] (x:List D) (h:TyD zL x):∃ t:Z1,x=ay t∧True:=by
 obtain⟨a,b,rfl,⟨k,_,rfl⟩,c,d,rfl,⟨p,_,rfl⟩,rfl⟩:=h
 exact⟨⟨k,p⟩,rfl,trivial⟩
theorem OC [Y0] (x:List D) (h:TyD gD x):∃ u:X0,x=ak u∧RY u:=by
 obtain⟨a,b,rfl,j,c,d,rfl,k,e,f,rfl,o,g,h,rfl,p,rfl⟩:=h
 obtain⟨i,rfl,_⟩:=ZJ a j
 obtain⟨l,rfl,s,_⟩:=ko ZJ c k
 obtain⟨m,rfl,t,q⟩:=ko uW e o
 obtain⟨n,rfl,v,_⟩:=ko ZJ g p
 unfold reachBytes at *
 exact⟨⟨i,l,m,n⟩,rfl,by dsimp only;omega,fun f r=>by have:=q f r;omega,by dsimp only;omega,by dsimp only;omega⟩
theorem KF [Y0] (x:List D) (h:TyD iD x):∃ r:X2,RT.arg iD x=df r∧Yz r.I0∧Yz r.K0:=by
 obtain⟨a,b,rfl,e,c,d,rfl,f,rfl⟩:=h
 obtain⟨l,rfl,g,i⟩:=ko OC a e
 obtain⟨m,rfl,j,k⟩:=ko OC c f
 unfold reachBytes at g j
 exact⟨⟨l,m⟩,rfl,⟨by dsimp only;omega,i⟩,by dsimp only;omega,k⟩
theorem restReplicas_args [Y0]:∀ zs,AX dX zs→I3 false Tryz.prog U5 bt 3 zs (fun r=>r = .b true):=by
 rintro zs ⟨x1,l1,rfl,h1,x2,l2,rfl,h2,x3,l3,rfl,h3,x4,l4,rfl,h4,rfl⟩
 obtain⟨p,a⟩:=HR x1 h1
 obtain⟨r,c,d,e⟩:=KF x2 h2
 obtain⟨s,f,g,h⟩:=KF x3 h3
 obtain⟨u,rfl,i⟩:=OC x4 h4
 rw [a,c,f]
 exact Kq p r s u d e g h i
set_option maxRecDepth 100000 in
theorem restReplicas_lifted (b:Os) (d:b.Started) (H:Type) (enc:TypeId × Value→H) :
  ReturnsInHanded {} Tryz.checked b 3 .any (Rows.restReplicasSpec.pre6 enc Tryz.prog Tryz.f3 Rows.restReplicasRow.domain false) (Rows.restReplicasSpec.post enc Tryz.prog Tryz.f3 false true false false):=by
 haveI:Y0:=⟨0,0⟩
 refine law_lifted (C:=Tryz.checked) (τok:=bt) (rs:=dX) (tb:=4) d own (by kernel_rfl) Tryz.func3
  (ChangeSpec.witness6 (enc:=enc) (C:=Tryz.checked) false ⟨#[],#[.agg #[.slice none 0 0,.slice none 0 0,.slice none 0 0],.agg #[.slice none 0 0,.slice none 0 0],.agg #[.slice none 0 0,.slice none 0 0],.agg #[.int .i64 0,.int .i64 0,.slice none 0 0,.slice none 0 0,.slice none 0 0]],[]⟩ 8 (by kernel_rfl) (by kernel_rfl) (by kernel_rfl) (by kernel_rfl))
  rfl rfl ?_ (by kernel_rfl) (by kernel_rfl) laidOut (by kernel_rfl) (by kernel_rfl) restReplicas_args
 intro c a
 have a:c.length=4:=a
 match c,a with
 | [d0,d1,d2,d3],_=>rfl
theorem restReplicas_holds:Rows.RestReplicasSaid :=
 OpenClaim.holds_of_wide 3 Tryz.f3 rfl rfl rfl rfl rfl rfl rfl ⟨rfl,rfl,rfl,rfl,rfl⟩ rfl rfl rfl rfl rfl Y' Tryz.func3 V' U' T'
  (fun a b H c _=>restReplicas_lifted a b H c)
#print axioms restReplicas_holds
end Go.Proofs.YtapciiffpnociabGreat
