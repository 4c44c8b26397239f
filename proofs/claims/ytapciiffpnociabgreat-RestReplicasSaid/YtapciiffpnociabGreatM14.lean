/- Several texts in one: RuGq Small RelX RelB RelC RelM RelY RelT RelG RelH RuX RuY RuTa MoA MoB SpoA SpuA SpoB SpuB GxSpm. Condition: none. -/
import Derived.Test.YtapciiffpnociabGreatM13
set_option linter.all false
set_option maxHeartbeats 8000000
open Bool renaming and_eq_true→Ae,not_eq_true'→D7
open Int renaming toNat_natCast→F9
open List renaming append_nil→Bn,cons_append→Dh,drop_of_length_le→Ar,ext_getElem?→Ce,filter_append→Cf,getD_eq_getElem?_getD→Dn,getElem?_append_left→Bj,getElem?_append_right→A7,getElem?_eq_getElem→Ad,getElem?_map→Bh,getElem?_set→En,getElem?_set_self→B8,getElem_cons_succ→Ef,getElem_cons_zero→Ee,getElem_map→Dp,getElem_mem→Ah,getElem_set_self→Gw,length→B0,length_append→Ag,length_cons→Ba,length_filter_le→Cd,length_map→Aa,length_nil→Dv,length_range→Dz,length_set→A6,length_singleton→A0,length_take→Ap,map_append→Au,map_congr_left→Di,map_cons→A3,map_map→Ed,mem_cons→Bl,mem_cons_of_mem→Ak,mem_cons_self→Ac,mem_of_getElem?→B2,mem_singleton→A1,not_mem_nil→B6,replicate→Aq,sum_append→Fp,take_append_of_le_length→Bc,take_length→Ia,take_of_length_le→Aj,take_succ_eq_append_getElem→Am
open Nat renaming beq→Az,beq_refl→Fv,ble_eq_true_of_le→Dk,eq_of_beq_eq_true→Ao,le_of_ble_eq_true→Ab,le_refl→Af,le_trans→Aw,mul_one→Dq,ne_of_beq_eq_false→By,zero_add→C4,zero_le→Ai
open Option renaming map_some→B1
namespace Go.Proofs.YtapciiffpnociabGreat
open Tryz
section
open Go Go.RowKit
variable [Y0]
def iw {a b:Nat} (h:a≠b):Az a b=false:=by
 cases c:Az a b with
 | true=>exact absurd (Ao c) h
 | false=>rfl
def N8:Nat->List Gr->Hp
 | _,[]=>[]
 | j,g::b=>(2*j+100,.M1 193 [.s 1 (g.1.map aq),.row (2*j+101)])::(2*j+101,.row 3 1 (g.2.map aq))::N8 (j+1) b
def k6 (j n:Nat):List SV:=(List.range n).map λi=>.loc (2*(j+i)+100) 0
def yj:∀ (gs:List Gr) (j i:Nat) (h:i<gs.length),Hp.get (N8 j gs) (2*(j+i)+100)=some (.M1 193 [.s 1 ((gs[i]'h).1.map aq),.row (2*(j+i)+101)])
 | g::gs,j,i,h=>by
  cases i with
  | zero =>
   simp only [N8,Hp.get,Nat.add_zero,Ee]
   rw [show Az (2*j+100) (2*j+100)=true from Fv _]
  | succ i =>
   simp only [N8,Hp.get,Ef]
   rw [iw (by omega:2*j+100≠2*(j+(i+1))+100),iw (by omega:2*j+101≠2*(j+(i+1))+100)]
   simp only
   rw [show 2*(j+(i+1))+100=2*((j+1)+i)+100 by omega,show 2*(j+(i+1))+101=2*((j+1)+i)+101 by omega]
   exact yj gs (j+1) i (by simpa using h)
def yh:∀ (gs:List Gr) (j i:Nat) (h:i<gs.length),Hp.get (N8 j gs) (2*(j+i)+101)=some (.row 3 1 ((gs[i]'h).2.map aq))
 | g::gs,j,i,h=>by
  cases i with
  | zero =>
   simp only [N8,Hp.get,Nat.add_zero,Ee]
   rw [iw (by omega:2*j+100≠2*j+101),show Az (2*j+101) (2*j+101)=true from Fv _]
  | succ i =>
   simp only [N8,Hp.get,Ef]
   rw [iw (by omega:2*j+100≠2*(j+(i+1))+101),iw (by omega:2*j+101≠2*(j+(i+1))+101)]
   simp only
   rw [show 2*(j+(i+1))+101=2*((j+1)+i)+101 by omega]
   exact yh gs (j+1) i (by simpa using h)
def yi:∀ (gs:List Gr) (j:Nat) (p:Nat×HB),p∈N8 j gs->∃ i,∃ h:i<gs.length,p=(2*(j+i)+100,.M1 193 [.s 1 ((gs[i]'h).1.map aq),.row (2*(j+i)+101)])∨p=(2*(j+i)+101,.row 3 1 ((gs[i]'h).2.map aq))
 | [],_,_,h=>by simp [N8] at h
 | g::gs,j,p,h=>by
  simp only [N8,Bl] at h
  rcases h with rfl|rfl|h
  ·exact⟨0,by simp,.inl rfl⟩
  ·exact⟨0,by simp,.inr rfl⟩
  ·obtain⟨i,b,h⟩:=yi gs (j+1) p h
   refine⟨i+1,by simpa using b,?_⟩
   rw [show j+(i+1)=j+1+i by omega]
   simpa using h
def Jm:∀ (gs:List Gr) (j:Nat),((N8 j gs).map (·.1)).Nodup
 | [],_=>by simp [N8]
 | g::gs,j=>by
  simp only [N8,A3,List.nodup_cons,Bl,not_or]
  refine⟨⟨by omega,λh=>?_⟩,λh=>?_,Jm gs (j+1)⟩
  ·obtain⟨p,b,c⟩:=List.mem_map.1 h
   obtain⟨i,d,h|h⟩:=yi gs (j+1) p b<;>subst h<;>simp only at c<;>omega
  ·obtain⟨p,b,c⟩:=List.mem_map.1 h
   obtain⟨i,d,h|h⟩:=yi gs (j+1) p b<;>subst h<;>simp only at c<;>omega
def PD {gs:List Gr} {j:Nat} {p:Nat×HB} (h:p∈N8 j gs):2*j+100<=p.1/\p.1<2*(j+gs.length)+100:=by obtain⟨i,b,h|h⟩:=yi gs j p h<;>subst h<;>simp only<;>omega
def c7 {l:List Nat} (h:l.Nodup):a8 l=true:=by
 induction l with
 | nil=>rfl
 | cons x l ih =>
  obtain⟨c,d⟩:=List.nodup_cons.1 h;have f:∀ (r:List Nat),x ∉ r->Z6 x r=true:=by
   intro r;induction r with
   | nil=>intro _;rfl
   | cons y r g =>
    intro b;rw [Bl,not_or] at b;simp only [Z6,Ae,D7];exact⟨iw b.1,g b.2⟩
  simp only [a8,Ae];exact⟨f l c,ih d⟩
def Li {k:Nat}:∀ (gs:List Gr) (j:Nat),2*(j+gs.length)+100<=k->Hp.low k (N8 j gs)=true
 | [],_,_=>rfl
 | g::gs,j,h=>by
  rw [Ba] at h
  simp only [N8,Hp.low,Ae]
  refine⟨Dk (by omega),?_,Dk (by omega),rfl,Li gs (j+1) (by omega)⟩
  show SV.U1 k _=true
  simp only [SV.U1,SV.low,Ae,Bool.true_and]
  exact⟨Dk (by omega),trivial⟩
def rQ (r:O3) (ways:List (List Int)) (i:Nat):List Gr:=yf<|(ways.take i).map<|pW r
def YU (gs:List Gr) (cap:Nat):SV:=match gs with
 | []=>.Q1
 | g::gs=>.sl 2 0 (g::gs).length cap
def GU (r:O3) (gs:List Gr) (cap:Nat):Hp:=match gs with
 | []=>[(0,.M1 87 [.i r.N0,.s 2 (r.D0.map a7),.i r.T0,.s 4 (r.body.map bf),.i r.vars]),(1,.M1 3 [.i ((r.D0.length-1:Nat):Int)])]
 | g::gs=>(0,.M1 87 [.i r.N0,.s 2 (r.D0.map a7),.i r.T0,.s 4 (r.body.map bf),.i r.vars])::(1,.M1 3 [.i ((r.D0.length-1:Nat):Int)]) ::
  (2,.M1 191<|k6 0 (g::gs).length++Aq (cap-(g::gs).length) .V1)::N8 0 (g::gs)
def uU (gs:List Gr) (w:List Int×Int):(Sg gs w).length<=gs.length+1:=by
 unfold Sg;split
 ·rw [A6];omega
 ·simp
def VB:∀ (b:List (List Int×Int)) (gs:List Gr),(b.foldl Sg gs).length<=gs.length+b.length
 | [],_=>by simp
 | w::b,gs=>by
  rw [List.foldl_cons]
  have c:=VB b (Sg gs w)
  have d:=uU gs w
  rw [Ba];omega
def fH (r:O3) (ways:List (List Int)) {i:Nat}:(rQ r ways i).length<=i:=by have h:=VB ((ways.take i).map<|pW r) [];rw [Aa,Ap] at h;unfold rQ yf;simp only [Dv] at h;omega
def El (ρ:Nat->Nat):∀ n,SV.T4 ρ (Aq n .V1)=Aq n .V1
 | 0=>rfl
 | n+1=>by rw [List.replicate_succ];simp only [SV.T4,SV.V2,El ρ n]
section
variable {Γ : Ctx} {k : Nat} {L : Sl} {H : Hp} {a : Act} {w : World} {e : Env}
def fM (m:J0 Γ k L H e a w) {id:Nat} {ds:List D} (hb:Je (λ_=>True) H id ds) {X:Nat->Prop} {v:Value} (d:Rel X e w (.loc id 0) v):Rel Γ.O e w (.pd ds) v:=
 GR (HL m (X':=Γ.O) (λ_ c=>.inl c) (λp f _ b hb c=>(m.M3 b<|List.mem_filterMap.2 ⟨p,f,hb⟩).2 c) hb d.2)
def KG (m:J0 Γ k L H e a w) {t f i j:Nat} {b c:List D} (h:L.get t=.fn f [.loc i 0,.loc j 0]) (h1:Je (λ_=>True) H i b) (n:Je (λ_=>True) H j c):Rel Γ.O e w (.fn f [.pd b,.pd c]) (a.eval (.tmp t)):=by
 have d:=m.slot t;rw [h] at d;obtain⟨g,o,p⟩:=d;refine⟨g,o,?_⟩
 match g,p with
 | [u,v],⟨r,s,_⟩=>exact⟨fM m h1 r,fM m n s,trivial⟩
def cW (m:J0 Γ k L H e a w) {t i n cap:Nat} {te:TypeId} {cs:List SV} {c:List (List D)} (g:L.get t=.sl i 0 n cap) (hH:Hp.get H i=some (.M1 te cs)) (o:c.length=n)
  (hc:∀ j (h:j<c.length),∃ id,cs[j]?=some (.loc id 0)/\Je (λ_=>True) H id c[j]):Rel Γ.O e w (.s 1 (c.map λds=>[.ptr ds])) (a.eval (.tmp t)):=by
 have f:=m.slot t;rw [g] at f;exact ZF m (X':=Γ.O) (S:=λ_=>True) (λ_ d=>.inl d) (λp r _ b u d=>(m.M3 b<|List.mem_filterMap.2 ⟨p,r,u⟩).2 d) trivial hH o hc f
def GS (m:J0 Γ k L H e a w) {t es:Nat} (c:L.get t=.Q1):Rel Γ.O e w (.s es []) (a.eval (.tmp t)):=by have b:=m.slot t;rw [c] at b;rw [show a.eval (.tmp t)=.slice none 0 0 from b];exact .nil
def PW {S:Nat->Prop} {H:Hp} {id:Nat} {ty:TypeId} {d:D} (b:S id) (h:Hp.get H id=some (.M1 ty [.d d])):Je S H id [d]:=
 ⟨b,ty,_,h,λj c=>by
  have:j=0:=by simpa using c
  subst this;exact⟨.d d,rfl,.inl rfl⟩⟩
end
def ku:∀ {pre H:Hp} {t:Nat},(∀ p∈pre,p.1≠t)->Hp.get (pre++H) t=Hp.get H t
 | [],_,_,_=>rfl
 | (d,s)::pre,H,t,h=>by
  rw [Dh]
  simp only [Hp.get]
  rw [iw (h (d,s) (Ac ..))]
  exact ku λp b=>h p (Ak _ b)
def iY {pre:Hp} {gs:List Gr} {j:Nat} (b:j<gs.length) (d:∀ p∈pre,p.1<100∨5000<=p.1) (g:gs.length<=2000) :
  Je (λ_=>True) (pre++N8 0 gs) (2*(0+j)+100) [.slice 1 ((gs[j]'b).1.map aq),.slice 1 ((gs[j]'b).2.map aq)]:=by
 refine⟨trivial,_,_,(ku λp c=>?_).trans (yj gs 0 j b),λi f=>?_⟩
 ·have:=d p c;omega
 ·match i,f with
  | 0,_=>exact⟨_,rfl,.inl rfl⟩
  | 1,_=>exact⟨_,rfl,.inr (.inl ⟨_,_,_,_,rfl,trivial,(ku λp c=>by have:=d p c;omega).trans (yh gs 0 j b),rfl⟩)⟩
def s9 {n j:Nat} (h:j<n) (t:List SV):(k6 0 n++t)[j]?=some (.loc (2*(0+j)+100) 0):=by unfold k6;rw [Bj (by simpa using h),Bh,List.getElem?_range h];rfl
def dsG (g:Gr):List D:=[.slice 1 (g.1.map aq),.slice 1<|g.2.map aq]
def qu {ρ:Nat->Nat} {H:Hp}:∀ {H':Hp},(∀ p∈H',Hp.get H (ρ p.1)=some (p.2.V2 ρ))->N4 ρ H H'
 | [],_=>trivial
 | (_,_)::_,h=>⟨h _ (Ac ..),qu λp b=>h p (Ak _ b)⟩
def Kd (j:Nat) (gs:List Gr):Hp:=(N8 0 gs).filter λp=>!(Az p.1<|2*(0+j)+100) && !(Az p.1<|2*(0+j)+101)
def lA (j x:Nat):Nat:=match Az x 3 with
 | true=>2*(0+j)+100
 | false=>match Az x 4 with
  | true=>2*(0+j)+101
  | false=>match Az x 6 with
   | true=>5000
   | false=>x
def Lh {j x:Nat} (h:100<=x):lA j x=x:=by unfold lA;rw [iw (by omega:x≠3),iw (by omega:x≠4),iw (by omega:x≠6)]
def MS {pre:Hp} {gs:List Gr} {j:Nat} (c:∀ p∈pre,p.1<100∨5000<=p.1) (g:gs.length<=2000):∀ p∈Kd j gs,Hp.get (pre++N8 0 gs) (lA j p.1)=some (p.2.V2 (lA j)):=by
 intro p f;obtain⟨i,d,h|h⟩:=yi gs 0 p (List.mem_filter.1 f).1
 ·subst h;rw [Lh<|by simp only;omega];refine (ku λq b=>by have:=c q b;simp only;omega).trans<|(yj gs 0 i d).trans ?_;simp only [HB.V2,SV.T4,SV.V2,Lh (j:=j) (x:=2*(0+i)+101)<|by omega]
 ·subst h;rw [Lh<|by simp only;omega];exact (ku λq b=>by have:=c q b;simp only;omega).trans<|yh gs 0 i d
def BC {k:Nat}:∀ {H:Hp},(∀ p∈H,p.1<k/\p.2.low k=true)->Hp.low k H=true
 | [],_=>rfl
 | (i,b)::H,h=>by
  simp only [Hp.low,Ae]
  have:=h (i,b) (Ac ..)
  exact⟨Dk (by simp only at this;omega),this.2,BC λp c=>h p<|Ak _ c⟩
def OD {j:Nat} {gs:List Gr} (d:gs.length<=2000):Hp.low 5000 (Kd j gs)=true:=by
 refine BC λp b=>?_
 have b:=(List.mem_filter.1 b).1;have c:=Hp.I7 _ (Li (k:=5000) gs 0<|by omega) p b;exact c
def Nr {j:Nat} {gs:List Gr}:((Kd j gs).map (·.1)).Nodup/\∀ i∈(Kd j gs).map (·.1),100<=i/\i≠2*(0+j)+100/\i≠2*(0+j)+101:=by
 refine⟨(List.filter_sublist.map _).nodup (Jm gs 0),λi c=>?_⟩
 obtain⟨p,d,rfl⟩:=List.mem_map.1 c;obtain⟨f,b⟩:=List.mem_filter.1 d;simp only [Ae,D7] at b;exact⟨by have:=PD f;omega,By b.1,By b.2⟩
def jY {j:Nat} {gs:List Gr} (d:gs.length<=2000):∀ i∈(Kd j gs).map (·.1),i<5000:=by
 intro i b;obtain⟨p,c,rfl⟩:=List.mem_map.1 b;have:=PD (List.mem_filter.1 c).1
 omega
def jb {j:Nat} {gs:List Gr} (c:gs.length<=2000) {a:List Nat} (d:a.Nodup) (f:∀ x∈a,x<100∨5000<=x∨x=2*(0+j)+100∨x=2*(0+j)+101):(a++(Kd j gs).map (·.1)).Nodup:=by refine List.nodup_append.2 ⟨d,Nr.1,λx g y b h=>?_⟩;subst h;have i:=f x g;have m:=Nr.2 x b;have n:=jY c x b;omega
def qW {j:Nat} {gs:List Gr}:(Kd j gs).map (λp=>lA j p.1)=(Kd j gs).map (·.1):=
 Di λp b=>Lh (Nr.2 p.1<|List.mem_map.2 ⟨p,b,rfl⟩).1
def uD {k:Nat}:∀ {l:List SV},(∀ s∈l,s.low k=true)->SV.U1 k l=true
 | [],_=>rfl
 | s::l,h=>by
  simp only [SV.U1,Ae]
  exact⟨h s (Ac ..),uD λt b=>h t (Ak _ b)⟩
def Um {n m j:Nat} (d:n<=2000):SV.U1 5000 ((k6 0 n++Aq m SV.V1).set j (.loc 3 0))=true:=by
 refine uD λs b=>?_
 rcases List.mem_or_eq_of_mem_set b with b|rfl
 ·rcases List.mem_append.1 b with b|b
  ·unfold k6 at b;obtain⟨i,c,rfl⟩:=List.mem_map.1 b;have:=List.mem_range.1 c
   exact Dk<|by omega
  ·rw [(List.mem_replicate.1 b).2];rfl
 ·rfl
def Nh (ρ:Nat->Nat):∀ (l:List SV),SV.T4 ρ l=l.map (SV.V2 ρ)
 | []=>rfl
 | s::l=>by simp only [SV.T4,A3,Nh ρ l]
def ZP {j n m:Nat} (b:j<n):SV.T4 (lA j) ((k6 0 n++Aq m SV.V1).set j (.loc 3 0))=k6 0 n++Aq m SV.V1:=by
 have c:SV.V2 (lA j) (.loc 3 0)=.loc (2*(0+j)+100) 0:=rfl;have d:(k6 0 n).map (SV.V2<|lA j)=k6 0 n:=by
  unfold k6;rw [Ed];refine Di λi _=>?_
  show SV.loc (lA j<|2*(0+i)+100) 0=_;rw [Lh<|by omega]
 rw [Nh,List.map_set,Au,d,c,List.map_replicate];exact u7<|s9 b _
def u6 {τ:List (Nat×TI)} {g:Operand->SV} {b:Nat->Option HB} {z d id off:Nat} {t ty e:TypeId} {x:Operand} {cs:List SV} {s:SV} (c:(ai τ t).sh=.ptr e) (f:g x=.loc id off) (h:b id=some (.M1 ty cs)) (hc:cs[off]?=some s):jv τ g b z (some d) (.load t x)=some (True,s,.no):=by simp [jv,oe,Z7,Kw,vq,c,f,h,hc,mf]
def yg (f:Nat->Bool):∀ (H:Hp) (t:Nat),f t=true->Hp.get (H.filter λp=>f p.1) t=Hp.get H t
 | [],_,_=>rfl
 | (d,s)::H,t,h=>by
  rw [List.filter_cons]
  cases b:Az d t with
  | true =>
   have:=Ao b
   subst this
   rw [if_pos h]
   simp only [Hp.get,b]
  | false =>
   split
   ·simp only [Hp.get,b];exact yg f H t h
   ·simp only [Hp.get,b];exact yg f H t h
def rW {gs:List Gr} {i j:Nat} (hi:i<gs.length) (b:i≠j):Hp.get (Kd j gs) (2*(0+i)+100)=some (.M1 193 [.s 1 ((gs[i]'hi).1.map aq),.row (2*(0+i)+101)]):=by unfold Kd;rw [yg (λx=>!(Az x<|2*(0+j)+100) && !(Az x<|2*(0+j)+101)) _ _<|by rw [iw (by omega),iw<|by omega];rfl];exact yj gs 0 i hi
def oW {gs:List Gr} {i j:Nat} (hi:i<gs.length) (b:i≠j):Hp.get (Kd j gs) (2*(0+i)+101)=some (.row 3 1 ((gs[i]'hi).2.map aq)):=by unfold Kd;rw [yg (λx=>!(Az x<|2*(0+j)+100) && !(Az x<|2*(0+j)+101)) _ _<|by rw [iw (by omega),iw<|by omega];rfl];exact yh gs 0 i hi
def Ze (j x:Nat):Nat:=match Az x (2*(0+j)+100) with
 | true=>3
 | false=>match Az x (2*(0+j)+101) with
  | true=>5016
  | false=>x
def qv {j x:Nat} (h1:x≠2*(0+j)+100) (b:x≠2*(0+j)+101):Ze j x=x:=by unfold Ze;rw [iw h1,iw b]
def vl (j:Nat):Ze j (2*(0+j)+100)=3:=by unfold Ze;rw [Fv]
def vk (j:Nat):Ze j (2*(0+j)+101)=5016:=by unfold Ze;rw [iw (by omega),Fv]
def Uf {gs:List Gr} {j:Nat} {x:Int} {d f g m:HB} (b:j<gs.length) (z:gs.length<=2000) :
  ∀ p∈N8 0 (gs.set j ((gs[j]'b).1,(gs[j]'b).2++[x])),
   Hp.get ([(5016,.row 3 1 ((gs[j]'b).2.map aq++[[.int .i64 x]])),(3,.M1 193 [.s 1 ((gs[j]'b).1.map aq),.row 5016]),(2,d),(6,f),(0,g),(1,m)]++Kd j gs) (Ze j p.1)=some (p.2.V2 (Ze j)):=by
 intro p v;obtain⟨i,y,h⟩:=yi _ 0 p v;have n:i<gs.length:=by simpa using y
 have o:∀ (t:Nat),100<=t->t<5000->Hp.get ([(5016,HB.row 3 1<|(gs[j]'b).2.map aq++[[.int .i64 x]]),(3,.M1 193 [.s 1 ((gs[j]'b).1.map aq),.row 5016]),(2,d),(6,f),(0,g),(1,m)]++Kd j gs) t=Hp.get (Kd j gs) t:=by
  intro t A C;refine ku λq r=>?_
  simp only [Bl,B6,or_false] at r;rcases r with rfl|rfl|rfl|rfl|rfl|rfl<;>simp only<;>omega
 by_cases c:i=j
 ·subst c;rcases h with rfl|rfl
  ·simp only [vl,HB.V2,SV.T4,SV.V2,vk,Gw];rfl
  ·simp only [vk,HB.V2,Gw,Au];rfl
 ·have u:(gs.set j ((gs[j]'b).1,(gs[j]'b).2++[x]))[i]=gs[i]:=List.getElem_set_ne (Ne.symm c) _;rcases h with rfl|rfl
  ·simp only [u];rw [qv (by omega) (by omega),o _ (by omega) (by omega),rW n c];simp only [HB.V2,SV.T4,SV.V2,qv (j:=j) (x:=2*(0+i)+101) (by omega)<|by omega]
  ·simp only [u];rw [qv (by omega) (by omega),o _ (by omega) (by omega),oW n c];rfl
def Og {j n m:Nat} (c:j<n):SV.T4 (Ze j) (k6 0 n++Aq m SV.V1)=(k6 0 n++Aq m SV.V1).set j (.loc 3 0):=by
 rw [Nh];apply Ce;intro i;rw [Bh,En];by_cases b:j=i
 ·subst b;rw [if_pos rfl,s9 c,if_pos<|by rw [Ag];unfold k6;rw [Aa,Dz];omega];simp only [B1,SV.V2,vl]
 ·rw [if_neg b];by_cases d:i<n
  ·rw [s9 d];simp only [B1,SV.V2,qv (j:=j) (x:=2*(0+i)+100) (by omega)<|by omega]
  ·rw [A7<|by unfold k6;rw [Aa,Dz];omega];cases f:(Aq m SV.V1)[i-(k6 0 n).length]? with
   | none=>rfl
   | some s =>
    rw [(List.mem_replicate.1<|B2 f).2];rfl
def nQ {gs:List Gr} {w:List Int×Int} {j:Nat} (b:j<gs.length) (c:gs.findIdx? (λg=>decide (g.1=w.1))=some j):Sg gs w=gs.set j ((gs[j]'b).1,(gs[j]'b).2++[w.2]):=by have h:=(List.findIdx?_eq_some_iff_findIdx_eq.1 c).2;unfold Sg;rw [h,Ad b]
def MI {gs:List Gr} {cap:Nat} (h:gs≠[]):YU gs cap=.sl 2 0 gs.length cap:=by
 cases gs with
 | nil=>exact absurd rfl h
 | cons g gs=>rfl
def JI {r:O3} {gs:List Gr} {cap:Nat} (h:gs≠[]):GU r gs cap=(0,.M1 87 [.i r.N0,.s 2 (r.D0.map a7),.i r.T0,.s 4 (r.body.map bf),.i r.vars])::(1,.M1 3 [.i ((r.D0.length-1:Nat):Int)]) ::
  (2,.M1 191 (k6 0 gs.length++Aq (cap-gs.length) .V1))::N8 0 gs:=by
 cases gs with
 | nil=>exact absurd rfl h
 | cons g gs=>rfl
def sR {j a b:Nat} (i:a<3∨(100<=a/\a<5000)) (hb:b<3∨(100<=b/\b<5000)) (h:a≠b):Ze j a≠Ze j b:=by
 by_cases c:a=2*(0+j)+100<;>by_cases d:a=2*(0+j)+101<;>by_cases f:b=2*(0+j)+100<;>by_cases g:b=2*(0+j)+101 <;>
  first
  | omega
  | (subst c;rw [vl,qv f g];omega)
  | (subst d;rw [vk,qv f g];omega)
  | (subst f;rw [vl,qv c d];omega)
  | (subst g;rw [vk,qv c d];omega)
  | (subst c;subst g;rw [vl,vk];omega)
  | (subst d;subst f;rw [vl,vk];omega)
  | (rw [qv c d,qv f g];exact h)
def Qj {gs:List Gr} (j:gs.length<=2000):([0,1,2]++(N8 0 gs).map (λp:Nat×HB=>p.1)).Nodup/\∀ i∈[0,1,2]++(N8 0 gs).map (λp:Nat×HB=>p.1),i<3∨(100<=i/\i<5000):=by
 have c:∀ i∈(N8 0 gs).map (λp:Nat×HB=>p.1),100<=i/\i<5000:=λi b=>by
  obtain⟨p,d,rfl⟩:=List.mem_map.1 b;have:=PD d
  omega
 refine⟨List.nodup_append.2 ⟨by simp,Jm gs 0,λx f y g h=>?_⟩,λi b=>?_⟩
 ·subst h;have:=c x g
  simp only [Bl,B6,or_false] at f;omega
 ·rcases List.mem_append.1 b with b|b
  ·simp only [Bl,B6,or_false] at b;omega
  ·exact .inr<|c i b
def Oz {j:Nat} {gs:List Gr} (c:gs.length<=2000):(([0,1,2]++(N8 0 gs).map (λp:Nat×HB=>p.1)).map (Ze j)).Nodup:=by obtain⟨d,b⟩:=Qj c;refine List.pairwise_map.2<|List.Pairwise.imp_of_mem (λf g h=>sR (b _ f) (b _ g) h) d
def Ng {n m:Nat} (d:n<=2000):SV.U1 5000 (k6 0 n++Aq m SV.V1)=true:=by
 refine uD λs b=>?_
 rcases List.mem_append.1 b with b|b
 ·unfold k6 at b;obtain⟨i,c,rfl⟩:=List.mem_map.1 b;have:=List.mem_range.1 c
  exact Dk<|by omega
 ·rw [(List.mem_replicate.1 b).2];rfl
def qI {gs:List Gr} {w:List Int×Int} (b:gs.findIdx? (λg=>decide (g.1=w.1))=none):Sg gs w=(gs++[(w.1,[])]).set gs.length (w.1,[]++[w.2]):=by have h:gs.findIdx (λg=>decide (g.1=w.1))=gs.length:=List.findIdx_eq_length.2 (λg c=>by simpa using List.findIdx?_eq_none_iff.1 b g c);unfold Sg;rw [h,List.getElem?_eq_none (Af _),List.set_append_right _ _ (Af _),Nat.sub_self];rfl
def sM:∀ (gs:List Gr) (j:Nat) (g:Gr),N8 j (gs++[g])=N8 j gs++[(2*(j+gs.length)+100,.M1 193 [.s 1 (g.1.map aq),.row (2*(j+gs.length)+101)]),(2*(j+gs.length)+101,.row 3 1 (g.2.map aq))]
 | [],_,_=>rfl
 | h::gs,j,g=>by
  rw [Dh,N8,N8,sM gs (j+1) g,Ba,show j+1+gs.length=j+(gs.length+1) by omega]
  rfl
def rM (gs:List Gr) (g:Gr):Kd gs.length (gs++[g])=N8 0 gs:=by
 unfold Kd;rw [sM,Cf];have b:(N8 0 gs).filter (λp=>!(Az p.1<|2*(0+gs.length)+100) && !(Az p.1<|2*(0+gs.length)+101))=N8 0 gs:=by
  refine List.filter_eq_self.2 λp c=>?_
  have:=PD c
  rw [iw (by omega),iw<|by omega];rfl
 rw [b];simp [Fv]
def Fi {r:O3} {ways:List (List Int)} {i:Nat} (hi:i<ways.length):rQ r ways (i+1)=Sg (rQ r ways i) (pW r ways[i]):=by unfold rQ yf;rw [Am hi,Au,List.foldl_append];rfl
def OF (b r x:Nat):Nat:=match Az x 3 with
 | true=>5001
 | false=>match Az x 4 with
  | true=>r
  | false=>match Az x 6 with
   | true=>5000
   | false=>match Az x 2 with
    | true=>b
    | false=>x
def Kh {b r x:Nat} (h:100<=x):OF b r x=x:=by unfold OF;rw [iw (by omega:x≠3),iw (by omega:x≠4),iw (by omega:x≠6),iw (by omega:x≠2)]
def jH {b r j:Nat} {gs:List Gr}:(Kd j gs).map (λp=>OF b r p.1)=(Kd j gs).map (·.1):=
 Di λp c=>Kh (Nr.2 p.1<|List.mem_map.2 ⟨p,c,rfl⟩).1
def bG:Hp->Bool
 | []=>true
 | (i,_)::H=>(Nat.blt i 100||Nat.ble 5000 i)&&bG H
def Mf:∀ {H:Hp},bG H=true->∀ p∈H,p.1<100∨5000<=p.1
 | [],_,_,h=>by simp at h
 | (i,b)::H,h,p,c=>by
  simp only [bG,Ae,Bool.or_eq_true] at h
  rcases List.mem_cons.1 c with rfl|c
  ·rcases h.1 with d|d
   ·exact .inl (Nat.lt_of_succ_le (Ab d))
   ·exact .inr (Ab d)
  ·exact Mf h.2 p c
def NS {b r:Nat} {pre:Hp} {gs:List Gr} (g:bG pre=true) (m:gs.length<=2000):∀ p∈N8 0 gs,Hp.get (pre++N8 0 gs) (OF b r p.1)=some (p.2.V2 (OF b r)):=by
 intro p j;have d:=Mf g;obtain⟨i,f,h|h⟩:=yi gs 0 p j
 ·subst h;rw [Kh<|by simp only;omega];refine (ku λq c=>by have:=d q c;simp only;omega).trans<|(yj gs 0 i f).trans ?_;simp only [HB.V2,SV.T4,SV.V2,Kh (b:=b) (r:=r) (x:=2*(0+i)+101)<|by omega]
 ·subst h;rw [Kh<|by simp only;omega];exact (ku λq c=>by have:=d q c;simp only;omega).trans<|yh gs 0 i f
def jj (j n:Nat):(k6 j n).length=n:=by unfold k6;rw [Aa,Dz]
def dU {b r n m:Nat}:SV.T4 (OF b r) ((k6 0 (n+1)++Aq m SV.V1).set n (.loc 3 0))=k6 0 n++[.loc 5001 0]++Aq m SV.V1:=by
 rw [Nh];apply Ce;intro i;rw [Bh,En];by_cases c:n=i
 ·subst c;rw [if_pos rfl,if_pos (by rw [Ag,jj];omega),Bj (by rw [Ag,jj];simp),A7 (by rw [jj];exact Af _),jj,Nat.sub_self];rfl
 ·rw [if_neg c];by_cases d:i<n
  ·rw [s9 (by omega),List.append_assoc,s9 d];simp only [B1,SV.V2,Kh (b:=b) (r:=r) (x:=2*(0+i)+100)<|by omega]
  ·rw [A7 (by rw [jj];omega),A7 (by rw [Ag,jj,A0];omega),jj,Ag,jj,A0];cases f:(Aq m SV.V1)[i-(n+1)]? with
   | none=>rfl
   | some s=>rw [(List.mem_replicate.1<|B2 f).2];rfl
def XU {n cap:Nat} (s:SV):nd (k6 0 n++Aq (cap-n) SV.V1) (0+n) [s]=k6 0 n++[s]++Aq (cap-(n+1)) SV.V1:=by
 unfold nd;rw [C4,Bc (by rw [jj];exact Af _),Aj (by rw [jj];exact Af _),A0,
  List.drop_append,jj,Ar (by rw [jj];omega),List.nil_append,show n+1-n=1 by omega,List.drop_replicate,Nat.sub_sub]
def yZ {n m c:Nat} (s:SV):((k6 0 n++Aq m SV.V1).drop 0).take n++[s]++Aq c SV.V1=k6 0 n++[s]++Aq c SV.V1:=by rw [List.drop_zero,Bc (by rw [jj];exact Af _),Aj<|by rw [jj];exact Af _]
def lW {S:Nat->Prop} {pre:Hp} {gs:List Gr} {j:Nat} (b:j<gs.length) (d:∀ i,100<=i->S i) (g:bG pre=true) (m:gs.length<=2000) :
  Je S (pre++N8 0 gs) (2*(0+j)+100) [.slice 1 ((gs[j]'b).1.map aq),.slice 1 ((gs[j]'b).2.map aq)]:=by
 have f:=Mf g;refine⟨d _ (by omega),_,_,(ku λp c=>?_).trans (yj gs 0 j b),λi h=>?_⟩
 ·have:=f p c;omega
 ·match i,h with
  | 0,_=>exact⟨_,rfl,.inl rfl⟩
  | 1,_=>exact⟨_,rfl,.inr (.inl ⟨_,_,_,_,rfl,d _ (by omega),(ku λp c=>by have:=f p c;omega).trans (yh gs 0 j b),rfl⟩)⟩
def CV {e:Env} {a b:Nat} {t1 t2:TypeId} {c d:List SV} {H:Hp} (h:(ah e ((a,.M1 t1 c)::(b,.M1 t2 d)::H)).Nodup):(ah e [(a,.M1 t1 c),(b,.M1 t2 d)]).Nodup:=by
 have:ah e ((a,.M1 t1 c)::(b,.M1 t2 d)::H)=e.β a::e.β b::ah e H:=rfl
 rw [this] at h;obtain⟨g,i⟩:=List.nodup_cons.1 h;show [e.β a,e.β b].Nodup;refine List.nodup_cons.2 ⟨λf=>g ?_,by simp⟩;rw [A1] at f;exact f▸Ac ..
def yK {Γ:Ctx} {k:Nat} {L:Sl} {r:O3} {gs:List Gr} {cap:Nat} (f:gs.length<=2000) (c:L.get 8=YU gs cap) :
  X7 Γ k L (GU r gs cap) k ((8,.s 1 (gs.map lE))::L) [(0,.M1 87 [.i r.N0,.s 2 (r.D0.map a7),.i r.T0,.s 4 (r.body.map bf),.i r.vars]),(1,.M1 3 [.i ((r.D0.length-1:Nat):Int)])]:=by
 cases gs with
 | nil=>exact ff 8 1 c
 | cons g gs =>
  rw [show (g::gs).map lE=((g::gs).map dsG).map λm=>[.ptr m] by rw [Ed];rfl];refine yW (S:=λi=>i≠0/\i≠1) 8 c (by simp) rfl (Aa _) (λj b=>?_) (λp d=>?_) (by simp)<|λe h=>CV h
  ·rw [Aa] at b;refine⟨_,s9 b _,?_⟩
   rw [Dp];exact lW (pre:=[(_,_),(_,_),(_,_)]) b (λi n=>by omega) rfl f
  ·simp only [Bl,B6,or_false] at d;rcases d with rfl|rfl<;>simp [GU]
def LR {b:List Int} {r:O3} {ways:List (List Int)} (c:O6 b r ways) {w:List Int} (d:w∈ways):-1000000<=(pW r w).2/\(pW r w).2<=1000000:=by
 show -1000000<=(aW r w).getD (r.D0.length-1) 0/\(aW r w).getD (r.D0.length-1) 0<=1000000;rw [Dn];cases h:(aW r w)[r.D0.length-1]? with
 | none=>simp
 | some x=>exact c.Yp d x<|B2 h
def eT {o:List Int} {r:O3} {ways:List (List Int)} (b:O6 o r ways) {gs:List Gr} (d:aL gs (ways.map (pW r))) {g:Gr} (f:g∈gs) :
  g.2≠[]/\(∀ x∈g.2,-1000000<=x/\x<=1000000)/\g.2.length<=1000000/\g.1.length<=3:=by
 have c:=d.Yp g f;obtain⟨w,i,j⟩:=d.here g f;have s:=b.many;have v:=b.Jd;refine⟨λh=>?_,λx m=>?_,?_,?_⟩
 ·rw [c] at h;have:w.2∈nq (ways.map<|pW r) g.1:=List.mem_map.2 ⟨w,List.mem_filter.2 ⟨i,decide_eq_true j⟩,rfl⟩
  rw [h] at this;simp at this
 ·rw [c] at m;obtain⟨z,p,rfl⟩:=List.mem_map.1 m;obtain⟨u,n,rfl⟩:=List.mem_map.1 (List.mem_filter.1 p).1;exact LR b n
 ·rw [c];unfold nq;rw [Aa];refine Aw (Cd _ _) ?_;rw [Aa];omega
 ·obtain⟨u,n,rfl⟩:=List.mem_map.1 i;rw [<- j];show ((aW r u).take<|r.D0.length-1).length<=3;have:(aW r u).length=r.D0.length:=Aa _
  rw [Ap];omega
def Wd (r:O3) (g:Gr):Option U0:=if IU r.T0 g.2 then some ⟨r.N0,g.1++[Xg r.T0 g.2]⟩ else none
attribute [local irreducible] DW DS DL DQ Ev X1 I3 du bl DT
def TP (l:List Int) (c:l.length<=17592186044416):CC false prog U5 bt 151 [.s 1 (l.map aq)] 3 1 (λys=>ys=l.map aq):=by
 refine T8 func151 ?_;intro O d f g;have i:(l.map aq).length=l.length:=Aa _;refine zS ?_;refine Ly rfl rfl rfl rfl rfl (λh=>?_) ?_
 ·have b:l=[]:=List.map_eq_nil_iff.1 h;subst b;refine zS ?_;refine ag (ce (t:=2) 3 1 rfl) ?_;refine zR ?_;exact⟨.inl rfl,_,rfl,kp id 1 (.row 0) ([(0,.row 3 1 [])]) ⟨[],rfl,rfl,rfl⟩⟩
 ·repeat' (first|(apply Ua;(iterate 8 exact rfl))|(first|refine zs ?_|fail))
  repeat' (apply cr)
  exact⟨.inl rfl,_,rfl,kp (λ_=>1) 1 (.row 0) ([(0,.row 3 1<|l.map aq)]) ⟨_,rfl,rfl,rfl⟩⟩
def lO (F0:List Int) (r:O3) (ways:List (List Int)) (G:O6 F0 r ways) (h0:r.T0≠0):Fn 98 [th r,.s 1 (ways.map gk)] (λb1=>b1=.d (.own Y0.B (.slice 2 ((bg (jn r ways)).map aa)))):=by
 refine J2 func98 ?_;intro c0 w0 E0 K1;have c1:=G.many;have c4:=G.Jd;have c5:=(G.gA.Km h0).1;have lw:(ways.map gk).length=ways.length:=Aa _;have lt:(r.D0.map a7).length=r.D0.length:=Aa _;have a4:∀ i,(rQ r ways i).length<=i:=λi=>fH _ _
 repeat' ((fail_if_success (apply jm 11));(first|refine zs ?_|(refine zm ?_ ?_<;>intro A)|fail))
 all_goals try omega
 refine zS ?_;refine ae (ι:=Nat×Nat) (λc=>⟨5000,[(1,.s 1<|ways.map gk),(2,.loc 0 0),(5,.Q1),(8,YU (rQ r ways c.1) c.2),(9,.loc 1 0),(44,.s 1<|ways.map gk),(45,.i ways.length),(46,.i c.1)],GU r (rQ r ways c.1) c.2⟩)
  (λc=>c.1<=ways.length/\(rQ r ways c.1).length<=c.2/\c.2<=maxLen) (λc=>ways.length-c.1) (0,0) ⟨Ai _,Af _,Ai _⟩
  (er (λj=>match j with|1=>1|_=>0) ⟨rfl,rfl,rfl,rfl,rfl,rfl,by rw [<- lw];rfl,rfl,trivial⟩ ⟨rfl,by rw [show ((r.D0.length-1:Nat):Int)=(((r.D0.map a7).length:Int)-1) by omega];rfl,trivial⟩) ?_
 rintro⟨i,u⟩ ⟨g1,g2,g3⟩;dsimp only at g1 g2 g3 ⊢;by_cases C:i<ways.length
 ·have hm:=Ah C;have w1:=CE r.D0 ways[i] (G.D0 hm) (by omega);have a1:=a4 i;generalize W:rQ r ways i=b at *;cases b with
  | nil =>
   dsimp only [YU,GU];repeat' (first|refine zs ?_|refine z21 ?_ w1|(refine zm ?_ ?_<;>intro A)|omega)
   refine HM (args:=[.s 1 (([]:List Gr).map lE),.fn 149 [.pd [.slice 1<|(aW r ways[i]).map aq],.pd [.int .i64 ((r.D0.length-1:Nat):Int)]]]) (r:=.i<|-1) rfl
    (λe a w m=>⟨GS m rfl,KG m rfl (PW trivial rfl) (PW trivial rfl),trivial⟩)
    (OB (λg=>decide (g.1=(aW r ways[i]).take (r.D0.length-1))) [] rfl<|λg A=>zG _ _ (by unfold aW;rw [Aa];omega) g) rfl rfl rfl ?_
   have la:((aW r ways[i]).map aq).length=r.D0.length:=by unfold aW;rw [Aa,Aa]
   repeat' ((fail_if_success (apply br 19));(first|(apply qp;(iterate 6 exact rfl);(refine⟨?_,?_,?_⟩<;>(first|omega|(simp only [Aa];omega)));((with_reducible apply pm);(exact rfl));exact rfl;exact rfl)|refine zs ?_|fail))
   all_goals try omega
   repeat' ((fail_if_success (apply br 19));fail)
   all_goals try omega
   refine PH rfl rfl rfl rfl rfl rfl rfl rfl rfl rfl rfl ?_;refine Oy rfl rfl rfl rfl rfl rfl rfl rfl rfl rfl rfl rfl (Ab rfl)<|λy b2 b3=>?_;repeat' ((fail_if_success (apply br 19));(first|refine zs ?_|fail))
   refine ag (bk (λj=>match j with|0=>0|1=>1|2=>5003|3=>5001|6=>5000|_=>0) (k':=7)
    (L':=[(1,.s 1<|ways.map gk),(2,.loc 0 0),(5,.Q1),(8,.sl 2 0 1 y),(9,.loc 1 0),(12,.loc 6 0),(13,.i 0),(44,.s 1<|ways.map gk),(45,.i ways.length),(46,.i i)])
    (H':=[(3,.M1 193 [.s 1 (((aW r ways[i]).take<|r.D0.length-1).map aq),.Q1]),(2,.M1 191 (.loc 3 0::Aq (y-1) .V1)),(6,.M1 22 [.s 1<|(aW r ways[i]).map aq]),
     (0,.M1 87 [.i r.N0,.s 2 (r.D0.map a7),.i r.T0,.s 4 (r.body.map bf),.i r.vars]),(1,.M1 3 [.i ((r.D0.length-1:Nat):Int)])])
    ?_ ?_ ?_ ?_ ?_ ?_ ?_ ?_) ?_
   ·exact⟨rfl,rfl,rfl,rfl,rfl,rfl,rfl,rfl,rfl,rfl,trivial⟩
   ·exact⟨rfl,by simp only [HB.V2,SV.V2,SV.T4,El];rfl,rfl,rfl,rfl,trivial⟩
   ·rfl
   ·simp [Hp.low,HB.low,SV.low,SV.U1,Ul]
   ·rfl
   ·rfl
   ·rfl
   ·rfl
   refine ag (gh 3 1 3 1 rfl rfl rfl) ?_;refine lz 17 (by kernel_rfl) (by kernel_rfl) (by kernel_rfl) rfl rfl rfl ?_;refine zS ?_;all_goals try omega
   have p:=Fi (r:=r) C;have S:r.D0.length-1<(aW r ways[i]).length:=by unfold aW;rw [Aa];omega
   have T:(aW r ways[i]).getD (r.D0.length-1) 0=(aW r ways[i])[r.D0.length-1]:=by rw [Dn,Ad S];rfl
   rw [W,show Sg [] (pW r ways[i])=[((aW r ways[i]).take (r.D0.length-1),[(aW r ways[i]).getD (r.D0.length-1) 0])] from rfl,T] at p;refine⟨(i+1,y),⟨C,by rw [p];exact b2,b3⟩,?_,by dsimp only;omega⟩
   dsimp only;rw [p];dsimp only [YU,GU];refine bk (λj=>match j with|0=>0|1=>1|2=>2|100=>3|101=>24|_=>0) ?_ ?_ ?_ ?_ ?_ ?_ ?_ ?_
   ·exact⟨rfl,rfl,rfl,rfl,rfl,rfl,rfl,rfl,trivial⟩
   ·refine⟨rfl,rfl,?_,rfl,?_,trivial⟩
    ·show _=some (HB.M1 _ (SV.T4 _ (SV.loc 100 0::Aq (y-1) .V1)));simp only [SV.V2,SV.T4,El];rfl
    ·rfl
   ·rfl
   ·simp [N8,Hp.low,HB.low,SV.low,SV.U1,Ul,k6]
   ·rfl
   ·rfl
   ·rfl
   ·rfl
  | cons g b =>
   dsimp only [YU,GU];repeat' (first|refine zs ?_|refine z21 ?_ w1|(refine zm ?_ ?_<;>intro A)|omega)
   refine HM (args:=[.s 1 ((g::b).map lE),.fn 149 [.pd [.slice 1<|(aW r ways[i]).map aq],.pd [.int .i64 ((r.D0.length-1:Nat):Int)]]]) (r:=.i<|mv (λg=>decide (g.1=(aW r ways[i]).take (r.D0.length-1))) (g::b)) rfl
    (λe a w m=>⟨?_,KG m rfl (PW trivial rfl) (PW trivial rfl),trivial⟩)
    (OB (λg=>decide (g.1=(aW r ways[i]).take (r.D0.length-1))) (g::b) rfl<|λg A=>zG _ _ (by unfold aW;rw [Aa];omega) g) rfl rfl rfl ?_
   ·rw [show (g::b).map lE=((g::b).map dsG).map λds=>[.ptr ds] by rw [Ed];rfl];refine cW m rfl rfl (Aa _)<|λj I=>?_;rw [Aa] at I;refine⟨_,s9 I _,?_⟩
    rw [Dp];exact iY (pre:=[(_,_),(_,_),(_,_),(_,_)]) I (by intro c6 hp;simp only [Bl,B6,or_false] at hp;rcases hp with rfl|rfl|rfl|rfl<;>simp)<|by omega
   have la:((aW r ways[i]).map aq).length=r.D0.length:=by unfold aW;rw [Aa,Aa]
   cases V:(g::b).findIdx? (λg=>decide (g.1=(aW r ways[i]).take (r.D0.length-1))) with
   | none =>
    rw [show mv (λg=>decide (g.1=(aW r ways[i]).take (r.D0.length-1))) (g::b) = -1 by unfold mv;rw [V]];repeat' ((fail_if_success (apply br 19));(first|(apply qp;(iterate 6 exact rfl);(refine⟨?_,?_,?_⟩<;>(first|omega|(simp only [Aa];omega)));((with_reducible apply pm);(exact rfl));exact rfl;exact rfl)|refine zs ?_|fail))
    all_goals try omega
    refine PH rfl rfl rfl rfl rfl rfl rfl rfl rfl rfl rfl ?_;have o:(g::b).length<=2000:=by omega
    refine BA rfl rfl rfl rfl rfl rfl rfl rfl ?_ rfl rfl rfl rfl rfl ?_ ?_ (λhr=>?_)<|λy q1 q2 q3=>?_
    ·rw [Ag,List.length_replicate];unfold k6;rw [Aa,Dz];omega
    ·show ((g::b).length+1)*8<=140737488355328;omega
    ·unfold maxLen;omega
    ·repeat' ((fail_if_success (apply br 19));(first|refine zs ?_|fail))
     refine ag (gh 5001 1 3 1 rfl rfl rfl) ?_;obtain⟨f,E⟩:∃ x,x=(g::b)++[((pW r ways[i]).1,([]:List Int))]:=⟨_,rfl⟩;obtain⟨j,z⟩:∃ j,j=(g::b).length:=⟨_,rfl⟩;have Y:f.length=(g::b).length+1:=by rw [E,Ag];rfl
     have v:j<f.length:=by omega
     have F:f[j]=((pW r ways[i]).1,[]):=by subst E z;simp
     have a2:Kd j f=N8 0 (g::b):=by rw [E,z];exact rM _ _
     have p:=Fi (r:=r) C;rw [W,qI (w:=pW r ways[i]) V,<- E,<- z] at p;rw [show (((pW r ways[i]).1,[]++[(pW r ways[i]).2]):Gr)=(f[j].1,f[j].2++[(pW r ways[i]).2]) by rw [F]] at p;have J:(f[j].2.map aq).length<=2000:=by rw [F];exact Ai _
     have o:f.length<=2000:=by omega
     have Z:f.length<=u:=by omega
     have c3:u<=maxLen:=by assumption
     refine ag (bk (OF 2 5003) (k':=5000)
      (L':=[(1,.s 1<|ways.map gk),(2,.loc 0 0),(5,.Q1),(8,.sl 2 0 f.length u),(9,.loc 1 0),(12,.loc 6 0),(13,.i j),(44,.s 1<|ways.map gk),(45,.i ways.length),(46,.i i)])
      (H':=(3,.M1 193 [.s 1 ((f[j]'v).1.map aq),.row 4])::(4,.row 3 1<|(f[j]'v).2.map aq)::(2,.M1 191<|(k6 0 f.length++Aq (u-f.length) SV.V1).set j<|.loc 3 0)::(6,.M1 22 [.s 1<|(aW r ways[i]).map aq]) ::
       (0,.M1 87 [.i r.N0,.s 2 (r.D0.map a7),.i r.T0,.s 4 (r.body.map bf),.i r.vars])::(1,.M1 3 [.i ((r.D0.length-1:Nat):Int)])::Kd j f)
      ?_ ?_ ?_ ?_ ?_ ?_ ?_ ?_) ?_
     ·refine⟨rfl,rfl,rfl,?_,rfl,rfl,?_,rfl,rfl,rfl,trivial⟩
      ·rw [Y];rfl
      ·rw [z];rfl
     ·refine⟨?_,?_,?_,rfl,rfl,rfl,qu ?_⟩
      ·rw [F];rfl
      ·rw [F];rfl
      ·simp only [HB.V2];rw [Y,z,dU];exact congrArg (λl=>some<|HB.M1 _ l)<|XU _
      ·rw [a2];exact NS (pre:=[(_,_),(_,_),(_,_),(_,_),(_,_),(_,_),(_,_)]) rfl<|by omega
     ·rfl
     ·simp only [Hp.low,Ae];exact⟨rfl,rfl,rfl,rfl,rfl,Um o,rfl,rfl,rfl,rfl,rfl,rfl,OD o⟩
     ·refine c7 ?_;simp only [A3,jH];exact jb (a:=[5001,5003,2,5000,0,1]) o (by simp)<|by simp
     ·refine c7 ?_;simp only [A3];exact jb (a:=[3,4,2,6,0,1]) o (by simp)<|by simp
     ·rfl
     ·rfl
     have n:a8 (3::4::2::6::0::1::(Kd j f).map (·.1))=true:=c7 (jb (a:=[3,4,2,6,0,1]) o (by simp)<|by simp);have K:a8 (5016::3::2::6::0::1::(Kd j f).map (·.1))=true:=c7 (jb (a:=[5016,3,2,6,0,1]) o (by simp)<|by simp);generalize hT:Kd j f=a5 at n K ⊢;refine lz 17 (by kernel_rfl) (by kernel_rfl) (by kernel_rfl) rfl rfl rfl ?_;refine dp rfl rfl trivial rfl rfl rfl n rfl ?_;refine dp rfl rfl trivial rfl rfl rfl n rfl ?_;refine dp rfl rfl ?_ rfl rfl rfl n rfl ?_
     ·exact⟨by omega,by omega⟩
     have M:((k6 0 f.length++Aq (u-f.length) SV.V1).set j<|.loc 3 0)[0+(j:Int).toNat*1]?=some (.loc 3 0):=by
      rw [C4,Dq,F9,B8];rw [Ag];unfold k6;rw [Aa,Dz];omega
     refine dp rfl (u6 rfl rfl rfl M) trivial rfl rfl rfl n rfl ?_;refine dp rfl rfl trivial rfl rfl rfl n rfl ?_;refine dp rfl rfl trivial rfl rfl rfl n rfl ?_;refine dp rfl rfl ⟨by omega,by omega⟩ rfl rfl rfl n rfl ?_;refine dp rfl (u6 rfl rfl rfl M) trivial rfl rfl rfl n rfl ?_;refine dp rfl rfl trivial rfl rfl rfl n rfl ?_;refine dp rfl rfl trivial rfl rfl rfl n rfl ?_;refine dp rfl rfl trivial rfl rfl rfl n rfl ?_;refine dp rfl rfl trivial rfl rfl rfl n rfl ?_;refine dp rfl rfl trivial rfl rfl rfl n rfl ?_;(apply dp;exact rfl;exact rfl;(omega);((with_reducible apply KD);(exact rfl);(omega));exact rfl;exact rfl;exact n;exact rfl)
     (apply dp;exact rfl;exact rfl;(with_reducible exact trivial);(with_reducible exact rfl);exact rfl;exact rfl;exact n;exact rfl)
     (apply dp;exact rfl;exact rfl;(with_reducible exact trivial);(with_reducible exact rfl);exact rfl;exact rfl;exact n;exact rfl)
     have a9:(f[j].2).length<=2000:=by rw [Aa] at J;exact J
     (apply Wi;(iterate 3 exact rfl);(unfold maxLen;simp<;>omega);(iterate 3 exact rfl);exact n;exact rfl;exact rfl)
     refine Cy K ?_;refine zS ?_;have S:r.D0.length-1<(aW r ways[i]).length:=by unfold aW;rw [Aa];omega
     have T:(pW r ways[i]).2=(aW r ways[i])[r.D0.length-1]:=by
      show (aW r ways[i]).getD (r.D0.length-1) 0=_;rw [Dn,Ad S];rfl
     rw [T] at p;have N:f.set j (f[j].1,f[j].2++[(aW r ways[i])[r.D0.length-1]])≠[]:=λh=>by
      have:=congrArg B0 h
      rw [A6,Dv] at this;omega
     refine⟨(i+1,u),⟨C,by rw [p,A6];exact Z,c3⟩,?_,by dsimp only;omega⟩
     dsimp only;have O:=MI (cap:=u) N;have P:=JI (r:=r) (cap:=u) N;unfold YU at O;unfold GU at P;rw [p,O,P,A6];subst hT;refine bk (Ze j) ?_ ?_ ?_ ?_ ?_ ?_ ?_ ?_
     ·exact⟨rfl,rfl,rfl,rfl,rfl,rfl,rfl,rfl,trivial⟩
     ·refine⟨rfl,rfl,?_,qu<|Uf v o⟩
      simp only [HB.V2,Og v];rfl
     ·rfl
     ·simp only [Hp.low,Ae];exact⟨rfl,rfl,rfl,rfl,rfl,Ng o,Li _ 0<|by rw [A6];omega⟩
     ·refine c7 ?_;have h:=Oz (j:=j) (gs:=f.set j (f[j].1,f[j].2++[(aW r ways[i])[r.D0.length-1]])) (by rw [A6];exact o);simp only [Au,Ed] at h;exact h
     ·refine c7 ?_;exact (Qj (gs:=f.set j (f[j].1,f[j].2++[(aW r ways[i])[r.D0.length-1]]))<|by rw [A6];exact o).1
     ·rfl
     ·rfl
    ·repeat' ((fail_if_success (apply br 19));(first|refine zs ?_|fail))
     refine ag (gh 5001 1 3 1 rfl rfl rfl) ?_;obtain⟨f,E⟩:∃ x,x=(g::b)++[((pW r ways[i]).1,([]:List Int))]:=⟨_,rfl⟩;obtain⟨j,z⟩:∃ j,j=(g::b).length:=⟨_,rfl⟩;have Y:f.length=(g::b).length+1:=by rw [E,Ag];rfl
     have v:j<f.length:=by omega
     have F:f[j]=((pW r ways[i]).1,[]):=by subst E z;simp
     have a2:Kd j f=N8 0 (g::b):=by rw [E,z];exact rM _ _
     have p:=Fi (r:=r) C;rw [W,qI (w:=pW r ways[i]) V,<- E,<- z] at p;rw [show (((pW r ways[i]).1,[]++[(pW r ways[i]).2]):Gr)=(f[j].1,f[j].2++[(pW r ways[i]).2]) by rw [F]] at p;have J:(f[j].2.map aq).length<=2000:=by rw [F];exact Ai _
     have o:f.length<=2000:=by omega
     have Z:f.length<=y:=by omega
     have c3:y<=maxLen:=by assumption
     refine ag (bk (OF 5003 5004) (k':=5000)
      (L':=[(1,.s 1<|ways.map gk),(2,.loc 0 0),(5,.Q1),(8,.sl 2 0 f.length y),(9,.loc 1 0),(12,.loc 6 0),(13,.i j),(44,.s 1<|ways.map gk),(45,.i ways.length),(46,.i i)])
      (H':=(3,.M1 193 [.s 1 ((f[j]'v).1.map aq),.row 4])::(4,.row 3 1<|(f[j]'v).2.map aq)::(2,.M1 191<|(k6 0 f.length++Aq (y-f.length) SV.V1).set j<|.loc 3 0)::(6,.M1 22 [.s 1<|(aW r ways[i]).map aq]) ::
       (0,.M1 87 [.i r.N0,.s 2 (r.D0.map a7),.i r.T0,.s 4 (r.body.map bf),.i r.vars])::(1,.M1 3 [.i ((r.D0.length-1:Nat):Int)])::Kd j f)
      ?_ ?_ ?_ ?_ ?_ ?_ ?_ ?_) ?_
     ·refine⟨rfl,rfl,rfl,?_,rfl,rfl,?_,rfl,rfl,rfl,trivial⟩
      ·rw [Y];rfl
      ·rw [z];rfl
     ·refine⟨?_,?_,?_,rfl,rfl,rfl,qu ?_⟩
      ·rw [F];rfl
      ·rw [F];rfl
      ·simp only [HB.V2];rw [Y,z,dU];exact congrArg (λl=>some<|HB.M1 _ l)<|yZ _
      ·rw [a2];exact NS (pre:=[(_,_),(_,_),(_,_),(_,_),(_,_),(_,_),(_,_),(_,_)]) rfl<|by omega
     ·rfl
     ·simp only [Hp.low,Ae];exact⟨rfl,rfl,rfl,rfl,rfl,Um o,rfl,rfl,rfl,rfl,rfl,rfl,OD o⟩
     ·refine c7 ?_;simp only [A3,jH];exact jb (a:=[5001,5004,5003,5000,0,1]) o (by simp)<|by simp
     ·refine c7 ?_;simp only [A3];exact jb (a:=[3,4,2,6,0,1]) o (by simp)<|by simp
     ·rfl
     ·rfl
     have n:a8 (3::4::2::6::0::1::(Kd j f).map (·.1))=true:=c7 (jb (a:=[3,4,2,6,0,1]) o (by simp)<|by simp);have K:a8 (5016::3::2::6::0::1::(Kd j f).map (·.1))=true:=c7 (jb (a:=[5016,3,2,6,0,1]) o (by simp)<|by simp);generalize hT:Kd j f=a5 at n K ⊢;refine lz 17 (by kernel_rfl) (by kernel_rfl) (by kernel_rfl) rfl rfl rfl ?_;refine dp rfl rfl trivial rfl rfl rfl n rfl ?_;refine dp rfl rfl trivial rfl rfl rfl n rfl ?_;refine dp rfl rfl ?_ rfl rfl rfl n rfl ?_
     ·exact⟨by omega,by omega⟩
     have M:((k6 0 f.length++Aq (y-f.length) SV.V1).set j<|.loc 3 0)[0+(j:Int).toNat*1]?=some (.loc 3 0):=by
      rw [C4,Dq,F9,B8];rw [Ag];unfold k6;rw [Aa,Dz];omega
     refine dp rfl (u6 rfl rfl rfl M) trivial rfl rfl rfl n rfl ?_;refine dp rfl rfl trivial rfl rfl rfl n rfl ?_;refine dp rfl rfl trivial rfl rfl rfl n rfl ?_;refine dp rfl rfl ⟨by omega,by omega⟩ rfl rfl rfl n rfl ?_;refine dp rfl (u6 rfl rfl rfl M) trivial rfl rfl rfl n rfl ?_;refine dp rfl rfl trivial rfl rfl rfl n rfl ?_;refine dp rfl rfl trivial rfl rfl rfl n rfl ?_;refine dp rfl rfl trivial rfl rfl rfl n rfl ?_;refine dp rfl rfl trivial rfl rfl rfl n rfl ?_;refine dp rfl rfl trivial rfl rfl rfl n rfl ?_;(apply dp;exact rfl;exact rfl;(omega);((with_reducible apply KD);(exact rfl);(omega));exact rfl;exact rfl;exact n;exact rfl)
     (apply dp;exact rfl;exact rfl;(with_reducible exact trivial);(with_reducible exact rfl);exact rfl;exact rfl;exact n;exact rfl)
     (apply dp;exact rfl;exact rfl;(with_reducible exact trivial);(with_reducible exact rfl);exact rfl;exact rfl;exact n;exact rfl)
     have a9:(f[j].2).length<=2000:=by rw [Aa] at J;exact J
     (apply Wi;(iterate 3 exact rfl);(unfold maxLen;simp<;>omega);(iterate 3 exact rfl);exact n;exact rfl;exact rfl)
     refine Cy K ?_;refine zS ?_;have S:r.D0.length-1<(aW r ways[i]).length:=by unfold aW;rw [Aa];omega
     have T:(pW r ways[i]).2=(aW r ways[i])[r.D0.length-1]:=by
      show (aW r ways[i]).getD (r.D0.length-1) 0=_;rw [Dn,Ad S];rfl
     rw [T] at p;have N:f.set j (f[j].1,f[j].2++[(aW r ways[i])[r.D0.length-1]])≠[]:=λh=>by
      have:=congrArg B0 h
      rw [A6,Dv] at this;omega
     refine⟨(i+1,y),⟨C,by rw [p,A6];exact Z,c3⟩,?_,by dsimp only;omega⟩
     dsimp only;have O:=MI (cap:=y) N;have P:=JI (r:=r) (cap:=y) N;unfold YU at O;unfold GU at P;rw [p,O,P,A6];subst hT;refine bk (Ze j) ?_ ?_ ?_ ?_ ?_ ?_ ?_ ?_
     ·exact⟨rfl,rfl,rfl,rfl,rfl,rfl,rfl,rfl,trivial⟩
     ·refine⟨rfl,rfl,?_,qu<|Uf v o⟩
      simp only [HB.V2,Og v];rfl
     ·rfl
     ·simp only [Hp.low,Ae];exact⟨rfl,rfl,rfl,rfl,rfl,Ng o,Li _ 0<|by rw [A6];omega⟩
     ·refine c7 ?_;have h:=Oz (j:=j) (gs:=f.set j (f[j].1,f[j].2++[(aW r ways[i])[r.D0.length-1]])) (by rw [A6];exact o);simp only [Au,Ed] at h;exact h
     ·refine c7 ?_;exact (Qj (gs:=f.set j (f[j].1,f[j].2++[(aW r ways[i])[r.D0.length-1]]))<|by rw [A6];exact o).1
     ·rfl
     ·rfl
   | some j =>
    have v:j<(g::b).length:=(List.findIdx?_eq_some_iff_findIdx_eq.1 V).1;rw [show mv (λg=>decide (g.1=(aW r ways[i]).take (r.D0.length-1))) (g::b)=(j:Int) by unfold mv;rw [V]];repeat' ((fail_if_success (apply br 19));(first|refine zs ?_|fail))
    all_goals try omega
    have o:(g::b).length<=2000:=by omega
    refine ag (bk (lA j) (k':=5000)
     (L':=[(1,.s 1<|ways.map gk),(2,.loc 0 0),(5,.Q1),(8,.sl 2 0 (g::b).length u),(9,.loc 1 0),(12,.loc 6 0),(13,.i j),(44,.s 1<|ways.map gk),(45,.i ways.length),(46,.i i)])
     (H':=(3,.M1 193 [.s 1 (((g::b)[j]'v).1.map aq),.row 4])::(4,.row 3 1<|((g::b)[j]'v).2.map aq)::(2,.M1 191<|(k6 0 (g::b).length++Aq (u-(g::b).length) SV.V1).set j<|.loc 3 0)::(6,.M1 22 [.s 1<|(aW r ways[i]).map aq]) ::
      (0,.M1 87 [.i r.N0,.s 2 (r.D0.map a7),.i r.T0,.s 4 (r.body.map bf),.i r.vars])::(1,.M1 3 [.i ((r.D0.length-1:Nat):Int)])::Kd j (g::b))
     ?_ ?_ ?_ ?_ ?_ ?_ ?_ ?_) ?_
    ·exact⟨rfl,rfl,rfl,rfl,rfl,rfl,rfl,rfl,rfl,rfl,trivial⟩
    ·refine⟨(ku (pre:=[(_,_),(_,_),(_,_),(_,_)])<|λq R=>?_).trans (yj (g::b) 0 j v),(ku (pre:=[(_,_),(_,_),(_,_),(_,_)])<|λq R=>?_).trans (yh (g::b) 0 j v),?_,rfl,rfl,rfl,qu (MS (pre:=[(_,_),(_,_),(_,_),(_,_)]) (λq R=>?_) o)⟩
     ·simp only [Bl,B6,or_false] at R;rcases R with rfl|rfl|rfl|rfl<;>(show _≠2*(0+j)+100;omega)
     ·simp only [Bl,B6,or_false] at R;rcases R with rfl|rfl|rfl|rfl<;>(show _≠2*(0+j)+101;omega)
     ·simp only [HB.V2,ZP v];rfl
     ·simp only [Bl,B6,or_false] at R;rcases R with rfl|rfl|rfl|rfl<;>simp
    ·rfl
    ·simp only [Hp.low,Ae];exact⟨rfl,rfl,rfl,rfl,rfl,Um o,rfl,rfl,rfl,rfl,rfl,rfl,OD o⟩
    ·refine c7 ?_;simp only [A3,qW];exact jb (a:=[2*(0+j)+100,2*(0+j)+101,2,5000,0,1]) o (by simp;omega)<|by simp
    ·refine c7 ?_;simp only [A3];exact jb (a:=[3,4,2,6,0,1]) o (by simp)<|by simp
    ·rfl
    ·rfl
    have p:=Fi (r:=r) C;rw [W,nQ (w:=pW r ways[i]) v V] at p;have J:((g::b)[j].2.map aq).length<=2000:=by
     rw [Aa];have a0:aL (g::b) ((ways.take i).map<|pW r):=by rw [<- W];exact Cg _
     have hv:=a0.Yp _<|Ah v;rw [hv];unfold nq;rw [Aa];refine Aw (Cd _ _) ?_;rw [Aa,Ap];omega
    have Z:=g2;have c3:=g3;have n:a8 (3::4::2::6::0::1::(Kd j (g::b)).map (·.1))=true:=c7 (jb (a:=[3,4,2,6,0,1]) o (by simp)<|by simp);have K:a8 (5016::3::2::6::0::1::(Kd j (g::b)).map (·.1))=true:=c7 (jb (a:=[5016,3,2,6,0,1]) o (by simp)<|by simp);generalize hT:Kd j (g::b)=a5 at n K ⊢;refine lz 17 (by kernel_rfl) (by kernel_rfl) (by kernel_rfl) rfl rfl rfl ?_;refine dp rfl rfl trivial rfl rfl rfl n rfl ?_;refine dp rfl rfl trivial rfl rfl rfl n rfl ?_;refine dp rfl rfl ?_ rfl rfl rfl n rfl ?_
    ·exact⟨by omega,by omega⟩
    have M:((k6 0 (g::b).length++Aq (u-(g::b).length) SV.V1).set j<|.loc 3 0)[0+(j:Int).toNat*1]?=some (.loc 3 0):=by
     rw [C4,Dq,F9,B8];rw [Ag];unfold k6;rw [Aa,Dz];omega
    refine dp rfl (u6 rfl rfl rfl M) trivial rfl rfl rfl n rfl ?_;refine dp rfl rfl trivial rfl rfl rfl n rfl ?_;refine dp rfl rfl trivial rfl rfl rfl n rfl ?_;refine dp rfl rfl ⟨by omega,by omega⟩ rfl rfl rfl n rfl ?_;refine dp rfl (u6 rfl rfl rfl M) trivial rfl rfl rfl n rfl ?_;refine dp rfl rfl trivial rfl rfl rfl n rfl ?_;refine dp rfl rfl trivial rfl rfl rfl n rfl ?_;refine dp rfl rfl trivial rfl rfl rfl n rfl ?_;refine dp rfl rfl trivial rfl rfl rfl n rfl ?_;refine dp rfl rfl trivial rfl rfl rfl n rfl ?_;(apply dp;exact rfl;exact rfl;(omega);((with_reducible apply KD);(exact rfl);(omega));exact rfl;exact rfl;exact n;exact rfl)
    (apply dp;exact rfl;exact rfl;(with_reducible exact trivial);(with_reducible exact rfl);exact rfl;exact rfl;exact n;exact rfl)
    (apply dp;exact rfl;exact rfl;(with_reducible exact trivial);(with_reducible exact rfl);exact rfl;exact rfl;exact n;exact rfl)
    have a9:((g::b)[j].2).length<=2000:=by rw [Aa] at J;exact J
    (apply Wi;(iterate 3 exact rfl);(unfold maxLen;simp<;>omega);(iterate 3 exact rfl);exact n;exact rfl;exact rfl)
    refine Cy K ?_;refine zS ?_;have S:r.D0.length-1<(aW r ways[i]).length:=by unfold aW;rw [Aa];omega
    have T:(pW r ways[i]).2=(aW r ways[i])[r.D0.length-1]:=by
     show (aW r ways[i]).getD (r.D0.length-1) 0=_;rw [Dn,Ad S];rfl
    rw [T] at p;have N:(g::b).set j ((g::b)[j].1,(g::b)[j].2++[(aW r ways[i])[r.D0.length-1]])≠[]:=λh=>by
     have:=congrArg B0 h
     rw [A6,Dv] at this;omega
    refine⟨(i+1,u),⟨C,by rw [p,A6];exact Z,c3⟩,?_,by dsimp only;omega⟩
    dsimp only;have O:=MI (cap:=u) N;have P:=JI (r:=r) (cap:=u) N;unfold YU at O;unfold GU at P;rw [p,O,P,A6];subst hT;refine bk (Ze j) ?_ ?_ ?_ ?_ ?_ ?_ ?_ ?_
    ·exact⟨rfl,rfl,rfl,rfl,rfl,rfl,rfl,rfl,trivial⟩
    ·refine⟨rfl,rfl,?_,qu<|Uf v o⟩
     simp only [HB.V2,Og v];rfl
    ·rfl
    ·simp only [Hp.low,Ae];exact⟨rfl,rfl,rfl,rfl,rfl,Ng o,Li _ 0<|by rw [A6];omega⟩
    ·refine c7 ?_;have h:=Oz (j:=j) (gs:=(g::b).set j ((g::b)[j].1,(g::b)[j].2++[(aW r ways[i])[r.D0.length-1]])) (by rw [A6];exact o);simp only [Au,Ed] at h;exact h
    ·refine c7 ?_;exact (Qj (gs:=(g::b).set j ((g::b)[j].1,(g::b)[j].2++[(aW r ways[i])[r.D0.length-1]]))<|by rw [A6];exact o).1
    ·rfl
    ·rfl
 ·have b4:i=ways.length:=by omega
  subst b4;have a1:=a4 ways.length;have b5:rQ r ways ways.length=yf (ways.map<|pW r):=by unfold rQ;rw [Aj<|Af _]
  refine ag (yK (by omega) rfl) ?_;rw [b5] at a1 ⊢;have a0:=Cg<|ways.map<|pW r;generalize hG:yf (ways.map<|pW r)=b at a1 a0 ⊢;have lg:(b.map lE).length=b.length:=Aa _;have b6:bg (b.filterMap<|Wd r)=bg (jn r ways):=by
   have h1:=HO (r:=r) (ways:=ways) G.gA.T0 (λw hw=>LR G hw) (by omega);unfold MD at h1;rw [if_neg h0,hG] at h1;exact h1
  have b0:=Tb (b.filterMap<|Wd r) (Aw (List.length_filterMap_le _ _)<|by omega) (λx U=>by
   obtain⟨g,A,U⟩:=List.mem_filterMap.1 U;unfold Wd at U;split at U
   ·simp only [Option.some.injEq] at U;subst U;have:=(eT G a0 A).2.2.2
    rw [Ag,A0];omega
   ·cases U)
  rw [b6] at b0;repeat' ((fail_if_success (apply jm 21));(first|refine zs ?_|(refine zm ?_ ?_<;>intro A)|fail))
  all_goals try omega
  refine ag (ce (t:=5) 95 2 rfl) ?_;refine zS ?_;refine ae (ι:=Nat) (λj=>⟨4,[(2,.loc 0 0),(5,.row 3),(89,.s 1<|b.map lE),(90,.i b.length),(91,.i j)],
    [(0,.M1 87 [.i r.N0,.s 2 (r.D0.map a7),.i r.T0,.s 4 (r.body.map bf),.i r.vars]),(3,.row 95 2<|((b.take j).filterMap<|Wd r).map aa)]⟩)
   (λj=>j<=b.length) (λj=>b.length-j) 0 (Ai _) (er (λj=>match j with|3=>5000|j=>j) ⟨rfl,rfl,rfl,by rw [<- lg];rfl,rfl,trivial⟩) ?_
  intro j g4;dsimp only at g4 ⊢;by_cases I:j<b.length
  ·have b7:=Ah I;obtain⟨q1,q2,q3,q4⟩:=eT G a0 b7;have wf:=VO r.T0 b[j].2 q1 q2 q3;have wc:=TP b[j].1 (by omega);have p:=pn (Wd r) I;have lo:((b.take j).filterMap<|Wd r).length<=j:=qx _ _ _;have l1:(b[j].1.map aq).length=b[j].1.length:=Aa _;repeat' ((fail_if_success (apply fh 24));(first|refine zs ?_|(refine zm ?_ ?_<;>intro A)|fail))
   all_goals try omega
   refine ag (yT 15 rfl) ?_;repeat' (first|refine zs ?_|refine z22 ?_ wf|(refine zm ?_ ?_<;>intro A)|omega)
   ·have a3:Wd r b[j]=some ⟨r.N0,b[j].1++[Xg r.T0 b[j].2]⟩:=by unfold Wd;rw [if_pos<|by assumption]
    rw [a3] at p;refine Iy rfl rfl wc rfl rfl rfl rfl ⟨_,rfl⟩ ?_;rintro _ rfl;clear wf wc;refine zS ?_;refine⟨j+1,I,er (λj=>match j with|3=>17|j=>j) (hH:=⟨rfl,?_,trivial⟩),by omega⟩
    rw [p,Au,Option.toList_some];show _=some (HB.row _ _ (_++[[_,D.slice 1<|(b[j].1++[Xg r.T0 b[j].2]).map aq]]));rw [Au];rfl
   ·have a3:Wd r b[j]=none:=by unfold Wd;rw [if_neg<|by simp_all]
    rw [a3,Option.toList_none,Bn] at p;exact⟨j+1,I,er id (hH:=⟨rfl,by rw [p];rfl,trivial⟩),by omega⟩
  ·rw [Aj<|by omega];repeat' (first|refine zs ?_|(refine zm ?_ ?_<;>intro A)|omega)
   refine dm (ck 121 rfl rfl rfl) ?_;repeat' (first|refine zr ?_|refine z21 ?_ b0|fail)
   exact⟨.inl rfl,_,rfl,rfl,rfl⟩
def rS (b:List Int) (r:O3) (ways:List (List Int)) (c:O6 b r ways) (d:r.T0≠0):Fn 98 [th r,.s 1 (ways.map gk)] (λf=>f=.s 2 ((bg (jn r ways)).map aa)):=(lO b r ways c d).Z5
def P1:R3:=⟨[2,2],[⟨#[113]⟩,⟨#[112]⟩],[⟨1,[⟨0,0⟩,⟨1,0⟩],0,[⟨1,0,0,[⟨0,0⟩,⟨1,0⟩]⟩],2⟩,⟨1,[⟨0,0⟩,⟨2,0⟩],0,[⟨1,0,1,[⟨0,0⟩,⟨1,0⟩]⟩,⟨1,0,0,[⟨1,0⟩,⟨2,0⟩]⟩],3⟩]⟩
def gu:List U0:=[⟨0,[1,2]⟩,⟨0,[2,3]⟩]
def P4:List U0:=[⟨0,[1,2]⟩,⟨0,[2,3]⟩,⟨1,[1,2]⟩,⟨1,[1,3]⟩,⟨1,[2,3]⟩]
def nO:Fn 48 [] (λb=>b=gy P1):=by refine J2 func48 ?_;intro O c d f;refine zR ?_;exact⟨.inl rfl,_,rfl,rfl,rfl⟩
def L9 (p:Int) (l:List Int):Fn 47 [.i p,.s 1 (l.map aq)] (λr=>r=jt ⟨p,l⟩):=by refine J2 func47 ?_;intro O b c d;refine zR ?_;exact⟨.inl rfl,_,rfl,rfl,rfl⟩
def CS:Fn 49 [] (λr=>r=.s 2 (P4.map aa)):=by
 refine J2 func49 ?_;intro O h i j;have b:=L9 0 [1,2];have c:=L9 0 [2,3];have d:=L9 1 [1,2];have f:=L9 1 [1,3];have g:=L9 1 [2,3];repeat' (first|refine zr ?_|refine z21 ?_ b|refine z21 ?_ c|refine z21 ?_ d|refine z21 ?_ f|refine z21 ?_ g|fail)
 exact⟨.inl rfl,_,rfl,rfl,rfl⟩
def mW (n:Nat) (c:n<=4398046511104):X1 false prog U5 bt 291 [.Q1,.i n] 0 0 [] (λ_ r H=>r=.row 0/\H=[(0,.row 95 2 [])]):=by
 refine T8 func291 ?_;intro O d f g;by_cases b:n=0
 ·subst b;refine zS ?_;all_goals try omega
  refine iv (fc rfl rfl) rfl rfl ?_;refine zS ?_;all_goals try omega
  refine ag (ce (t:=4) 95 2 rfl) ?_;repeat' (apply cr)
  exact⟨.inl rfl,_,rfl,kp id 1 (.row 0) ([(0,.row 95 2 [])]) ⟨rfl,rfl⟩⟩
 ·refine zS ?_;all_goals try omega
  refine iv (fc rfl rfl) rfl rfl ?_;repeat' (first|refine zr ?_|(refine zm ?_ ?_<;>intro h)|omega)
  refine iv (fc rfl rfl) rfl rfl ?_;repeat' refine z0 ?_
  all_goals try omega
  refine Tr (n:=n) (es:=2) (te:=95) [.int .i64 0,.slice 1 []] rfl rfl (by omega) rfl rfl rfl rfl ⟨.inl rfl,.inr ⟨rfl,1,rfl⟩,trivial⟩ rfl rfl (by omega) (by omega) ?_ (by unfold maxLen;omega) rfl rfl ?_
  ·show n*32<=_;omega
  refine zS ?_;all_goals try omega
  refine ag (Qc (n:=0) 4 rfl rfl (Ai _) rfl) ?_;repeat' (apply cr)
  exact⟨.inl rfl,_,rfl,kp (λj=>match j with|0=>1|j=>j) 1 (.row 0) ([(0,.row 95 2 [])]) ⟨rfl,rfl⟩⟩
def mF {b:List (List U0)} {i:Nat} (hi:i<b.length):((b.take (i+1)).map B0).sum=((b.take i).map B0).sum+b[i].length:=by rw [Am hi,Au,Fp];rfl
def RQ (b:List (List U0)) (i:Nat):((b.take i).map B0).sum<=(b.map B0).sum:=by
 have h:(b.map B0).sum=((b.take i).map B0).sum+((b.drop i).map B0).sum:=by rw [<- Fp,<- Au,List.take_append_drop]
 omega
def QP (b:List (List U0)) (h:(b.map B0).sum<=4398046511104) (u:b.length<=4398046511104):Fn 285 [.s 1 (b.map λl=>[.slice 2 (l.map aa)])] (λr=>r=.s 2 (b.flatten.map aa)):=by
 refine J2 func285 ?_;intro O v y A;have g:(b.map λl=>[D.slice 2<|l.map aa]).length=b.length:=Aa _;refine zS ?_;refine ae (ι:=Nat) (λi=>⟨0,[(0,.s 1<|b.map λl=>[.slice 2<|l.map aa]),(3,.i (((b.take i).map B0).sum:Nat)),(9,.s 1<|b.map λl=>[.slice 2<|l.map aa]),(10,.i b.length),(11,.i i)],[]⟩)
  (λi=>i<=b.length) (λi=>b.length-i) 0 (Ai _) (er id ⟨rfl,rfl,rfl,by rw [<- g];rfl,rfl,trivial⟩) ?_
 intro i j;by_cases c:i<b.length
 ·have m:=mF c;have o:=RQ b<|i+1;have n:(b[i].map aa).length=b[i].length:=Aa _;repeat' (first|refine zs ?_|(refine zm ?_ ?_<;>intro f)|omega)
  exact⟨i+1,by omega,er id ⟨rfl,congrArg (λz=>SV.d<|.int .i64 z) (by rw [m,n];omega),rfl,rfl,rfl,trivial⟩,by omega⟩
 ·rw [Aj<|by omega];repeat' (first|refine zs ?_|(refine zm ?_ ?_<;>intro f)|omega)
  refine aw id (mW (b.map B0).sum h) rfl rfl rfl rfl trivial rfl rfl rfl rfl rfl rfl ?_ ?_
  ·rintro k2 r H2 ⟨rfl,rfl⟩;exact⟨rfl,rfl⟩
  rintro k2 r H2 ⟨rfl,rfl⟩;change DS _ _ _ _ _ _ _ _;refine zS ?_;refine ae (ι:=Nat) (λi=>⟨1,[(6,.row 0),(25,.s 1<|b.map λl=>[.slice 2<|l.map aa]),(26,.i b.length),(27,.i i)],[(0,.row 95 2<|(b.take i).flatten.map aa)]⟩)
   (λi=>i<=b.length) (λi=>b.length-i) 0 (Ai _) (er id ⟨rfl,rfl,by rw [<- g];rfl,rfl,trivial⟩) ?_
  clear c j;intro i j;by_cases c:i<b.length
  ·have m:=mF c;have o:=RQ b<|i+1;have n:(b[i].map aa).length=b[i].length:=Aa _;have C:((b.take i).flatten.map aa).length=((b.take i).map B0).sum:=by rw [Aa,List.length_flatten]
   have p:(b.take<|i+1).flatten=(b.take i).flatten++b[i]:=by rw [Am c,List.flatten_append];simp
   repeat' (first|refine zr ?_|(refine zm ?_ ?_<;>intro f)|omega)
   exact⟨i+1,by omega,er (λ_=>1) (hH:=⟨by rw [p,Au];rfl,trivial⟩),by omega⟩
  ·rw [Aj<|by omega];repeat' (first|refine zs ?_|(refine zm ?_ ?_<;>intro f)|omega)
   refine ag (ck 2 rfl rfl rfl) ?_;repeat' (apply cr)
   exact⟨.inl rfl,_,rfl,rfl,rfl⟩
def yI (l m:List U0) (b:l.length+m.length<=4398046511104):Fn 169 [.s 2 (l.map aa),.s 2 (m.map aa)] (λr=>r=.s 2 ((bg (l++m)).map aa)):=by
 refine J2 func169 ?_;intro O c d f;have g:(l.map aa).length=l.length:=Aa _;have h:(m.map aa).length=m.length:=Aa _;have i:([]++l.map aa).length=l.length:=by simp
 have w:=u9 (l++m) (by rw [Ag];exact b);rw [Au] at w;repeat' (first|(apply Ua;(iterate 8 exact rfl))|(first|refine zs ?_|fail))
 refine dm (ck 9 rfl rfl rfl) ?_;repeat' (first|refine zr ?_|refine z21 ?_ w|fail)
 exact⟨.inl rfl,_,rfl,rfl,rfl⟩
def fk (l m:List U0):List U0:=l.filter λx=>!Z4 m x
def EJ (l m:List U0) (u:l.length<=4398046511104):Fn 168 [.s 2 (l.map aa),.s 2 (m.map aa)] (λr=>r=.s 2 ((bg (fk l m)).map aa)):=by
 refine J2 func168 ?_;intro O v y z;have A:(l.map aa).length=l.length:=Aa _;have C:=Cd (λx=>!Z4 m x) l;have w:=u9 (fk l m) (by unfold fk;omega);refine zS ?_;refine ag (ce (t:=5) 95 2 rfl) ?_;refine ae (ι:=Nat×List U0) (λx=>⟨1,[(0,.s 2<|l.map aa),(1,.s 2<|m.map aa),(5,.row 0),(6,.i x.1)],[(0,.row 95 2<|x.2.map aa)]⟩)
  (λx=>x.1<=l.length/\x.2=(l.take x.1).filter λx=>!Z4 m x) (λx=>l.length-x.1) (0,[]) ⟨Ai _,rfl⟩ (er id) ?_
 rintro⟨i,o⟩ ⟨j,b⟩;dsimp only at j b ⊢;have lo:(o.map aa).length=o.length:=Aa _;have E:o.length<=i:=by
  have:=Cd (λx=>!Z4 m x)<|l.take i
  rw [<- b] at this;simp at this;omega
 by_cases n:i<l.length
 ·have c:=Yf m l[i];have d:(l.take<|i+1).filter (λx=>!Z4 m x)=o++[l[i]].filter (λx=>!Z4 m x):=by rw [Am n,Cf,<- b]
  cases f:Z4 m l[i] with
  | true =>
   rw [f] at c;have g:[l[i]].filter (λx=>!Z4 m x)=[]:=by simp [f]
   rw [g,Bn] at d;repeat' (first|refine zs ?_|refine z21 ?_ c|(refine zm ?_ ?_<;>intro h)|omega)
   exact⟨(i+1,o),⟨by dsimp only;omega,d.symm⟩,er id,by show l.length-(i+1)<l.length-i;omega⟩
  | false =>
   rw [f] at c;have g:[l[i]].filter (λx=>!Z4 m x)=[l[i]]:=by simp [f]
   rw [g] at d;repeat' (first|refine zs ?_|refine z21 ?_ c|(refine zm ?_ ?_<;>intro h)|omega)
   refine⟨(i+1,o++[l[i]]),⟨by dsimp only;omega,d.symm⟩,?_,by show l.length-(i+1)<l.length-i;omega⟩
   dsimp only;rw [Au];exact er<|λ_=>1
 ·have p:o=fk l m:=by unfold fk;rw [b,Aj<|by omega]
  repeat' (first|refine zs ?_|(refine zm ?_ ?_<;>intro h)|omega)
  refine dm (ck 27 rfl rfl rfl) ?_;rw [p];repeat' (first|refine zr ?_|refine z21 ?_ w|fail)
  exact⟨.inl rfl,_,rfl,rfl,rfl⟩


def jl {Γ:Ctx} {k:Nat} {L:Sl} {H:Hp} (t i:Nat) {ty:TypeId} {ds:List D} (v:L.get t=.loc i 0) (hH:Hp.get H i=some (.M1 ty (ds.map .d))):X7 Γ k L H k ((t,.pd ds)::L) (Hp.del H i):=by
 intro e a w m;obtain⟨f,y⟩:=m.del i;have g:=Hp.mem_of hH;refine⟨e,f.toHeap,f.defers,f.len,λz=>?_⟩
 rw [Sl.C1];split
 ·rename_i A;subst A;have n:=m.slot t;rw [v] at n;obtain⟨_,C⟩:=n;obtain⟨M,o,E,_⟩:=(m.heap _ g).2;have r:HB.owned e (i,.M1 ty<|ds.map .d)=some (e.β i):=rfl;refine⟨e.β i,0,C,cz o,λc=>?_,λj F=>?_⟩
  ·rcases c with c|c
   ·exact (m.M3 _<|List.mem_filterMap.2 ⟨_,g,r⟩).2 c
   ·obtain⟨p,G,I⟩:=List.mem_filterMap.1 c;have s:=Hp.N6 (i:=i) H m.ids p G;exact m.O5 s.1 g s.2 I r
  ·obtain⟨u,J,K⟩:=O0.get _ _ E j (.d ds[j]) (by rw [Bh,Ad F];rfl);refine⟨u,?_,Q0.N1 (Af _) (λ_ _ _=>rfl) (λb _ h=>y b h) K⟩
   rw [cell_of_row w _ _ _ ty (0,0) o,C4];simpa using J
 ·exact f.slot z
def YM (l m:List U0) (b:l.length+m.length<=4398046511104) (c:∀ x∈l,x.args.length<=17592186044416) (hb:∀ x∈m,x.args.length<=17592186044416) :
  Fn 272 [.s 2 (l.map aa),.s 2 (m.map aa)] (λr=>r=.d (.own Y0.B (.slice 2 ((bg (l++m)).map aa)))):=by
 refine J2 func272 ?_;intro O j n o;have f:Fn 285 [.s 1 [[.slice 2<|l.map aa],[.slice 2<|m.map aa]]] (λr=>r=.s 2 ((l++m).map aa)):=by
  have h:=QP [l,m] (by simpa using b) (by simp);rw [show [l,m].flatten=l++m by simp] at h;exact h
 have g:=Tb (l++m) (by rw [Ag];exact b)<|λx i=>(List.mem_append.1 i).elim (c x)<|hb x;repeat' (first|refine zr ?_|refine z21 ?_ f|refine z21 ?_ g|fail)
 exact⟨.inl rfl,_,rfl,rfl,rfl⟩
def bT (m:List U0) (x:U0):Z4 (bg m) x=Z4 m x:=by rw [Bool.eq_iff_iff,M4,M4,(bu m).2]
def DJ (l m:List U0):(l.filter λx=>!Z4 (bg m) x)=fk l m:=by unfold fk;exact List.filter_congr λx _=>by rw [bT]
def U0.T3 (x:U0):U0.same x x=true:=by unfold U0.same;simp [ol]
def fV {l m:List U0} (h:∀ x,x∈l↔x∈m):bg l=bg m:=
 l5 (bu l).1 (bu m).1 λx=>by rw [(bu l).2,(bu m).2,h]
def set_set (l:List U0):bg (bg l)=bg l:=fV λx=>(bu l).2 x
section
variable {Γ : Ctx} {k : Nat} {L : Sl} {H : Hp} {t ty : TypeId} {x : Operand}
end

def rk:O3:=⟨1,[⟨0,0⟩,⟨2,0⟩],0,[⟨1,0,1,[⟨0,0⟩,⟨1,0⟩]⟩,⟨1,0,0,[⟨1,0⟩,⟨2,0⟩]⟩],3⟩
def WV (b:List Int) (r:O3) (ways:List (List Int)) (c:O6 b r ways):Fn 98 [th r,.s 1 (ways.map gk)] (λf=>f=.s 2 ((bg (jn r ways)).map aa)):=by
 by_cases d:r.T0=0
 ·exact uS b r ways c d
 ·exact rS b r ways c d
def Xt (a:List U0):e8 U0.same a a=true:=eo (λx=>by unfold U0.same;simp [ol]) a
abbrev elW (w:List Int):SV:=.s 1 (w.map aq)
def OU (r:O3) (f:U0) (w:List Int) (d:∀ t∈r.D0,W5 w.length t) (j:r.D0.length<=3) (m:f.args.length=r.D0.length):Fn 287 ([elW w]++[.pd [.int .i64 r.N0,.slice 2 (r.D0.map a7),.int .i64 r.T0,.slice 4 (r.body.map bf),.int .i64 r.vars],.pd [.int .i64 (kW r)],.pd (aa f)]) (λg=>g=.b (QJ r f w)):=by
 refine J2 func287 ?_;intro O n o p;have s:=wZ r;have u:(r.D0.map a7).length=r.D0.length:=Aa _;have v:(f.args.map aq).length=f.args.length:=Aa _;have c:=CE (r.D0.take<|kW r) w (λt h=>d t<|List.mem_of_mem_take h) (by rw [Ap];omega);have i:=Om ((aW r w).take<|kW r)<|f.args.take<|kW r;rw [show (r.D0.take<|kW r).map (vA w)=(aW r w).take (kW r) by unfold aW;rw [List.map_take]] at c;repeat' (first|refine zr ?_|refine z22 ?_ c|refine z22 ?_ i|omega)
 exact bi rfl rfl
def zO {f:FuncId} {caps:List SV} (p:List Int->Bool) (l:List (List Int)) (g:SV.U1 0 caps=true) (n:∀ x∈l,Fn f (elW x::caps) (λr=>r=.b (p x))):Fn 286 [.s 1 (l.map gk),.fn f caps] (λr=>r=.i (mv p l)):=by
 refine J2 func286 ?_;intro O u v y;refine cm (t:=0) rfl λc=>?_
 refine zS ?_;refine ae (ι:=Nat) (λi=>⟨0,[(0,.s 1<|l.map gk),(1,.fn f caps),(7,.i l.length),(8,.i i)],[]⟩)
  (λi=>i<=l.length/\∀ j (m:j<l.length),j<i->p l[j]=false) (λi=>l.length-i) 0 ⟨Ai _,λj _ h=>absurd h<|Nat.not_lt_zero j⟩
  (bk id ⟨rfl,congrArg (SV.fn f) (SV.O4 caps).symm,by simp;rfl,rfl,trivial⟩ trivial (by simp [Sl.low,SV.low,g]) rfl rfl rfl rfl rfl) ?_
 rintro i ⟨h1,h2⟩;refine zS ?_;refine a6 rfl (λh=>?_)<|λh=>?_
 ·have d:i<l.length:=by omega
  have o:=n l[i]<|Ah d;repeat' (first|refine zs ?_|(apply mi;(iterate 4 exact rfl);apply o;exact rfl;(assumption);exact rfl;rintro _ rfl))
  refine ee rfl (λc=>?_)<|λc=>?_
  ·refine zR ?_;exact bh rfl (kr h2 d c).symm
  ·refine zS ?_;exact⟨i+1,⟨d,ja h2 d c⟩,bk id ⟨rfl,congrArg (SV.fn f) (SV.O4 caps).symm,rfl,rfl,trivial⟩ trivial (by simp [Sl.low,SV.low,g]) rfl rfl rfl rfl rfl,by omega⟩
 ·refine zR ?_;exact bh rfl (j7 λj m=>h2 j m<|by omega).symm
def DX (r:O3) (f:U0) (ways:List (List Int)) (b:∀ w∈ways,∀ t∈r.D0,W5 w.length t) (o:r.D0.length<=3) (p:f.args.length=r.D0.length) (u:r.T0≠0->0<r.D0.length) (j:∃ w∈ways,QJ r f w=true) (v:∀ w∈ways,w.length<=1000) :
  Fn 273 [th r,jt f,.s 1 (ways.map gk)] (λy=>y=.s 1 ((zo r f ways).map aq)):=by
 refine J2 func273 ?_;intro O E F G;have m:(r.D0.map a7).length=r.D0.length:=Aa _;have I:(ways.map gk).length=ways.length:=Aa _;obtain⟨z,J⟩:=NA j;have n:ways.findIdx (QJ r f)<ways.length:=by
  obtain⟨w,b,h⟩:=j;exact List.findIdx_lt_length_of_exists ⟨w,b,h⟩
 have A:mv (QJ r f) ways=(ways.findIdx (QJ r f):Int):=by
  unfold mv;rw [List.findIdx?_eq_some_iff_findIdx_eq.2 ⟨n,rfl⟩]
 have c:ways[ways.findIdx<|QJ r f]=zo r f ways:=by unfold zo;rw [Dn,Ad n];rfl
 have d:=zO (QJ r f) ways rfl<|λw C=>OU r f w (b w C) o p;rw [A] at d;have g:=UP (zo r f ways) (by have:=v _ z;omega);rw [<- c] at g;repeat' ((fail_if_success (apply fh 4));(first|refine zs ?_|(refine zm ?_ ?_<;>intro K)|fail))
 ·have i:((kW r:Nat):Int)=((r.D0.map a7).length:Int)-1:=by
   unfold kW;rw [if_neg (by assumption),m];have:=u<|by assumption
   omega
  refine ag (jl (ds:=[.int .i64 r.N0,.slice 2 (r.D0.map a7),.int .i64 r.T0,.slice 4 (r.body.map bf),.int .i64 r.vars]) 3 0 rfl rfl) ?_;refine ag (jl (ds:=[.int .i64<|kW r]) 7 2 rfl<|by rw [i];rfl) ?_;refine ag (jl (ds:=aa f) 4 1 rfl rfl) ?_;repeat' (first|refine zr ?_|refine z21 ?_ d|refine z21 ?_ g|omega)
  rw [<- c];exact⟨.inl rfl,_,rfl,rfl,rfl⟩
 ·have i:((kW r:Nat):Int)=((r.D0.map a7).length:Int):=by
   unfold kW;rw [if_pos (by simp_all),m]
  refine ag (jl (ds:=[.int .i64 r.N0,.slice 2 (r.D0.map a7),.int .i64 r.T0,.slice 4 (r.body.map bf),.int .i64 r.vars]) 3 0 rfl rfl) ?_;refine ag (jl (ds:=[.int .i64<|kW r]) 7 2 rfl<|by rw [i];rfl) ?_;refine ag (jl (ds:=aa f) 4 1 rfl rfl) ?_;repeat' (first|refine zr ?_|refine z21 ?_ d|refine z21 ?_ g|omega)
  rw [<- c];exact⟨.inl rfl,_,rfl,rfl,rfl⟩
def kE (s:Ym):List D:=[.int .i64 s.fact.N0,.slice 1 (s.fact.args.map aq),.int .i64 s.fA,.slice 1<|s.vars.map aq]
abbrev Xm (p:R3) (S:List U0) (b:List Ym):Hp:=
 [(0,.M1 286 [.s 1 (p.F0.map aq),.s 1 (p.Z0.map qn),.s 5 (p.M0.map dq),.d (.own Y0.B (.slice 2 (S.map aa))),.row 1]),(1,.row 309 4 (b.map kE))]
def gS (p:R3) (n:Nat) (hn:n<p.M0.length) (ways:List (List Int)) (K4 S:List U0) (g:List Ym) (C:HE p.F0 p.M0[n]) (E:p.M0[n].D0.length<=3)
  (z:∀ w∈ways,(∀ t∈p.M0[n].D0,W5 w.length t)/\w.length<=1000) (F:∀ f∈K4,f.args.length=p.M0[n].D0.length/\∃ w∈ways,QJ p.M0[n] f w=true)
  (G:N2 S) (I:S.length<=60) (a1:K4.length<=2000) (J:g.length<=100000) (K:∀ x∈S,x.args.length<=3) :
  X1 false prog U5 bt 267 [.loc 0 0,.i n,.s 2 (K4.map aa),.s 1 (ways.map gk)] 1 2 (Xm p S g)
   (λM r N=>M=2/\r=.b (od p.M0[n] n ways K4 S g).1/\N=Xm p (od p.M0[n] n ways K4 S g).2.1 (od p.M0[n] n ways K4 S g).2.2):=by
 refine T8 func267 ?_;intro a2 w0 E0 K1;have lr:(p.M0.map dq).length=p.M0.length:=Aa _;have O:(K4.map aa).length=K4.length:=Aa _;refine zS ?_;all_goals try omega
 refine ae (ι:=Nat×List U0×List Ym) (λc=>⟨3,[(0,.loc 0 0),(1,.i n),(3,.s 1<|ways.map gk),(8,.b false),(9,.loc 2 0),(20,.s 2<|K4.map aa),(21,.i K4.length),(22,.i c.1)],
   (2,.M1 87 [.i p.M0[n].N0,.s 2 (p.M0[n].D0.map a7),.i p.M0[n].T0,.s 4 (p.M0[n].body.map bf),.i p.M0[n].vars])::Xm p c.2.1 c.2.2⟩)
  (λc=>c.1<=K4.length/\od p.M0[n] n ways K4 S g=od p.M0[n] n ways (K4.drop c.1) c.2.1 c.2.2/\N2 c.2.1/\c.2.1.length<=60/\c.2.2.length<=100000+c.1/\∀ x∈c.2.1,x.args.length<=3) (λc=>K4.length-c.1) (0,S,g) ⟨Ai _,rfl,G,I,J,K⟩
  (er id ⟨rfl,rfl,rfl,rfl,rfl,rfl,by rw [<- O];rfl,rfl,trivial⟩) ?_
 rintro⟨i,m,o⟩ ⟨P,d,y,A,R,u⟩;dsimp only at P d y A R u ⊢;by_cases v:i<K4.length
 ·have T:=Ah v;obtain⟨U,V⟩:=F _ T;have W:=(VS m K4[i] (by omega) y).pZ rfl;have Y:=(YM m [K4[i]] (by rw [A0];omega) (λx h=>by have:=u x h;omega)<|λx h=>by rw [A1] at h;subst h;omega).pZ rfl;have Z:=DX p.M0[n] K4[i] ways (λw g=>(z w g).1) E U (λhf=>(C.Km hf).1) V<|λw g=>(z w g).2;have lS:(m.map aa).length=m.length:=Aa _;have a3:(o.map kE).length=o.length:=Aa _;rw [List.drop_eq_getElem_cons v,od] at d;repeat' (first|refine zr ?_|refine z22 ?_ W|refine z22 ?_ Y|refine z22 ?_ Z|(refine zm ?_ ?_<;>intro hg)|omega)
  ·rw [if_pos<|by assumption] at d;exact⟨(i+1,m,o),⟨v,d,y,A,by dsimp only;omega,u⟩,er id,by dsimp only;omega⟩
  ·rw [if_neg (by simp_all),if_pos<|by omega] at d;exact⟨.inl rfl,_,rfl,kp id 2 _ (Xm p m o) ⟨rfl,by rw [d],by rw [d]⟩⟩
  ·rw [if_neg (by simp_all),if_neg<|by omega] at d;obtain⟨s1,s2⟩:=bu<|m++[K4[i]];have a0:=l6<|m++[K4[i]];rw [Ag,A0] at a0;refine⟨(i+1,bg (m++[K4[i]]),o++[⟨K4[i],n,zo p.M0[n] K4[i] ways⟩]),⟨v,d,s1,by dsimp only;omega,by dsimp only;rw [Ag,A0];omega,λx h=>?_⟩,
    er (λj=>match j with|1=>17|j=>j) (hH:=⟨rfl,rfl,by dsimp only;rw [Au];rfl,trivial⟩),by dsimp only;omega⟩
   rcases List.mem_append.1 ((s2 x).1 h) with h|h
   ·exact u x h
   ·rw [A1] at h;subst h;omega
 ·rw [Ar<|by omega] at d;repeat' (first|refine zr ?_|(refine zm ?_ ?_<;>intro hg)|omega)
  exact⟨.inl rfl,_,rfl,kp id 2 _ (Xm p m o) ⟨rfl,by rw [d,od],by rw [d,od]⟩⟩
end
section
open Go Go.RowKit
variable [Y0]
attribute [local irreducible] DW sI DS DL IA DQ Ev X1 I3 du bl DT
def ni (B:Nat) (l:List U0):DU false prog 26 B [.rg B 2 (.slice 2 (l.map aa))]:=by
 refine Mx (τ:=U5) (τok:=bt) _ func26 rfl rfl rfl (by kernel_rfl) rfl ?_;intro O n o p r c;refine GH 0 rfl λd=>?_
 have s:l.length<=9223372036854775807:=by simpa using d.1
 repeat' (first|refine ly ?_|refine mz ?_|refine d7 rfl ?_|refine fx ?_ trivial|refine kn ?_|refine ix ?_)
 refine Sa (ι:=Nat) (λi=>⟨0,[(0,.rg B 2<|.slice 2<|l.map aa),(2,.i (i:Int))],[]⟩) (λi=>i<=l.length) (λi=>l.length-i) 0 (Ai _) (er id) ?_;intro i u;dsimp only;repeat' (first|refine ly ?_|refine d7 rfl ?_|refine Xi ?_|refine fx ?_ trivial|refine kn ?_|refine ix ?_)
 refine v6 rfl (λf=>?_)<|λf=>?_;rotate_left
 ·repeat' (first|refine Ta ?_|refine xd ?_|refine PB rfl ?_)
  exact⟨by simp,rfl⟩
 have b:i<l.length:=by simpa using f
 have v:(l[i]).args.length<=9223372036854775807:=by
  have m:aa l[i]∈l.map aa:=List.mem_map.2 ⟨_,Ah b,rfl⟩;have:=d.2 _ m (.slice 1<|(l[i]).args.map aq) (by simp [aa]) 1 _ rfl
  simpa using this
 repeat' (first|refine ly ?_|refine mz ?_|refine d7 rfl ?_|refine Ra ?_|refine fx ?_ trivial|refine kn ?_|refine ix ?_)
 refine Sa (ι:=Nat) (λj=>⟨0,[(0,.rg B 2<|.slice 2<|l.map aa),(2,.i (i:Int)),(3,.i (j:Int))],[]⟩) (λj=>j<=(l[i]).args.length) (λj=>(l[i]).args.length-j) 0 (Ai _) (er id) ?_;intro j y;dsimp only;repeat' (first|refine ly ?_|refine d7 rfl ?_|refine Xi ?_|refine je (h1:=b) ?_|refine m6 ?_|refine tn ?_|refine fx ?_ trivial|refine kn ?_|refine ix ?_)
 refine v6 rfl (λg=>?_)<|λg=>?_
 ·have h:j<(l[i]).args.length:=by simpa using g
  repeat' (first|refine ly ?_|refine mz ?_|refine d7 rfl ?_|refine Ra ?_|refine je (h1:=b) ?_|refine je (h1:=h) ?_|refine m6 ?_|refine tn ?_|refine wq c ?_|refine fx ?_ trivial|(refine fx ?_ ?hp;case hp=>omega)|refine kn ?_|refine ix ?_|refine Uw ?_)
  exact⟨j+1,h,(er id),by omega⟩
 repeat' (first|refine Ta ?_|refine xd ?_|refine PB rfl ?_|refine ix ?_|refine Uw ?_|refine d7 rfl ?_|refine je (h1:=b) ?_|refine m6 ?_|refine wq c ?_|refine fx ?_ trivial|(refine fx ?_ ?hp;case hp=>omega)|refine kn ?_)
 exact⟨i+1,b,(er id),by omega⟩
def Cq (B:Nat) (l:List X0):DU false prog 25 B [.rg B 2 (.slice 5 (l.map ak))]:=by
 refine Mx (τ:=U5) (τok:=bt) _ func25 rfl rfl rfl (by kernel_rfl) rfl ?_;intro O p r s n f;refine GH 0 rfl λg=>?_
 have u:l.length<=9223372036854775807:=by simpa using g.1
 repeat' (first|refine ly ?_|refine mz ?_|refine d7 rfl ?_|refine fx ?_ trivial|refine kn ?_|refine ix ?_)
 refine Sa (ι:=Nat) (λi=>⟨0,[(0,.rg B 2<|.slice 5<|l.map ak),(2,.i (i:Int))],[]⟩) (λi=>i<=l.length) (λi=>l.length-i) 0 (Ai _) (er id) ?_;intro i v;dsimp only;repeat' (first|refine ly ?_|refine d7 rfl ?_|refine Xi ?_|refine fx ?_ trivial|refine kn ?_|refine ix ?_)
 refine v6 rfl (λh=>?_)<|λh=>?_;rotate_left
 ·repeat' (first|refine Ta ?_|refine xd ?_|refine PB rfl ?_)
  exact⟨by simp,rfl⟩
 have b:i<l.length:=by simpa using h
 have m:ak l[i]∈l.map ak:=List.mem_map.2 ⟨_,Ah b,rfl⟩;have y:(l[i]).P0.length<=9223372036854775807:=by
  have:=g.2 _ m (.slice 2<|(l[i]).P0.map ay) (by simp [ak]) 2 _ rfl
  simpa using this
 have z:(l[i]).V0.length<=9223372036854775807:=by
  have:=g.2 _ m (.slice 2<|(l[i]).V0.map ay) (by simp [ak]) 2 _ rfl
  simpa using this
 repeat' (first|refine ly ?_|refine mz ?_|refine d7 rfl ?_|refine Ra ?_|refine je (h1:=b) ?_|refine m6 ?_|refine tn ?_|refine fx ?_ trivial|refine ix ?_)
 refine DK f (ni B (l[i]).F1) n ?_;repeat' (first|refine ly ?_|refine mz ?_|refine d7 rfl ?_|refine fx ?_ trivial|refine kn ?_|refine ix ?_)
 refine Sa (ι:=Nat) (λj=>⟨0,[(0,.rg B 2<|.slice 5<|l.map ak),(2,.i (i:Int)),(3,.i (j:Int))],[]⟩) (λj=>j<=(l[i]).P0.length) (λj=>(l[i]).P0.length-j) 0 (Ai _) (er id) ?_;intro j o;dsimp only;repeat' (first|refine ly ?_|refine d7 rfl ?_|refine Xi ?_|refine je (h1:=b) ?_|refine m6 ?_|refine tn ?_|refine fx ?_ trivial|refine kn ?_|refine ix ?_)
 refine v6 rfl (λc=>?_)<|λc=>?_
 ·have d:j<(l[i]).P0.length:=by simpa using c
  repeat' (first|refine ly ?_|refine mz ?_|refine d7 rfl ?_|refine Ra ?_|refine je (h1:=b) ?_|refine m6 ?_|refine tn ?_|refine je (h1:=d) ?_|refine wq f ?_|refine fx ?_ trivial|(refine fx ?_ ?hp;case hp=>omega)|refine kn ?_|refine ix ?_|refine Uw ?_)
  exact⟨j+1,d,(er id),by omega⟩
 repeat' (first|refine Ta ?_|refine xd ?_|refine PB rfl ?_|refine ly ?_|refine mz ?_|refine d7 rfl ?_|refine fx ?_ trivial|refine kn ?_|refine ix ?_)
 refine Sa (ι:=Nat) (λj=>⟨0,[(0,.rg B 2<|.slice 5<|l.map ak),(2,.i (i:Int)),(4,.i (j:Int))],[]⟩) (λj=>j<=(l[i]).V0.length) (λj=>(l[i]).V0.length-j) 0 (Ai _) (er id) ?_;intro j o;dsimp only;repeat' (first|refine ly ?_|refine d7 rfl ?_|refine Xi ?_|refine je (h1:=b) ?_|refine m6 ?_|refine tn ?_|refine fx ?_ trivial|refine kn ?_|refine ix ?_)
 refine v6 rfl (λc=>?_)<|λc=>?_
 ·have d:j<(l[i]).V0.length:=by simpa using c
  repeat' (first|refine ly ?_|refine mz ?_|refine d7 rfl ?_|refine Ra ?_|refine je (h1:=b) ?_|refine m6 ?_|refine tn ?_|refine je (h1:=d) ?_|refine wq f ?_|refine fx ?_ trivial|(refine fx ?_ ?hp;case hp=>omega)|refine kn ?_|refine ix ?_|refine Uw ?_)
  exact⟨j+1,d,(er id),by omega⟩
 repeat' (first|refine Ta ?_|refine xd ?_|refine PB rfl ?_|refine d7 rfl ?_|refine je (h1:=b) ?_|refine m6 ?_|refine wq f ?_|refine fx ?_ trivial|(refine fx ?_ ?hp;case hp=>omega)|refine kn ?_|refine ix ?_|refine Uw ?_)
 exact⟨i+1,b,(er id),by omega⟩
def Ty (l:List U0) (o:l.length<=4398046511104) (d:∀ x∈l,x.args.length<=17592186044416):Fn 51 [.s 2 (l.map aa)] (λr=>r=.s 2 (l.map aa)):=by
 refine J2 func51 ?_;intro O p u v;have b:(l.map aa).length=l.length:=Aa _;refine po (t:=0) rfl λf=>?_
 rw [b] at f;refine zS ?_;refine ag (ce (t:=3) 95 2 rfl) ?_;refine ae (ι:=Nat) (λi=>⟨1,[(0,.s 2<|l.map aa),(3,.row 0),(4,.i (i:Int))],[(0,.row 95 2<|(l.take i).map aa)]⟩)
  (λi=>i<=l.length) (λi=>l.length-i) 0 (Ai _) (er id) ?_
 intro i y;dsimp only;refine zS ?_;refine a6 rfl (λg=>?_)<|λh=>?_;rotate_left
 ·have m:i=l.length:=by
   rw [b] at h;omega
  subst m;rw [Ia];refine zS ?_;refine ag (ck 2 rfl rfl rfl) ?_;repeat' (apply cr)
  exact⟨.inl rfl,_,rfl,rfl,rfl⟩
 have c:i<l.length:=by rw [b] at g;omega
 have z:=d _<|Ah c;have A:((l[i]).args.map aq).length=(l[i]).args.length:=Aa _;have C:((l.take i).map aa).length=i:=by rw [Aa,Ap];omega
 repeat' (first|(apply Jy;(iterate 10 exact rfl))|(first|refine zs ?_|fail))
 have n:(l.take<|i+1).map aa=(l.take i).map aa++[[.int .i64 (l[i]).N0,.slice 1<|[]++(l[i]).args.map aq]]:=by
  rw [Am c,Au];rfl
 exact⟨i+1,c,(er (λj=>match j with|0=>16|j=>j) (hH:=⟨by rw [n];rfl,trivial⟩)),by omega⟩
def Tm (l:List X0) (C:l.length<=1599289640400) (g:∀ x∈l,x.F1.length<=4398046511104) (h:∀ x∈l,∀ f∈x.F1,f.args.length<=17592186044416) (m:∀ x∈l,x.P0.length<=8796093022208) (n:∀ x∈l,x.V0.length<=8796093022208):Fn 11 [.s 5 (l.map ak)] (λr=>r=.s 5 (l.map ak)):=by
 refine J2 func11 ?_;intro O E F G;have c:(l.map ak).length=l.length:=Aa _;refine po (t:=0) rfl λo=>?_
 rw [c] at o;refine zS ?_;refine ag (ce (t:=3) 35 5 rfl) ?_;refine ae (ι:=Nat) (λi=>⟨1,[(0,.s 5<|l.map ak),(3,.row 0),(4,.i (i:Int))],[(0,.row 35 5<|(l.take i).map ak)]⟩)
  (λi=>i<=l.length) (λi=>l.length-i) 0 (Ai _) (er id) ?_
 intro i I;dsimp only;refine zS ?_;refine a6 rfl (λp=>?_)<|λv=>?_;rotate_left
 ·have y:i=l.length:=by
   rw [c] at v;omega
  subst y;rw [Ia];refine zS ?_;refine ag (ck 2 rfl rfl rfl) ?_;repeat' (apply cr)
  exact⟨.inl rfl,_,rfl,rfl,rfl⟩
 have d:i<l.length:=by rw [c] at p;omega
 have b:=Ah d;have z:=Ty (l[i]).F1 (g _ b)<|h _ b;have J:=m _ b;have K:=n _ b;have M:((l[i]).P0.map ay).length=(l[i]).P0.length:=Aa _;have N:((l[i]).V0.map ay).length=(l[i]).V0.length:=Aa _;have P:((l.take i).map ak).length=i:=by rw [Aa,Ap];omega
 repeat' (first|(refine Rc (u:=.TH _ _) rfl rfl trivial trivial rfl rfl rfl rfl rfl ?_)|(apply Jy;(iterate 10 exact rfl))|(first|refine zs ?_|refine z22 ?_ z|fail))
 have A:(l.take<|i+1).map ak=(l.take i).map ak++[[.int .i64 (l[i]).id.J1,.int .i64 (l[i]).id.L1,.slice 2 ([]++(l[i]).P0.map ay),.slice 2 ((l[i]).F1.map aa),.slice 2<|[]++(l[i]).V0.map ay]]:=by
  rw [Am d,Au];rfl
 exact⟨i+1,d,(er (λj=>match j with|0=>29|j=>j) (hH:=⟨by rw [A];rfl,trivial⟩)),by omega⟩
end
section
open Go Go.RowKit
variable [Y0]
mutual
def SV.tG (B:Nat):SV->SV
 | .d (.slice es xs)=>.rg B 0 (.slice es xs)
 | .d (.ptr c)=>.rg B 0 (.ptr c)
 | .d (.own f x)=>.rg B 0 (.own f x)
 | .agg b=>.agg (SV.QV B b)
 | .M2 b=>.M2 (SV.QV B b)
 | s=>s
def SV.QV (B:Nat):List SV->List SV
 | []=>[]
 | s::b=>SV.tG B s::SV.QV B b
end
section
variable {X : Nat -> Prop} {e : Env} {w : World} {B : Nat}
def Q0.tG (c:w.heap.size=B) {v:Value} {x:D} (h:Q0 X w v x):Zm X w B 0 v x:=⟨Nat.le_of_eq c.symm,Q0.N1 (Af _) (λ_ _ _=>rfl) (λb d f=>f.elim id λ(h:B<=b)=>absurd d<|by omega) h⟩
mutual
def Rel.tG (b:w.heap.size=B):∀ (s:SV) (v:Value),Rel X e w s v->Rel X e w (s.tG B) v
 | .d (.slice _ _),_,h=>Q0.tG b h
 | .d (.ptr _),_,h=>Q0.tG b h
 | .d (.own _ _),_,h=>Q0.tG b h
 | .d (.int _ _),_,h=>h
 | .d (.bool _),_,h=>h
 | .d (.str _),_,h=>h
 | .agg f,_,⟨c,g,i⟩=>⟨c,g,O0.tG b f c i⟩
 | .M2 f,_,⟨c,g,i⟩=>⟨c,g,O0.tG b f c i⟩
 | .V1,_,h=>h
 | .Q1,_,h=>h
 | .pd _,_,h=>h
 | .loc _ _,_,h=>h
 | .row _,_,h=>h
 | .mp _,_,h=>h
 | .md _ _,_,h=>h
 | .P3 _ _ _ _,_,h=>h
 | .sl _ _ _ _,_,h=>h
 | .R5 _ _ _ _,_,h=>h
 | .rg _ _ _,_,h=>h
 | .fn _ _,_,h=>h
 | .val _,_,h=>h
def O0.tG (b:w.heap.size=B):∀ (ss:List SV) (vs:List Value),O0 X e w ss vs->O0 X e w (SV.QV B ss) vs
 | [],[],_=>trivial
 | [],_::_,h=>h.elim
 | _::_,[],h=>h.elim
 | s::ss,v::vs,h=>⟨Rel.tG b s v h.1,O0.tG b ss vs h.2⟩
end
end
def Sl.T5 (g:SV->SV):Sl->Sl
 | []=>[]
 | (t,s)::r=>(t,g s)::Sl.T5 g r
def SV.VV (g:SV->SV):List SV->List SV
 | []=>[]
 | s::r=>g s::SV.VV g r
def HB.T5 (g:SV->SV):HB->HB
 | .M1 ty c=>.M1 ty (SV.VV g c)
 | b=>b
def Hp.T5 (g:SV->SV):Hp->Hp
 | []=>[]
 | (i,b)::r=>(i,HB.T5 g b)::Hp.T5 g r
def Sl.yG {g:SV->SV} (b:g .V1=.V1):∀ (L:Sl) (t:Nat),(Sl.T5 g L).get t=g (L.get t)
 | [],_=>b.symm
 | (d,s)::r,t=>by
  simp only [Sl.T5,Sl.C1]
  split
  ·rfl
  ·exact Sl.yG b r t
def Hp.wG {g:SV->SV}:∀ {H:Hp} {p:Nat×HB},p∈Hp.T5 g H->∃ b,(p.1,b)∈H/\p.2=HB.T5 g b
 | [],_,h=>nomatch h
 | (i,b)::r,p,h=>by
  rcases List.mem_cons.1 h with rfl|h
  ·exact⟨b,Ac ..,rfl⟩
  ·obtain⟨c,d,f⟩:=Hp.wG h
   exact⟨c,Ak _ d,f⟩
def Hp.xG {g:SV->SV}:∀ (H:Hp),(Hp.T5 g H).map (·.1)=H.map (·.1)
 | []=>rfl
 | (i,b)::r=>by simp only [Hp.T5,A3,Hp.xG r]
def Hp.Cw {g:SV->SV} {e:Env}:∀ (H:Hp),ah e (Hp.T5 g H)=ah e H
 | []=>rfl
 | (i,b)::r=>by
  have ih:=Hp.Cw (g:=g) (e:=e) r
  unfold ah at ih ⊢
  simp only [Hp.T5,List.filterMap_cons,ih]
  cases b<;>rfl
def OZ (B:Nat) (Γ:Ctx) (k:Nat) (L:Sl) (H:Hp) (k':Nat) (L':Sl) (H':Hp):Prop:=
 ∀ e a w,J0 Γ k L H e a w->w.heap.size=B->∃ b,J0 Γ k' L' H' b a w
section
variable {Γ : Ctx} {k : Nat} {L : Sl} {H : Hp} {Q : ey} {B : Nat}
def O0.T5 {X:Nat->Prop} {e:Env} {w:World} {g:SV->SV} (b:∀ s v,Rel X e w s v->Rel X e w (g s) v):∀ (ss:List SV) (vs:List Value),O0 X e w ss vs->O0 X e w (SV.VV g ss) vs
 | [],[],_=>trivial
 | [],_::_,h=>h.elim
 | _::_,[],h=>h.elim
 | s::ss,v::vs,h=>⟨b s v h.1,O0.T5 b ss vs h.2⟩
def ZB {g:SV->SV} (r:g .V1=.V1) (j:∀ X e w s v,w.heap.size=B->Rel X e w s v->Rel X e w (g s) v):OZ B Γ k L H k (Sl.T5 g L) (Hp.T5 g H):=by
 intro e a w m n;have c:ah e (Hp.T5 g H)=ah e H:=Hp.Cw H;have o:Γ.X e (Hp.T5 g H)=Γ.X e H:=by unfold Ctx.X;rw [c]
 refine⟨e,⟨⟨m.top,λp u=>?_,by rw [Hp.xG];exact m.ids,by rw [c];exact m.nodup,by rw [c];exact m.M3,m.os,m.tape,m.output,m.drawn,m.size,m.block,m.T1,m.S4,m.L8,m.anchor⟩,m.defers,m.len,λt=>?_⟩⟩
 ·rw [o];obtain⟨i,y⟩:=p;obtain⟨b,z,d⟩:=Hp.wG u;have d:y=HB.T5 g b:=d;subst d;obtain⟨A,f⟩:=m.heap _ z;refine⟨A,?_⟩
  cases b with
  | M1 ty I =>
   obtain⟨C,E,F,G⟩:=f;exact⟨C,E,O0.T5 (λs v h=>j _ _ _ s v n h) _ _ F,G⟩
  | row ty es xs=>exact f
  | map J K=>exact f
 ·rw [o,Sl.yG r];exact j _ _ _ _ _ n<|m.slot t
def wM {g:SV->SV} (b:g .V1=.V1) (c:∀ X e w s v,Rel X e w s v->Rel X e w (g s) v):X7 Γ k L H k (Sl.T5 g L) (Hp.T5 g H):=λe a w m=>ZB b (λX e w s v _ h=>c X e w s v h) e a w m rfl
def xK {b c:Nat} {d f:Sl} {g i:Hp} (h:X7 Γ k L H b d g) (j:X7 Γ b d g c f i):X7 Γ k L H c f i:=λe a w m =>
 let ⟨n,o⟩:=h e a w m
 j n a w o
def CY {c:Code} (h:∀ B,Γ.w0.heap.size<=B->DW Γ c Q k (Sl.T5 (SV.tG B) L) (Hp.T5 (SV.tG B) H)):DW Γ c Q k L H:=λe a w m =>
 let ⟨b,d⟩:=ZB (g:=SV.tG w.heap.size) rfl (λ_ _ _ s v f h=>Rel.tG f s v h) e a w m rfl
 h w.heap.size m.size b a w d
def AK {c:Code} (h:DW Γ c Q k (Sl.T5 SV.Ay L) (Hp.T5 SV.Ay H)):DW Γ c Q k L H:=ag (wM rfl λ_ _ _ s v h=>Rel.Ay s v h) h
def EH:X7 Γ k L H k (Sl.T5 SV.X6 L) (Hp.T5 SV.X6 H):=wM rfl λ_ _ _ s v h=>Rel.X6 s v h
end
section
variable {Γ : Ctx} {k : Nat} {L : Sl} {H : Hp} {Q : ey} {B q es : Nat} {xs : List (List D)}
end
section
variable {Γ : Ctx} {l : List Oper}
end
end
end Go.Proofs.YtapciiffpnociabGreat
