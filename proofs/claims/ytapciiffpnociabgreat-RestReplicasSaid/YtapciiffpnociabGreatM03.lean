/- Several texts in one: GxOwn GxCal GxCaq GxStep GxMk. Condition: none. -/
import Derived.Test.YtapciiffpnociabGreatM02
import Derived.OpenShut
set_option linter.all false
open Array renaming length_toList→A5
open Bool renaming and_eq_true→Ae,not_eq_true'→D7
open Int renaming ediv_nonneg→Ez,emod_add_mul_ediv→Ek,le_refl→Df,mul_nonneg→F4,tmod_eq_emod_of_nonneg→F3,tmod_nonneg→Ih,toNat_of_nonneg→B9
open List renaming all_cons→Dx,append_assoc→Bm,eq_nil_of_length_eq_zero→Bg,ext_getElem?→Ce,filterMap_cons→Br,filter_sublist→G7,getD→A4,getElem?_append_left→Bj,getElem?_append_right→A7,getElem?_eq_getElem→Ad,getElem?_eq_none→Be,getElem?_take→Bf,getElem_mem→Ah,getElem_set→H6,length_drop→A9,length_set→A6,length_take→Ap,map_append→Au,map_cons→A3,map_map→Ed,mem_append→C0,mem_cons_of_mem→Ak,mem_cons_self→Ac,replicate→Aq
open Nat renaming add_mul→Bq,add_sub_cancel_left→Gg,beq→Az,ble→Cj,ble_eq_true_of_le→Dk,blt→Av,eq_of_beq_eq_true→Ao,le_add_right→H5,le_of_ble_eq_true→Ab,le_refl→Af,le_trans→Aw,lt_of_lt_of_le→As,lt_or_ge→Ec,mul_le_mul_right→A8,mul_one→Dq,not_lt_zero→A2
open Option renaming map_none→E3,map_some→B1
namespace Go.Proofs.YtapciiffpnociabGreat
open Go Go.RowKit
variable {pos:String} {af:Array Edge}
section
open Go Go.RowKit
variable [Y0]
mutual
def SV.L4 (J:Nat):SV->Bool
 | .row _=>true
 | .P3 _ _ _ _=>true
 | .R5 _ _ _ _=>true
 | .rg _ _ _=>true
 | .fn _ c=>SV.I8 J c
 | .agg b=>SV.I8 J b
 | .M2 b=>SV.I8 J b
 | .V1=>true
 | .d _=>true
 | .Q1=>true
 | .pd _=>true
 | .loc _ _=>true
 | .mp _=>true
 | .md _ _=>true
 | .sl _ _ _ _=>true
 | .val _=>true
def SV.I8 (J:Nat):List SV->Bool
 | []=>true
 | s::b=>SV.L4 J s&&SV.I8 J b
end
def HB.L4 (J:Nat):Nat×HB->Bool
 | (_,.M1 _ b)=>SV.I8 J b
 | (_,.row _ _ _)=>true
 | (_,.map _ _)=>true
def Hp.L4 (J:Nat):Hp->Bool
 | []=>true
 | p::H=>HB.L4 J p&&Hp.L4 J H
def Hp.Yn {J:Nat}:∀ (H:Hp),Hp.L4 J H=true->∀ p∈H,HB.L4 J p=true
 | [],_,_,h=>by simp at h
 | q::H,h,p,b=>by
  simp only [Hp.L4,Ae] at h
  rcases List.mem_cons.1 b with rfl|b
  ·exact h.1
  ·exact Hp.Yn H h.2 p b
mutual
def Rel.back {X} {e' o:Env} {w} {q:Nat->Nat} {J r:Nat} (j:∀ i,i<r->o.β (q i)=e'.β i) (l:∀ i,i<r->o.η (q i)=e'.η i) (c:∀ i,i<r->o.U4 (q i)) (b:∀ i,e'.U4 i->i<r) :
  ∀ (s:SV) (v:Value),s.L4 J=true->Rel X e' w s v->Rel X o w (s.V2 q) v
 | .V1,_,_,_=>trivial
 | .d _,_,_,h=>h
 | .Q1,_,_,h=>h
 | .pd _,_,_,h=>h
 | .loc i _,_,_,h=>⟨c i (b i h.1),by rw [j i (b i h.1)];exact h.2⟩
 | .mp i,_,_,h=>⟨c i (b i h.1),by rw [j i (b i h.1)];exact h.2⟩
 | .md _ _,_,_,h=>h
 | .sl i _ _ _,_,_,h=>⟨c i (b i h.1),by rw [j i (b i h.1)];exact h.2⟩
 | .row i,_,f,h=>⟨c i (b i h.1),by rw [l i (b i h.1)];exact h.2⟩
 | .R5 i _ _ _,_,f,h=>⟨c i (b i h.1),by rw [l i (b i h.1)];exact h.2⟩
 | .rg _ _ _,_,_,h=>h
 | .P3 i _ _ _,_,f,h=>⟨c i (b i h.1),by rw [l i (b i h.1)];exact h.2⟩
 | .fn _ z,_,f,⟨g,m,n⟩=>⟨g,m,O0.back j l c b z g f n⟩
 | .agg u,_,f,⟨g,m,n⟩=>⟨g,m,O0.back j l c b u g f n⟩
 | .M2 u,_,f,⟨g,m,n⟩=>⟨g,m,O0.back j l c b u g f n⟩
 | .val _,_,_,h=>h
def O0.back {X} {e' b:Env} {w} {c:Nat->Nat} {J d:Nat} (g:∀ i,i<d->b.β (c i)=e'.β i) (j:∀ i,i<d->b.η (c i)=e'.η i) (l:∀ i,i<d->b.U4 (c i)) (m:∀ i,e'.U4 i->i<d) :
  ∀ (ss:List SV) (vs:List Value),SV.I8 J ss=true->O0 X e' w ss vs->O0 X b w (SV.T4 c ss) vs
 | [],[],_,_=>trivial
 | [],_::_,_,h=>h.elim
 | _::_,[],_,h=>h.elim
 | s::ss,v::vs,f,⟨n,o⟩=>by
  simp only [SV.I8,Ae] at f
  exact⟨Rel.back g j l m s v f.1 n,O0.back g j l m ss vs f.2 o⟩
end
def Nb:Nat->List Nat->Bool
 | 0,_=>true
 | j+1,l=>(!Z6 j l)&&Nb j l
def S9 {i:Nat}:∀ {l:List Nat},Z6 i l=false->i∈l
 | [],h=>by simp [Z6] at h
 | j::r,h=>by
  simp only [Z6,Bool.and_eq_false_iff,Bool.not_eq_false'] at h
  rcases h with h|h
  ·exact Ao h▸Ac ..
  ·exact Ak _ (S9 h)
def qg {i:Nat} {l:List Nat} (h:i ∉ l):Z6 i l=true:=by
 cases b:Z6 i l with
 | true=>rfl
 | false=>exact absurd (S9 b) h
def tr {l:List Nat}:∀ (J:Nat),Nb J l=true->∀ j,j<J->j∈l
 | 0,_,_,h=>by omega
 | J+1,h,j,c=>by
  simp only [Nb,Ae,D7] at h;rcases Ec j J with b|b
  ·exact tr J h.2 j b
  ·have:j=J:=by omega
   subst this;exact S9 h.1
def ql {α b:Type} {f g:α->Option b}:∀ {l:List α},(∀ p∈l,f p=g p)->l.filterMap f=l.filterMap g
 | [],_=>rfl
 | x::l,h=>by
  rw [Br,Br,h x (Ac ..),ql λp c=>h p (Ak _ c)]
def rl (H:Hp) (b:List Nat):Hp:=H.filter λp=>Z6 p.1 b
def sig (ρ:Nat->Nat) (J k:Nat) (i:Nat):Nat:=match Av i J with|true=>ρ i|false=>k+i
def xj {ρ:Nat->Nat} {J k i:Nat} (h:i<J):sig ρ J k i=ρ i:=by unfold sig;rw [show Av i J=true from Dk h]
def z6 {ρ:Nat->Nat} {J k i:Nat} (h:J<=i):sig ρ J k i=k+i:=by
 unfold sig;cases b:Av i J with
 | true=>have:=Ab b;omega
 | false=>rfl
section
variable {Γ : Ctx} {k : Nat} {L : Sl} {H : Hp} {K : cn} {ops : List Oper} {rest : List Oper} {a : Act} {w : World} {e : Env}
def ME (c:Bool) (P:Program) (τ:List (Nat×TI)) (τok:c8 P τ) (f:FuncId) (args:List SV) (J k:Nat) (H:Hp) (R:Ending->Value->Nat->SV->Hp->Prop):Prop:=
 ∀ (O:Nat->Prop) (e:Env) (w:World) (h:List Value),
  Heap ⟨P,τ,τok,O,w,λb=>b∈ah e H,0,J,e.an,none,da,true,c⟩ k H e w->O0 (Ctx.X ⟨P,τ,τok,O,w,λb=>b∈ah e H,0,J,e.an,none,da,true,c⟩ e H) e w args h ->
  Calls P f h.toArray w (λl i=>∃ j r d g v,R l v j r d/\Heap ⟨P,τ,τok,O,w,λb=>b∈ah e H,0,J,e.an,none,da,true,c⟩ j d g i /\
   Rel (Ctx.X ⟨P,τ,τok,O,w,λb=>b∈ah e H,0,J,e.an,none,da,true,c⟩ g d) g i r v)
def X1.g {b:Bool} {P:Program} {τ:List (Nat×TI)} {τok:c8 P τ} {f:FuncId} {args:List SV} {J k:Nat} {H:Hp} {R:Nat->SV->Hp->Prop} (h:X1 b P τ τok f args J k H R) :
  ME b P τ τok f args J k H (λc v k' r H'=>R k' r H'/\c=.returned v):=
 λO e w d i j=>(h.2 O e w d i j).mono λ_ _ ⟨k',r,H',e',v,h1,h2,h3,h4⟩=>⟨k',r,H',e',v,⟨h1,h2⟩,h3,h4⟩
def DC.g {j:Bool} {P:Program} {τ:List (Nat×TI)} {τok:c8 P τ} {f:FuncId} {args:List SV} {J k:Nat} {H:Hp} {R:Nat->SV->Hp->Prop} {E:Value->Prop} (h:DC j P τ τok f args J k H R E) :
  ME j P τ τok f args J k H (λl v k' r H'=>(R k' r H'/\l=.returned v)∨(E v/\l=.panicked [{ v,recovered:=false }]/\r=.V1/\H'=[])):=
 λO e w m n o=>(h.2 O e w m n o).mono λ_ _ q=>by
  rcases q with ⟨k',r,H',b,v,c,d,i,u⟩|⟨v,k',b,c,d,i⟩
  ·exact⟨k',r,H',b,v,.inl ⟨c,d⟩,i,u⟩
  ·exact⟨k',.V1,[],b,v,.inr ⟨c,d,rfl,rfl⟩,i,trivial⟩
def ME.use {f:FuncId} {args:List SV} {J M:Nat} {u:Hp} {R:Ending->Value->Nat->SV->Hp->Prop} (hc:ME Γ.dr Γ.P Γ.τ Γ.τok f args J M u R) (ρ:Nat->Nat) (m:J0 Γ k L H e a w) (g6:SV.U1 M args=true) (g7:N4 ρ H u) (hl:Hp.low M u=true)
  (hd:a8 (u.map λp=>ρ p.1)=true) (g8:a8 (u.map (·.1))=true) (hJ:Cj J M=true) (b1:Nb J (u.map (·.1))=true) (vs:List Value) (hr:O0 (Γ.X e H) e w (SV.T4 ρ args) vs)
  (g9:∀ en v z r o,R en v z r o->r.L4 J=true/\Hp.L4 J o=true) :
  Calls Γ.P f vs.toArray w (λen w'=>∃ z r o v n,R en v z r o/\J0 Γ (k+z) L ((o.map λp=>(sig ρ J k p.1,p.2.V2 (sig ρ J k)))++rl H (u.map λp=>ρ p.1)) n a w' /\
   Rel (Γ.X n ((o.map λp=>(sig ρ J k p.1,p.2.V2 (sig ρ J k)))++rl H (u.map λp=>ρ p.1))) n w' (r.V2 (sig ρ J k)) v):=by
 have h0:=Ab hJ;have a3:=N4.mem u g7;have e5:=Hp.I7 u hl;let U:=e.V2 ρ M
 let G:=rl H<|u.map λp=>ρ p.1
 have a1:∀ p,p∈G->p∈H/\p.1 ∉ u.map λq=>ρ q.1:=by
  intro p c;obtain⟨A,E⟩:=List.mem_filter.1 c;exact⟨A,iq _ _ E⟩
 have V:∀ b,b∈ah U u->b∈ah e H:=by
  intro b d;obtain⟨p,c,ho⟩:=List.mem_filterMap.1 d;exact List.mem_filterMap.2 ⟨_,a3 p c,by rw [<- Fc e ρ M];exact ho⟩
 have b7:∀ b,b∈ah U u->b ∉ ah e G:=by
  intro b d h5;obtain⟨p,c,ho⟩:=List.mem_filterMap.1 d;obtain⟨q,B,c0⟩:=List.mem_filterMap.1 h5;obtain⟨W,c1⟩:=a1 q B;refine m.O5 (a3 p c) W (λhe=>c1 ?_) (by rw [<- Fc e ρ M];exact ho) c0;rw [<- he];exact List.mem_map.2 ⟨p,c,rfl⟩
 have a4:∀ b,b∈ah e G->b∈ah e H:=by
  intro b d;obtain⟨q,B,c0⟩:=List.mem_filterMap.1 d;exact List.mem_filterMap.2 ⟨q,(a1 q B).1,c0⟩
 let O':Nat->Prop:=λb=>Γ.O b∨b∈ah e G
 let c2:Ctx:=⟨Γ.P,Γ.τ,Γ.τok,O',w,λb=>b∈ah U u,0,J,U.an,none,da,true,Γ.dr⟩
 have c3:∀ b,Ctx.X c2 U u b->Γ.X e H b:=by
  intro b d;rcases d with (d|d)|d
  ·exact .inl d
  ·exact .inr<|a4 b d
  ·exact .inr<|V b d
 have h6:Heap c2 M u U w:=by
  refine⟨λ_=>Iff.rfl,λp c=>⟨(e5 p c).1,?_⟩,ed _ g8,?_,λb d=>⟨.inl d,λC=>?_⟩,rfl,rfl,rfl,λ_=>Af _,Af _,λ_ _ _=>rfl,λb C=>⟨?_,λd=>?_⟩,m.U6.sub V,λj F=>As F h0,λ_ _=>rfl⟩
  ·have c4:=(m.heap _<|a3 p c).2;have h7:=(e5 p c).2;obtain⟨i,b⟩:=p;cases b with
   | M1 ty cs =>
    obtain⟨N,A,E,Q⟩:=c4;exact⟨N,A,O0.N1 (Af _) (λ_ _ _=>rfl) (λb _ I=>c3 b I) _ _ (O0.V2 ρ M cs N h7 E),Q⟩
   | row ty es xs =>
    obtain⟨N,A,E,Q,h4⟩:=c4;refine⟨N,A,E,Q,λi g j F=>?_⟩
    obtain⟨v,g1,g2⟩:=h4 i g j F;exact⟨v,g1,Q0.N1 (Af _) (λ_ _ _=>rfl) (λb _ I=>c3 b I) g2⟩
   | map kd c5=>exact c4
  ·rw [Cv];refine jd _ H m.nodup _ ?_ ?_
   ·have Y:=ed _ hd;refine List.Pairwise.of_map (f:=λp:Nat×HB=>p.1) (S:=(·≠·)) (λa b h8 he=>h8<|by rw [he]) ?_;simpa [Ed,List.Nodup,Function.comp_def] using Y
   ·intro p c;obtain⟨q,B,rfl⟩:=List.mem_map.1 c;exact a3 q B
  ·rcases C with C|C
   ·exact (m.M3 b<|V b d).2 C
   ·exact b7 b d C
  ·rcases C with C|C
   ·exact As (m.T1 b C).1 m.size
   ·exact m.lt b<|a4 b C
  ·rcases C with C|C
   ·exact (m.M3 b<|V b d).2 C
   ·exact b7 b d C
 refine (hc O' U w vs h6<|O0.N1 (Af _) (λ_ _ _=>rfl) (λb _ I=>c3 b I) _ _<|O0.V2 ρ M args vs g6 hr).mono ?_;rintro en w' ⟨z,r,o,e',v,hR,hH2,hrel⟩;obtain⟨h9,i0⟩:=g9 en v z r o hR;have e6:=Hp.Yn o i0;have l0:J<=z:=by
  rcases Nat.eq_zero_or_pos J with h|h
  ·omega
  ·have:J-1<z:=hH2.L8 (J-1) (by show J-1<J;omega)
   omega
 have a5:∀ i,e'.U4 i->i<z:=λi g=>(hH2.top i).1 g
 let n:Env:=⟨λi=>if i<k then e.β i else e'.β (i-k),λi=>if i<k then e.η i else e'.η (i-k),lo<|k+z⟩
 have a9:∀ j,j<J->ρ j<k:=by
  intro j F;obtain⟨p,c,i1⟩:=List.mem_map.1<|tr J b1 j F;have:ρ p.1<k:=(m.top _).1 (m.heap _<|a3 p c).1
  rw [<- i1];exact this
 have a2:∀ i,i<z->n.β (sig ρ J k i)=e'.β i:=by
  intro i g;rcases Ec i J with h|h
  ·rw [xj h];show (if ρ i<k then e.β (ρ i) else _)=_;rw [if_pos<|a9 i h];exact (Env.pU<|hH2.anchor i h).symm
  ·rw [z6 h];show (if k+i<k then _ else e'.β (k+i-k))=_;rw [if_neg (by omega),Gg]
 have b2:∀ i,i<z->n.η (sig ρ J k i)=e'.η i:=by
  intro i g;rcases Ec i J with h|h
  ·rw [xj h];show (if ρ i<k then e.η (ρ i) else _)=_;rw [if_pos<|a9 i h];exact (Env.HZ<|hH2.anchor i h).symm
  ·rw [z6 h];show (if k+i<k then _ else e'.η (k+i-k))=_;rw [if_neg (by omega),Gg]
 have c6:∀ i,i<z->n.U4 (sig ρ J k i):=by
  intro i g;show _<k+z;rcases Ec i J with h|h
  ·rw [xj h];have:=a9 i h;omega
  ·rw [z6 h];omega
 have b3:∀ i,e.U4 i->n.β i=e.β i/\n.η i=e.η i:=by
  intro i g;have g:i<k:=(m.top i).1 g;exact⟨if_pos g,if_pos g⟩
 have e1:∀ i,e.U4 i->n.U4 i:=λi g=>As ((m.top i).1 g)<|H5 _ _
 have b0:∀ p∈H,e.U4 p.1:=λp c=>(m.heap p c).1
 have i2:∀ p∈o,HB.owned n (sig ρ J k p.1,p.2.V2<|sig ρ J k)=HB.owned e' p:=by
  intro p c;have g:=a5 _ (hH2.heap p c).1;have e7:=e6 p c;obtain⟨i,b⟩:=p;cases b with
  | M1 ty cs=>show some (n.β<|sig ρ J k i)=some (e'.β i);rw [a2 i g]
  | row ty es xs=>show (n.η<|sig ρ J k i).ownBlock=(e'.η i).ownBlock;rw [b2 i g]
  | map kd c5=>show some (n.β<|sig ρ J k i)=some (e'.β i);rw [a2 i g]
 have i3:ah n (o.map λp=>(sig ρ J k p.1,p.2.V2<|sig ρ J k))=ah e' o:=by
  unfold ah;rw [List.filterMap_map];exact ql λp c=>i2 p c
 have i8:ah n G=ah e G:=n3 b3 G λp c=>b0 p (a1 p c).1
 have e2:ah n ((o.map λp=>(sig ρ J k p.1,p.2.V2<|sig ρ J k))++G)=ah e' o++ah e G:=by
  unfold ah at *;rw [List.filterMap_append,i3,i8]
 have hE:∀ b,b∈ah e' o->(b∈ah U u∨w.heap.size<=b)/\¬ O' b:=λb d=>hH2.M3 b d
 have b4:∀ b,Γ.X n ((o.map λp=>(sig ρ J k p.1,p.2.V2<|sig ρ J k))++G) b↔Ctx.X c2 e' o b:=by
  intro b;unfold Ctx.X;rw [e2,C0];exact⟨λh=>h.elim (λh=>.inl<|.inl h) λh=>h.elim .inr λh=>.inl (.inr h),λh=>h.elim (λh=>h.elim .inl λh=>.inr<|.inr h) λh=>.inr<|.inl h⟩
 have e9:∀ b,b<w.heap.size->Γ.X n ((o.map λp=>(sig ρ J k p.1,p.2.V2<|sig ρ J k))++G) b->Γ.X e H b:=by
  intro b d Z;rcases (b4 b).1 Z with (Z|Z)|Z
  ·exact .inl Z
  ·exact .inr<|a4 b Z
  ·rcases (hE b Z).1 with h|h
   ·exact .inr<|V b h
   ·omega
 have b5:∀ b,b<w.heap.size->b ∉ ah U u->w'.heap[b]?=w.heap[b]?:=λb d Y=>hH2.block b d Y
 have g0:∀ b,b<w.heap.size->¬ Γ.X e H b->w'.heap[b]?=w.heap[b]?:=λb d Z=>b5 b d λh=>Z<|.inr<|V b h
 have j0:J0 Γ (k+z) L ((o.map λp=>(sig ρ J k p.1,p.2.V2<|sig ρ J k))++G) n a w':=by
  refine⟨⟨λ_=>Iff.rfl,λp c=>?_,?_,?_,λb d=>?_,hH2.os.trans m.os,hH2.tape.trans m.tape,hH2.output.trans m.output,λg3=>Aw (m.drawn g3) (hH2.drawn g3),Aw m.size hH2.size,λb A E=>?_,m.T1,m.S4,λj F=>As (m.L8 j F) (H5 _ _),λj F=>?_⟩,m.defers.N1 λr hr=>b5 r (cz hr) λho=>m.K8 hr (V r ho),m.len,λt=>?_⟩
  ·rcases List.mem_append.1 c with c|c
   ·obtain⟨q,B,rfl⟩:=List.mem_map.1 c;have g:=a5 _ (hH2.heap q B).1;refine⟨c6 _ g,?_⟩
    have e7:=e6 q B;have hh:=(hH2.heap q B).2;obtain⟨i,b⟩:=q;cases b with
    | M1 ty cs =>
     obtain⟨N,A,E,Q⟩:=hh;refine⟨N,by show w'.heap[n.β<|sig ρ J k i]?=_;rw [a2 i g];exact A,?_,Q⟩
     exact O0.N1 (Af _) (λ_ _ _=>rfl) (λb _ I=>(b4 b).1 I) _ _<|O0.back a2 b2 c6 a5 cs N e7 E
    | row ty es xs =>
     obtain⟨N,A,E,Q,h4⟩:=hh;refine⟨N,by show w'.ownsRow 0 ty es (n.η<|sig ρ J k i) _ N;rw [b2 i g];exact A,E,Q,λi' j1 j F=>?_⟩
     obtain⟨v,g1,g2⟩:=h4 i' j1 j F;exact⟨v,g1,Q0.N1 (Af _) (λ_ _ _=>rfl) (λb _ I=>(b4 b).1 I) g2⟩
    | map kd c5=>show W6 w' (n.β<|sig ρ J k i) kd c5;rw [a2 i g];exact hh
   ·obtain⟨T,l1⟩:=a1 p c;refine⟨e1 _ (b0 p T),I4.N1 hH2.size g0 e9 p (λb d=>?_)<|I4.ext e1 b3 p (b0 p T) (m.heap p T).2⟩
    rw [Gc b3 p<|b0 p T] at d;have g4:b∈ah e G:=List.mem_filterMap.2 ⟨p,c,d⟩;exact b5 b (m.lt b<|a4 b g4) λh=>b7 b h g4
  ·rw [Au,Ed];refine List.nodup_append.2 ⟨?_,?_,?_⟩
   ·have E:=hH2.ids;have j2:∀ i j,i<z->j<z->sig ρ J k i=sig ρ J k j->i=j:=by
     intro i j g F a0;rcases Ec i J with h|h<;>rcases Ec j J with h'|h'
     ·rw [xj h,xj h'] at a0;have Y:=ed _ hd;have j3:∀ (l:List (Nat×HB)),(l.map λp=>ρ p.1).Nodup->∀ p q,p∈l->q∈l->ρ p.1=ρ q.1->p.1=q.1:=by
       intro l;induction l with
       | nil=>intro _ p q c;simp at c
       | cons x l ih =>
        intro Y p q c B e3;obtain⟨n1,n2⟩:=List.nodup_cons.1 Y;rcases List.mem_cons.1 c with T|T<;>rcases List.mem_cons.1 B with W|W
        ·rw [T,W]
        ·exact absurd (show ρ x.1∈l.map λp=>ρ p.1 from List.mem_map.2 ⟨q,W,by rw [<- e3,T]⟩) n1
        ·exact absurd (show ρ x.1∈l.map λp=>ρ p.1 from List.mem_map.2 ⟨p,T,by rw [e3,W]⟩) n1
        ·exact ih n2 p q T W e3
      obtain⟨p,c,b6⟩:=List.mem_map.1<|tr J b1 i h;obtain⟨q,B,g5⟩:=List.mem_map.1<|tr J b1 j h';rw [<- b6,<- g5];exact j3 u Y p q c B<|by rw [b6,g5];exact a0
     ·rw [xj h,z6 h'] at a0;have:=a9 i h;omega
     ·rw [z6 h,xj h'] at a0;have:=a9 j h';omega
     ·rw [z6 h,z6 h'] at a0;omega
    have:∀ (l:Hp),(∀ p∈l,p.1<z)->(l.map (·.1)).Nodup->(l.map ((λp:Nat×HB=>p.1) ∘ λp=>(sig ρ J k p.1,p.2.V2<|sig ρ J k))).Nodup:=by
     intro l;induction l with
     | nil=>intro _ _;simp
     | cons x l ih =>
      intro d Y;obtain⟨n1,n2⟩:=List.nodup_cons.1 Y;refine List.nodup_cons.2 ⟨λhm=>?_,ih (λp c=>d p<|Ak _ c) n2⟩;obtain⟨q,B,j4⟩:=List.mem_map.1 hm;have:=j2 q.1 x.1 (d q<|Ak _ B) (d x<|Ac ..) j4
      exact n1<|List.mem_map.2 ⟨q,B,this⟩
    exact this o (λp c=>a5 _ (hH2.heap p c).1) E
   ·exact List.Nodup.sublist (List.Sublist.map _ G7) m.ids
   ·intro i g j F a0;subst a0;obtain⟨p,c,b6⟩:=List.mem_map.1 g;obtain⟨q,B,j5⟩:=List.mem_map.1 F;obtain⟨W,c1⟩:=a1 q B;have l2:q.1<k:=(m.top _).1<|b0 q W;have e4:sig ρ J k p.1=i:=b6;rcases Ec p.1 J with h|h
    ·rw [xj h] at e4;obtain⟨p',k1,k3⟩:=List.mem_map.1<|tr J b1 p.1 h;exact c1 (List.mem_map.2 ⟨p',k1,by rw [k3,e4,j5]⟩)
    ·rw [z6 h] at e4;omega
  ·rw [e2];refine List.nodup_append.2 ⟨hH2.nodup,?_,λb d l3 hc k4=>?_⟩
   ·exact jd _ H m.nodup _ (List.Nodup.sublist G7<|pg m.ids) λp c=>(a1 p c).1
   ·subst k4;exact (hE b d).2<|.inr hc
  ·rw [e2] at d;rcases List.mem_append.1 d with d|d
   ·obtain⟨A,E⟩:=hE b d;refine⟨?_,λC=>E<|.inl C⟩
    rcases A with A|A
    ·exact (m.M3 b<|V b A).1
    ·exact .inr<|Aw m.size A
   ·exact m.M3 b<|a4 b d
  ·refine (b5 b (As A m.size) λh=>?_).trans<|m.block b A E;rcases (m.M3 b<|V b h).1 with Q|Q
   ·exact E Q
   ·omega
  ·exact (Env.WK ⟨if_pos (m.L8 j F),if_pos<|m.L8 j F⟩).trans<|m.anchor j F
  ·exact Rel.N1 hH2.size g0 e9 _ _<|Rel.ext e1 b3 _ _<|m.slot t
 exact⟨z,r,o,v,n,hR,j0,Rel.N1 (Af _) (λ_ _ _=>rfl) (λb _ I=>(b4 b).1 I) _ _<|Rel.back a2 b2 c6 a5 r v h9 hrel⟩
def X1.use {f:FuncId} {args:List SV} {J j:Nat} {c:Hp} {R:Nat->SV->Hp->Prop} (hc:X1 Γ.dr Γ.P Γ.τ Γ.τok f args J j c R) (ρ:Nat->Nat) (m:J0 Γ k L H e a w) (n:SV.U1 j args=true) (o:N4 ρ H c) (q:Hp.low j c=true)
  (u:a8 (c.map λp=>ρ p.1)=true) (z:a8 (c.map (·.1))=true) (A:Cj J j=true) (B:Nb J (c.map (·.1))=true) (vs:List Value) (C:O0 (Γ.X e H) e w (SV.T4 ρ args) vs)
  (E:∀ d r b,R d r b->r.L4 J=true/\Hp.L4 J b=true) :
  Calls Γ.P f vs.toArray w (λl w'=>∃ d r b v i,R d r b/\l=.returned v/\J0 Γ (k+d) L ((b.map λp=>(sig ρ J k p.1,p.2.V2 (sig ρ J k)))++rl H (c.map λp=>ρ p.1)) i a w' /\
   Rel (Γ.X i ((b.map λp=>(sig ρ J k p.1,p.2.V2 (sig ρ J k)))++rl H (c.map λp=>ρ p.1))) i w' (r.V2 (sig ρ J k)) v):=by
 exact (hc.g.use ρ m n o q u z A B vs C λ_ _ d r b h=>E d r b h.1).mono λl w' ⟨d,r,b,v,i,h,h1,h2⟩=>⟨d,r,b,v,i,h.1,h.2,h1,h2⟩
end
end
section
open Go Go.RowKit
variable [Y0]
def SV.sure:SV->Option Value
 | .d (.int k n)=>some (.int k n)
 | .d (.bool b)=>some (.bool b)
 | .d (.str s)=>some (.string s)
 | _=>none
section
variable {Γ : Ctx} {k : Nat} {L : Sl} {H : Hp} {K : cn} {ops : List Oper} {rest : List Oper} {a : Act} {w : World} {e : Env}
def tj {f:FuncId} {xs:List Operand} {j:Array TypeId} {ty:TypeId} {g:Option (Nat×Bool)} {d:Nat} {args:List SV} {J i:Nat} {b:Hp} {R:Nat->SV->Hp->Prop} (ρ:Nat->Nat)
  (hc:X1 Γ.dr Γ.P Γ.τ Γ.τok f args J i b R) (l:ap ops L g=some true) (o:mt L xs=SV.T4 ρ args) (q:dz xs=true) (u:SV.U1 i args=true) (z:N4 ρ H b) (A:Hp.low i b=true)
  (B:a8 (b.map λp=>ρ p.1)=true) (C:a8 (b.map (·.1))=true) (E:Cj J i=true) (F:Nb J (b.map (·.1))=true) (G:Av d Γ.n=true)
  (I:∀ h r c,R h r c->r.L4 J=true/\Hp.L4 J c=true)
  (M:∀ h r c,R h r c->DS false Γ ops rest K (k+h) ((d,r.V2 (sig ρ J k))::L) ((c.map λp=>(sig ρ J k p.1,p.2.V2 (sig ρ J k)))++rl H (b.map λp=>ρ p.1))) :
  DS false Γ ops (⟨some d,.call { callee:=.value (.func f),args:=xs.toArray,argTypes:=j },ty,pos,af,g⟩::rest) K k L H:=by
 refine gj l λe a w m=>?_
 unfold Oper.wp;rw [io hc.1];rw [Oper.upon_enter];refine (hc.use ρ m u z A B C E F _ (o▸ga m xs q) I).mono ?_;rintro en w' ⟨h,r,c,v,e'',hR,rfl,hm,hrel⟩;exact⟨_,_,_,e'',hm.put (Ab G) hrel,M h r c hR⟩
def vd {P:Program} {f:FuncId} (hc:eu P f=true) (a:Act) (x:Operand) (b:List Value) (c:a.eval x=.func (.func f) #[] b.toArray) (xs:List Operand) (d:Array TypeId) (dst:Option Tmp) (ty:TypeId) (pos) (after) (guard) (w:World) :
  (execOp a.eval ⟨dst,.call { callee:=.value x,args:=xs.toArray,argTypes:=d },ty,pos,after,guard⟩).run P w=.ok (.enter f (xs.map a.eval++b).toArray) w:=by
 simp only [execOp,resolve];simp [c,Deferred.ofValue,invoke,I9 hc]
def mi {f:FuncId} {x:Operand} {caps:List SV} {xs:List Operand} {c:Array TypeId} {ty:TypeId} {g:Option (Nat×Bool)} {d:Nat} {args:List SV} {R:SV->Prop}
  (h:aj L x=.fn f caps) (i:de x=true) (j:ap ops L g=some true) (l:mt L xs++caps=args) (hc:I3 Γ.dr Γ.P Γ.τ Γ.τok f args R) (o:dz xs=true) (q:SV.U1 0 args=true) (u:Av d Γ.n=true)
  (z:∀ r,R r->DS false Γ ops rest K k ((d,r)::L) H) :
  DS false Γ ops (⟨some d,.call { callee:=.value x,args:=xs.toArray,argTypes:=c },ty,pos,af,g⟩::rest) K k L H:=by
 refine gj j λe a w m=>?_
 have b:=m.op x<|cd i;rw [h] at b;obtain⟨A,B,C⟩:=b;unfold Oper.wp;rw [vd hc.1 a x A B];rw [Oper.upon_enter];refine (hc.use (τ:=Γ.τ) (τok:=Γ.τok) (Γ:=Γ) m q _<|l▸O0.append _ _ _ _ (ga m xs o) C).mono ?_;rintro J M ⟨r,v,E,rfl,F,N,G⟩;exact⟨k,_,H,e,(m.below F).put (Ab u) (Rel.N1 (Af _) (λ_ _ _=>rfl) (λ_ _ I=>I) _ _ G),z r E⟩
def eC {f:FuncId} {x:Operand} {caps:List SV} {xs:List Operand} {l:Array TypeId} {ty:TypeId} {g:Option (Nat×Bool)} {d:Nat} {args:List SV} {J i:Nat} {b:Hp} {R:Nat->SV->Hp->Prop} (ρ:Nat->Nat)
  (hc:X1 Γ.dr Γ.P Γ.τ Γ.τok f args J i b R) (o:aj L x=.fn f caps) (q:de x=true) (u:ap ops L g=some true) (z:mt L xs++caps=SV.T4 ρ args) (A:dz xs=true) (B:SV.U1 i args=true) (C:N4 ρ H b) (E:Hp.low i b=true)
  (F:a8 (b.map λp=>ρ p.1)=true) (G:a8 (b.map (·.1))=true) (I:Cj J i=true) (M:Nb J (b.map (·.1))=true) (N:Av d Γ.n=true)
  (O:∀ h r c,R h r c->r.L4 J=true/\Hp.L4 J c=true)
  (Q:∀ h r c,R h r c->DS false Γ ops rest K (k+h) ((d,r.V2 (sig ρ J k))::L) ((c.map λp=>(sig ρ J k p.1,p.2.V2 (sig ρ J k)))++rl H (b.map λp=>ρ p.1))) :
  DS false Γ ops (⟨some d,.call { callee:=.value x,args:=xs.toArray,argTypes:=l },ty,pos,af,g⟩::rest) K k L H:=by
 refine gj u λe a w m=>?_
 have j:=m.op x<|cd q;rw [o] at j;obtain⟨S,T,U⟩:=j;unfold Oper.wp;rw [vd hc.1 a x S T];rw [Oper.upon_enter];refine (hc.use ρ m B C E F G I M _ (z▸O0.append _ _ _ _ (ga m xs A) U) O).mono ?_;rintro en w' ⟨h,r,c,v,e'',hR,rfl,hm,hrel⟩;exact⟨_,_,_,e'',hm.put (Ab N) hrel,Q h r c hR⟩
end
end
section
open Go Go.RowKit
variable [Y0]
section
variable {Γ : Ctx} {k : Nat} {L : Sl} {H : Hp} {K : cn} {ops : List Oper} {rest : List Oper} {a : Act} {w : World} {e : Env}
end
section
variable {Γ : Ctx} {k : Nat -> Prop} {L : Sl} {H : Hp} {K : cn} {ops : List Oper} {rest : List Oper} {a : Act} {w : World} {e : Env}
def iE {f : FuncId} {b : Func} {x y : Operand} {l : Array TypeId} {ty : TypeId} {s : ByteArray} {c : Int} (n : Γ.P.funcs[f]?=some b) (o : (b.name == "runtime.NumGoroutine")=false)
  (hb:b.body.isNone=true) (q:Extern.findNext b=none) (r:Extern.find b=some Extern.BytealgIndexByte.indexByte)
  (j:aj L x=.d (.str s)) (u:de x=true) (z:aj L y=.d (.int .u8 c)):Ev Γ k L H (.call { callee:=.value (.func f),args:=#[x,y],argTypes:=l }) ty (.d (.int .i64 (firstIdx s c.toNat.toUInt8))):=by
 intro e a w m;have C:s.size<=maxLen:=by
  have g:=m.op x (cd u);rw [j] at g;generalize a.eval x=v at g;cases g;assumption
 refine⟨.int .i64 (firstIdx s c.toNat.toUInt8),λE pos F guard A _=>?_,.int ?_⟩
 ·have h:=run_callFunc_extern (P:=Γ.P) n o hb q r #[.string s,.int .u8 c] A;rw [run_indexByte_string] at h;simp [execOp,resolve,Deferred.ofValue,invoke,pP m j,R8 m z];exact h
 ·unfold firstIdx;have G:maxLen=9223372036854775807:=rfl;split
  ·rename_i i B;have:=List.mem_of_find?_eq_some B
   rw [List.mem_range] at this;exact WalkArith.wf_i64 (by omega)
  ·rfl
def sH {f:FuncId} {xs:List Operand} {caps:List SV} {ty:TypeId} (b:mt L xs=caps) (c:dz xs=true):Ev Γ k L H (.makeFunc (.func f) #[] xs.toArray) ty (.fn f caps):=by
 intro e a w m;refine⟨.func (.func f) #[] (xs.map a.eval).toArray,λ_ _ _ _ d _=>?_,⟨_,rfl,b▸ga m xs c⟩⟩
 simp [execOp,Instr.makeFunc]
end
end
section
open Go Go.RowKit
variable [Y0]
abbrev Pv:=Option (Prop×SV)
def rz {α:Type} (s:SV) (k:SV->α):α:=match s with
 | .V1=>k .V1
 | .d x=>k<|.d x
 | .Q1=>k .Q1
 | .pd h=>k<|.pd h
 | .loc i o=>k<|.loc i o
 | .row i=>k<|.row i
 | .mp i=>k<|.mp i
 | .md l m=>k<|.md l m
 | .P3 i j b o=>k<|.P3 i j b o
 | .sl i o n c=>k<|.sl i o n c
 | .R5 i b j n=>k<|.R5 i b j n
 | .rg B q x=>k<|.rg B q x
 | .fn f c=>k<|.fn f c
 | .agg g=>k<|.agg g
 | .M2 g=>k<|.M2 g
 | .val v=>k<|.val v
def mf {α:Type} (s:SV) (k:SV->α):rz s k=k s:=by cases s<;>rfl
def tc {α:Type}:List SV->(List SV->α)->α
 | [],k=>k []
 | s::b,k=>rz s λv=>tc b λc=>k (v::c)
def il {α:Type}:∀ (ss:List SV) (k:List SV->α),tc ss k=k ss
 | [],_=>rfl
 | s::ss,k=>by simp only [tc,mf,il ss]
def Wn:IntKind->IntKind->Bool
 | .i8,.i8|.i16,.i16|.i32,.i32|.i64,.i64|.u8,.u8|.u16,.u16|.u32,.u32|.u64,.u64=>true
 | _,_=>false
def qa:∀ {i j:IntKind},Wn i j=true->i=j:=by intro i j h;cases i<;>cases j<;>first|rfl|(simp [Wn] at h)
def yu (i:IntKind) (r:Int):Pv:=match i with
 | .i64=>some (-9223372036854775808<=r/\r<=9223372036854775807,.d<|.int .i64 r)
 | i=>some (True,.d<|.int i<|i.wrap r)
def pX:Sh->D->D->Option Bool
 | .int k,.int i n,.int j m=>match Wn k i&&Wn k j with
  | true=>some (decide (n=m))
  | false=>none
 | .bool,.bool b,.bool c=>some (b==c)
 | .str,.str s,.str u=>some (decide (s=u))
 | _,_,_=>none
def DH (τ:List (Nat×TI)):List (Nat×TypeId×Nat)->Nat->List SV->List SV->Option Bool
 | [],_,[],[]=>some true
 | (off,c,_)::l,o,.d x::a,.d y::b=>match Az off o with
  | true=>match pX (ai τ c).sh x y,DH τ l (o+1) a b with
   | some p,some q=>some (p&&q)
   | _,_=>none
  | false=>none
 | _,_,_,_=>none
def NI (i:IntKind) (n:Int) (m:Int):Int:=i.wrap<|n*2 ^ min m.toNat i.bits
def ZC (i:IntKind) (n:Int) (m:Int):Int:=n.fdiv<|2 ^ min m.toNat i.bits
def cZ (i:IntKind) (n m:Int):Int:=i.wrap (((n%((2 ^ i.bits:Nat):Int)).toNat ||| (m%((2 ^ i.bits:Nat):Int)).toNat:Nat):Int)
def SX (i:IntKind) (n m:Int):i.wrap (BitVec.ofInt i.bits n ||| BitVec.ofInt i.bits m).toNat=cZ i n m:=by unfold cZ;rw [BitVec.toNat_or,BitVec.toNat_ofInt,BitVec.toNat_ofInt]
def OY (τ:List (Nat×TI)) (t:TypeId) (op:BinOp):SV->SV->Pv
 | .d (.int i n),.d (.int j m)=>match op with
  | .shl=>some (0<=m,.d (.int i (NI i n m)))
  | .shr=>some (0<=m,.d (.int i (ZC i n m)))
  | _=>match Wn i j with
  | true=>match op with
   | .lss=>some (True,.d (.bool (decide (n<m))))
   | .leq=>some (True,.d (.bool (decide (n<=m))))
   | .gtr=>some (True,.d (.bool (decide (m<n))))
   | .geq=>some (True,.d (.bool (decide (m<=n))))
   | .eql=>some (True,.d (.bool (decide (n=m))))
   | .neq=>some (True,.d (.bool (decide (n≠m))))
   | .add=>yu i (n+m)
   | .sub=>yu i (n-m)
   | .mul=>yu i (n*m)
   | .or=>some (True,.d (.int i (cZ i n m)))
   | .quo=>match yu i (n.tdiv m) with
    | some (p,s)=>some (m≠0/\p,s)
    | none=>none
   | .rem=>some (m≠0,.d (.int i (n.tmod m)))
   | _=>none
  | false=>none
 | .d (.str s),.d (.str u)=>match op with
   | .eql=>some (True,.d (.bool (decide (s=u))))
   | .neq=>some (True,.d (.bool (decide (s≠u))))
   | .add=>some (s.size+u.size<=maxLen,.d (.str (s++u)))
   | _=>none
 | .d (.bool b),.d (.bool c)=>match (ai τ t).sh with
   | .bool=>match op with
    | .eql=>some (True,.d (.bool (b==c)))
    | .neq=>some (True,.d (.bool (b != c)))
    | _=>none
   | _=>none
 | .agg a,.agg b=>match (ai τ t).sh,(ai τ t).eqs with
   | .struct l,true=>match DH τ l 0 a b with
    | some r=>match op with
     | .eql=>some (True,.d (.bool r))
     | .neq=>some (True,.d (.bool (!r)))
     | _=>none
    | none=>none
   | _,_=>none
 | _,_=>none
abbrev q8 (xs:List (List D)) (n:Nat):List D:=xs.getD n []
def vq (τ:List (Nat×TI)) (t:TypeId) (s:SV) (f:Nat->Option HB):Pv:=match s with
 | .pd b=>match (ai τ t).sh with
  | .other=>none
  | .struct _=>match Cj (ai τ t).cells b.length with
   | true=>tc ((b.take (ai τ t).cells).map .d) λl=>some (True,.agg l)
   | false=>none
  | _=>match b with
   | d0::_=>some (True,.d d0)
   | []=>none
 | .loc i o=>match f i with
  | some (.M1 _ c)=>match (ai τ t).sh with
   | .other=>none
   | .struct _=>match Cj (o+(ai τ t).cells) c.length with
    | true=>tc ((c.drop o).take (ai τ t).cells) λl=>some (True,.agg l)
    | false=>none
   | _=>match c[o]? with
    | some s=>rz s λv=>some (True,v)
    | none=>none
  | _=>none
 | _=>none
def lK (τ:List (Nat×TI)) (s:TypeId) (f:Nat) (v:SV):Pv:=match (ai τ s).sh with
 | .struct l=>match l[f]? with
  | some (off,_,b)=>match Az b 0 with
   | false=>match v with
    | .pd c=>some (True,.pd<|c.drop off)
    | .loc i o=>some (True,.loc i<|o+off)
    | .P3 i j d o=>some (True,.P3 i j d<|o+off)
    | _=>none
   | true=>none
  | none=>none
 | _=>none
def YJ (τ:List (Nat×TI)) (t:TypeId) (a b:SV):Pv:=match (ai τ t).sh with
 | .slice f=>match a,b with
  | .d (.slice g c),.d (.int .i64 n)=>match Az (ai τ f).cells g&&(ai τ f).sh.known with
   | true=>some (0<=n/\n.toNat<c.length,.pd<|q8 c n.toNat)
   | false=>none
  | .d (.own _<|.slice g c),.d (.int .i64 n)=>match Az (ai τ f).cells g&&(ai τ f).sh.known with
   | true=>some (0<=n/\n.toNat<c.length,.pd<|q8 c n.toNat)
   | false=>none
  | .rg _ 0 (.slice g c),.d (.int .i64 n)=>match Az (ai τ f).cells g&&(ai τ f).sh.known with
   | true=>some (0<=n/\n.toNat<c.length,.pd<|q8 c n.toNat)
   | false=>none
  | _,_=>none
 | _=>none
def Jr (τ:List (Nat×TI)) (t:TypeId) (ds:List D) (o:Nat):SV:=match vq τ t (.pd<|ds.drop o) (λ_=>none) with
 | some (_,s)=>s
 | none=>.V1
def Kw (τ:List (Nat×TI)) (t:TypeId) (s:SV) (b:Nat->Option HB):Pv:=match s with
 | .P3 i j c o=>match b i with
  | some (.row _ f d)=>match Az c f&&((ai τ t).sh.known&&(Av 0 (ai τ t).cells&&Cj (o+(ai τ t).cells) c)) with
   | true=>some (j<d.length,Jr τ t (q8 d j) o)
   | false=>none
  | _=>none
 | s=>vq τ t s b
def Yl (τ:List (Nat×TI)) (t:TypeId) (a b:SV) (h:Nat->Option HB):Pv:=match a with
 | .row i=>match (ai τ t).sh,b,h i with
  | .slice c,.d (.int .i64 n),some (.row _ f l)=>match Az (ai τ c).cells f&&(ai τ c).sh.known with
   | true=>some (0<=n/\n.toNat<l.length,.P3 i n.toNat f 0)
   | false=>none
  | _,_,_=>none
 | .sl i o g _=>match (ai τ t).sh,b with
  | .slice c,.d (.int .i64 n)=>match (ai τ c).sh.known with
   | true=>some (0<=n/\n.toNat<g,.loc i<|o+n.toNat*(ai τ c).cells)
   | false=>none
  | _,_=>none
 | .R5 i f j g=>match (ai τ t).sh,b with
  | .slice c,.d (.int .i64 n)=>match Az (ai τ c).cells f&&(ai τ c).sh.known with
   | true=>some (0<=n/\n.toNat<g,.P3 i (j+n.toNat) f 0)
   | false=>none
  | _,_=>none
 | a=>YJ τ t a b
def sat (s:ByteArray) (i:Nat):Int:=if h:i<s.size then ((s[i]'h).toNat:Int) else 0
def dR {s:ByteArray} {i:Nat} (h:i<s.size):sat s i=((s[i]'h).toNat:Int):=by unfold sat;rw [dif_pos h]
def HI (τ:List (Nat×TI)) (t:TypeId) (a b:SV):Pv:=match (ai τ t).sh with
 | .str=>match a,b with
  | .d (.str s),.d (.int .i64 n)=>some (0<=n/\n.toNat<s.size,.d<|.int .u8<|sat s n.toNat)
  | _,_=>none
 | _=>none
def rO (τ:List (Nat×TI)) (t:TypeId) (a:SV) (c:Nat->Option HB):Pv:=match (ai τ t).sh with
 | .slice _=>match a with
  | .d (.slice _ b)=>some (True,.d<|.int .i64 b.length)
  | .d (.own _<|.slice _ b)=>some (True,.d<|.int .i64 b.length)
  | .Q1=>some (True,.d<|.int .i64 0)
  | .row i=>match c i with
   | some (.row _ _ b)=>some (True,.d<|.int .i64 b.length)
   | _=>none
  | .sl _ _ n _=>some (True,.d<|.int .i64 n)
  | .R5 _ _ _ n=>some (True,.d<|.int .i64 n)
  | _=>none
 | .str=>match a with
  | .d (.str s)=>some (True,.d<|.int .i64 s.size)
  | _=>none
 | _=>none
def yb:Option SV->Option Int
 | none=>some 0
 | some (.d (.int .i64 n))=>some n
 | _=>none
def ks (b:Nat):Option SV->Option Int
 | none=>some b
 | some (.d (.int .i64 n))=>some n
 | _=>none
def Pk (τ:List (Nat×TI)) (t:TypeId) (a:SV) (lo hi:Option SV) (h:Nat->Option HB):Pv:=match (ai τ t).sh with
 | .str=>match a with
  | .d (.str s)=>match yb lo,ks s.size hi with
   | some n,some m=>some (0<=n/\n<=m/\m<=s.size,.d<|.str<|s.extract n.toNat m.toNat)
   | _,_=>none
  | _=>none
 | .slice b=>match a with
  | .sl i o g cap=>match yb lo,ks g hi,(ai τ b).sh.known with
   | some n,some m,true=>some (0<=n/\n<=m/\m<=cap,.sl i (o+n.toNat*(ai τ b).cells) (m.toNat-n.toNat)<|cap-n.toNat)
   | _,_,_=>none
  | .Q1=>match yb lo,ks 0 hi,(ai τ b).sh.known with
   | some n,some m,true=>some (n=0/\m=0,.Q1)
   | _,_,_=>none
  | .d (.slice c f)=>match yb lo,ks f.length hi,Az (ai τ b).cells c&&(ai τ b).sh.known with
   | some n,some m,true=>some (0<=n/\n<=m/\m<=f.length,.d<|.slice c<|(f.take m.toNat).drop n.toNat)
   | _,_,_=>none
  | .row i=>match h i with
   | some (.row _ c f)=>match yb lo,ks f.length hi,Az (ai τ b).cells c&&(ai τ b).sh.known with
    | some n,some m,true=>some (0<=n/\n<=m/\m<=f.length,.R5 i c n.toNat<|m.toNat-n.toNat)
    | _,_,_=>none
   | _=>none
  | .R5 i c j g=>match yb lo,ks g hi,Az (ai τ b).cells c&&(ai τ b).sh.known with
   | some n,some m,true=>some (0<=n/\n<=m/\m<=g,.R5 i c (j+n.toNat)<|m.toNat-n.toNat)
   | _,_,_=>none
  | _=>none
 | _=>none
def OM:List D->UInt8
 | [.int .u8 n]=>UInt8.ofNat n.toNat
 | _=>0
def pq (xs:List (List D)):ByteArray:=⟨(xs.map OM).toArray⟩
def yy (xs:List (List D)):Prop:=∀ x∈xs,∃ n,x=[D.int .u8 n]
def jC (τ:List (Nat×TI)) (s d:TypeId) (a:SV) (g:Nat->Option HB):Pv:=match (ai τ s).sh,(ai τ d).sh,a with
 | .int .u8,.int .i64,.d (.int .u8 n)=>some (0<=n/\n<=255,.d<|.int .i64 n)
 | .int .u8,.str,.d (.int .u8 n)=>some (0<=n/\n<128,.d<|.str ⟨#[UInt8.ofNat n.toNat]⟩)
 | .int k,.int j,.d (.int i n)=>match Wn k i with
  | true=>yu j n
  | false=>none
 | .slice c,.str,.d (.slice f b)=>match (ai τ c).sh,Az f 1 with
  | .int .u8,true=>some (yy b,.d<|.str<|pq b)
  | _,_=>none
 | .slice c,.str,.row i=>match (ai τ c).sh,g i with
  | .int .u8,some (.row _ f b)=>match Az f 1 with
   | true=>some (yy b,.d<|.str<|pq b)
   | false=>none
  | _,_=>none
 | _,_,_=>none
def Z7 (τ:List (Nat×TI)) (g:Operand->SV) (h:Nat->Option HB):Op->Pv
 | .move x=>rz (g x) λv=>some (True,v)
 | .assign x=>rz (g x) λv=>some (True,v)
 | .pick c a b=>match g c with
  | .d (.bool true)=>rz (g a) λv=>some (True,v)
  | .d (.bool false)=>rz (g b) λv=>some (True,v)
  | _=>none
 | .binOp q t x y _=>OY τ t q (g x) (g y)
 | .unOp .not _ x=>match g x with
  | .d (.bool b)=>some (True,.d (.bool (!b)))
  | _=>none
 | .load t x=>Kw τ t (g x) h
 | .fieldAddr s x f=>lK τ s f (g x)
 | .indexAddr t x y=>Yl τ t (g x) (g y) h
 | .index t x y=>HI τ t (g x) (g y)
 | .call { callee:=.builtin .len,args,argTypes }=>match args.toList,argTypes.toList with
  | [x],[t]=>rO τ t (g x) h
  | _,_=>none
 | .slice t x lo r none=>Pk τ t (g x) (lo.map g) (r.map g) h
 | .convert s d x=>jC τ s d (g x) h
 | .nilCheck x=>match g x with
  | .pd m=>some (True,.pd m)
  | .d (.ptr m)=>some (True,.pd m)
  | .loc i o=>some (True,.loc i o)
  | .P3 i j u o=>some (True,.P3 i j u o)
  | _=>none
 | .extract x i=>match g x with
  | .M2 z=>match z[i]? with
   | some s=>rz s λv=>some (True,v)
   | none=>none
  | _=>none
 | .makeFunc (.func f) first A=>match first.toList with
  | []=>tc (A.toList.map g) λl=>some (True,.fn f l)
  | _=>none
 | .build n B=>match (ai τ n).sh with
  | .struct l=>match re τ l&&gp (ai τ n).zero with
   | true=>match qm (zt l) (o6 τ n) (B.toList.map λp=>(p.1,g p.2)) with
    | some C=>tc C λl=>some (True,.agg l)
    | none=>none
   | false=>none
  | _=>none
 | _=>none
def cx (op:Op):Bool:=op.operands.toList.all de
section
variable {Γ : Ctx} {k : Nat -> Prop} {L : Sl} {H : Hp} {a : Act} {w : World} {e : Env} {t t' ty : TypeId} {x y : Operand} {p : Prop} {s : SV}
def Rz {i:IntKind} {r:Int} (h:yu i r=some (p,s)):(i=.i64/\p=(-9223372036854775808<=r/\r<=9223372036854775807)/\s=.d (.int .i64 r))∨s=.d (.int i (i.wrap r)):=by cases i<;>simp only [yu,Option.some.injEq,Prod.mk.injEq] at h<;>first|(exact .inr h.2.symm)|(exact .inl ⟨rfl,h.1.symm,h.2.symm⟩)
def Ui {op:BinOp} {i:IntKind} {n m' r:Int} (b:aj L x=.d (.int i n)) (c:aj L y=.d (.int i m')) (f:∀ P w,(binOp op t (.int i n) (.int i m')).run P w=.ok (.int i (i.wrap r)) w)
  (h:yu i r=some (p,s)) (g:p):Ev Γ k L H (.binOp op t x y t') ty s:=by
 rcases Rz h with ⟨rfl,rfl,rfl⟩|rfl
 ·exact jo b c f λ_ _ _=>by rw [IntWalk.i64_in _ g];exact .int<|WalkArith.wf_i64 g
 ·exact jo b c f λ_ _ _=>.int<|wf_wrap i r
def xY {u v:ByteArray} (b:aj L x=.d (.str u)) (c:aj L y=.d (.str v)) (h:u.size+v.size<=maxLen):Ev Γ k L H (.binOp .add t x y t') ty (.d (.str (u++v))):=by
 intro e a w m;refine⟨_,λ_ _ _ _ g _=>?_,.str<|by rw [ByteArray.size_append];exact h⟩
 have f:¬ (((u.size+v.size:Nat):Int) > IntKind.i64.max):=by
  unfold maxLen at h;show ¬ (((u.size+v.size:Nat):Int) > 9223372036854775807);omega
 simp only [execOp,pP m b,pP m c];simp only [binOp,Op.stringOp];rw [if_neg f];simp [eqGuard]
def vT {b c:Bool} (g:Γ.sh t=.bool) (i:aj L x=.d (.bool b)) (j:aj L y=.d (.bool c)):Ev Γ k L H (.binOp .eql t x y t') ty (.d (.bool (b==c)))/\Ev Γ k L H (.binOp .neq t x y t') ty (.d (.bool (b != c))):=by
 have l:Γ.P.underlying t=some .bool:=by
  obtain⟨u,q,z,n,_,_,o,_⟩:=jf (Γ.ti<|by rw [g];intro h;cases h);rw [n];have:o7 Γ.P u=.bool:=o▸g
  cases u<;>simp [o7] at this ⊢
 constructor
 ·intro e a w m;refine⟨.bool (b==c),λ_ _ _ _ f _=>?_,.bool⟩
  simp only [execOp,yY m i,yY m j];simp [eqGuard,binOp,run_equal_bool f t b c l]
 ·intro e a w m;refine⟨.bool (b != c),λ_ _ _ _ f _=>?_,.bool⟩
  simp only [execOp,yY m i,yY m j];simp [eqGuard,binOp,run_equal_bool f t b c l,bne]
def xW {X e w} {p:Bool} {x y:D} {v u:Value} {f:TypeDesc} {w':World} (t1:Γ.P.underlying t=some f) (b:pX (o7 Γ.P f) x y=some p) (g:Rel X e w (.d x) v) (h:Rel X e w (.d y) u):(Op.equalIn 9999 t v u).run Γ.P w'=.ok p w':=by
 cases f with
 | int k =>
  simp only [o7] at b;unfold pX at b;split at b
  ·rename_i r i n j m c;injection c with c
   subst c;split at b
   ·rename_i l;simp only [Ae] at l;have o:=qa l.1;have q:=qa l.2;subst o;subst q;cases b;cases g;cases h;rw [run_equalIn_int w' 9998 t _ _ n m t1];rfl
   ·cases b
  ·rename_i c;cases c
  ·rename_i c;cases c
  ·cases b
 | bool =>
  simp only [o7] at b;unfold pX at b;split at b
  ·rename_i c;cases c
  ·cases b;cases g;cases h;rw [run_equalIn_bool w' 9998 t _ _ t1]
  ·rename_i c;cases c
  ·cases b
 | string =>
  simp only [o7] at b;unfold pX at b;split at b
  ·rename_i c;cases c
  ·rename_i c;cases c
  ·cases b;cases g;cases h;rw [run_equalIn_string w' 9998 t _ _ t1,QC]
  ·cases b
 | _=>simp [o7,pX] at b
def CH {X e w}:∀ (g:List Field) (l:List (Nat×TypeId×Nat)) (o:Nat) (a b:List SV) (pre d vs c:List Value) (r:Bool) (w':World),l=(g.map λf=>(f.offset,f.type,((Γ.P.info? f.type).map (·.size)).getD 0))->pre.length=o->d.length=o ->
  O0 X e w a vs -> O0 X e w b c -> DH Γ.τ l o a b=some r -> (g.all λf => f.name != "_")=true -> (Op.eqFields 9999 (pre++vs).toArray (d++c).toArray g).run Γ.P w'=.ok r w'
 | [],l,o,a,b,pre,d,vs,c,r,w',A,_,_,_,_,h,_=>by
  subst A;cases a<;>cases b<;>simp [DH] at h
  subst h;simp [Op.eqFields]
 | f::g,l,o,a,b,pre,d,vs,c,r,w',A,G,I,j,m,h,B=>by
  subst A;simp only [A3] at h;simp only [Dx,Ae] at B;cases a with
  | nil=>simp [DH] at h
  | cons x a =>
   cases b with
   | nil=>cases x<;>simp [DH] at h
   | cons y b =>
    cases x<;>cases y<;>simp only [DH] at h<;>try cases h
    rename_i x y;cases vs with
    | nil=>exact j.elim
    | cons v vs =>
     cases c with
     | nil=>exact m.elim
     | cons u c =>
      obtain⟨M,j⟩:=j;obtain⟨N,m⟩:=m;split at h
      ·rename_i n;have n:=Ao n;split at h
       ·rename_i p q i O;cases h;have ih:=CH g _ (o+1) a b (pre++[v]) (d++[u]) vs c q w' rfl (by simp [G]) (by simp [I]) j m O B.2;simp only [Bm,List.singleton_append] at ih;have C:(Γ.sh f.type)≠.other:=by
         intro E;have E:(ai Γ.τ f.type).sh=.other:=E;rw [E] at i;simp [pX] at i
        have J:(Γ.sh f.type).isAgg=false:=by
         show (ai Γ.τ f.type).sh.isAgg=false;cases Q:(ai Γ.τ f.type).sh<;>rw [Q] at i<;>first|rfl|(simp [pX] at i)
        obtain⟨V,W,z,t1,_,_,t4,_⟩:=jf (Γ.ti C);have R:(part f.type (pre++v::vs).toArray f.offset).run Γ.P w'=.ok v w':=by
         have F:(pre++v::vs).toArray[f.offset]?=some v:=by simp [n,<- G]
         unfold part;simp [Ctx.agg C,J,F]
        have S:(part f.type (d++u::c).toArray f.offset).run Γ.P w'=.ok u w':=by
         have F:(d++u::c).toArray[f.offset]?=some u:=by simp [n,<- I]
         unfold part;simp [Ctx.agg C,J,F]
        have T:(Op.equalIn 9999 f.type v u).run Γ.P w'=.ok p w':=by
         exact xW t1 (t4▸i) M N
        have U : f.name ≠ "_" := by simpa using B.1
        simp only [Op.eqFields,if_pos U,Sem.run_bind,R,S,T,Result.andThen_ok];cases p
        ·simp
        ·simp only [Bool.not_true,Bool.false_eq_true,if_false,Bool.true_and];exact ih
       ·cases h
      ·cases h
def xH {l} {i b':List SV} {r:Bool} (u:Γ.sh t=.struct l) (E:(ai Γ.τ t).eqs=true) (F:aj L x=.agg i) (G:aj L y=.agg b') (I:DH Γ.τ l 0 i b'=some r) :
  Ev Γ k L H (.binOp .eql t x y t') ty (.d (.bool r))/\Ev Γ k L H (.binOp .neq t x y t') ty (.d (.bool (!r))):=by
 have J:Γ.sh t≠.other:=by rw [u];intro h;cases h
 obtain⟨v,j,M⟩:=Ctx.struct u;obtain⟨_,_,_,_,_,_,_,_,_,_,g⟩:=jf<|Γ.ti J;rw [E] at g;unfold SD at g;rw [j] at g;simp only [Bool.true_eq,Ae,D7] at g;obtain⟨N,z,O⟩:=g;have B:Γ.P.fieldsOf t=v:=by unfold Program.fieldsOf;rw [j]
 have C:∀ (e:Env) (A:Act) (w b:World),J0 Γ k L H e A w->∃ c f,A.eval x=.agg c/\A.eval y=.agg f/\(Op.equalIn 10000 t (.agg c)<|.agg f).run Γ.P b=.ok r b:=by
  intro e A w b m;obtain⟨c,Q,R⟩:=Q5 m F (NM · _);obtain⟨f,S,T⟩:=Q5 m G (NM · _);refine⟨_,_,Q,S,?_⟩
  rw [run_equalIn_struct b 9999 t _ _ (by rw [B];exact j) N,B];exact CH v.toList l 0 i b' [] [] c f r b M rfl rfl R T I<|by simpa using O
 constructor
 ·intro e A w m;refine⟨.bool r,λ_ _ _ _ b _=>?_,.bool⟩
  obtain⟨c,f,n,o,q⟩:=C e A w b m;simp only [execOp,n,o,Sem.run_bind,run_eqGuard_agg b .eql t x y c f z,Result.andThen_ok,run_eql_struct,q];simp
 ·intro e A w m;refine⟨.bool (!r),λ_ _ _ _ b _=>?_,.bool⟩
  obtain⟨c,f,n,o,q⟩:=C e A w b m;simp only [execOp,n,o,Sem.run_bind,run_eqGuard_agg b .neq t x y c f z,Result.andThen_ok,run_neq_struct,q];simp
def mY {i j:IntKind} {n m':Int} (b:aj L x=.d (.int i n)) (c:aj L y=.d (.int j m')) (g:0<=m'):Ev Γ k L H (.binOp .shl t x y t') ty (.d (.int i (NI i n m'))):=by
 intro e a w m;refine⟨.int i (NI i n m'),λ_ _ _ _ h _=>?_,.int<|wf_wrap i _⟩
 simp only [execOp,R8 m b,R8 m c];have f:eqGuard .shl t x y (Value.int i n) (Value.int j m')=pure ():=by unfold eqGuard;split<;>rfl
 simp [f,binOp,Op.shift,show ¬ m'<0 by omega,NI]
def tW {n:Int} {d:Nat} (c:0<d):(0<=n->0<=n.fdiv d/\n.fdiv d<=n)/\(n<0->n<=n.fdiv d/\n.fdiv d<0):=by
 have b:(0:Int)<(d:Int):=by omega
 rw [Int.fdiv_eq_ediv_of_nonneg _<|by omega];constructor
 ·intro h;exact⟨Ez h (by omega),Int.ediv_le_self _ h⟩
 ·intro h;refine⟨?_,Int.ediv_neg_of_neg_of_pos h b⟩
  rw [Int.le_ediv_iff_mul_le b];have:n*d<=n*1:=Int.mul_le_mul_of_nonpos_left (by omega)<|by omega
  omega
def LA {i:IntKind} {n r:Int} (h:(Lit.int i n).wf=true) (h1:0<=n->0<=r/\r<=n) (b:n<0->n<=r/\r<=0):(Lit.int i r).wf=true:=by cases i<;>simp [Lit.wf,IntKind.min,IntKind.max,IntKind.bits,IntKind.signed] at h ⊢<;>omega
def lY {i j:IntKind} {n m':Int} (b:aj L x=.d (.int i n)) (f:aj L y=.d (.int j m')) (g:de x=true) (q:0<=m'):Ev Γ k L H (.binOp .shr t x y t') ty (.d (.int i (ZC i n m'))):=by
 intro e a w m;refine⟨.int i (ZC i n m'),λ_ _ _ _ r _=>?_,.int ?_⟩
 ·simp only [execOp,R8 m b,R8 m f];have l:eqGuard .shr t x y (Value.int i n) (Value.int j m')=pure ():=by unfold eqGuard;split<;>rfl
  simp [l,binOp,Op.shift,show ¬ m'<0 by omega,ZC]
 ·have o:=qP m g b;have c:=tW (n:=n) (d:=2 ^ min m'.toNat i.bits)<|Nat.two_pow_pos _;unfold ZC;refine LA o (λh=>?_)<|λh=>?_
  ·simpa using c.1 h
  ·have:=c.2 h
   push_cast at this ⊢
   omega
def nY {i:IntKind} {n m':Int} (o:aj L x=.d (.int i n)) (r:aj L y=.d (.int i m')) (u:de x=true) (v:m'≠0):Ev Γ k L H (.binOp .rem t x y t') ty (.d (.int i (n.tmod m'))):=by
 intro e a w m;refine⟨.int i (n.tmod m'),λ_ _ _ _ B _=>?_,.int ?_⟩
 ·simp only [execOp,R8 m o,R8 m r];have z:eqGuard .rem t x y (Value.int i n) (Value.int i m')=pure ():=by unfold eqGuard;split<;>rfl
  simp [z,binOp,Op.intDiv,v]
 ·refine LA (qP m u o) (λh=>?_)<|λh=>?_
  ·refine⟨Ih _ h,?_⟩
   have f:=F3 (b:=m') h;have A:n.tmod m'=n%m':=f;rw [A];rcases Int.lt_or_le 0 m' with g|g
   ·have:=Ek n m'
    have j:0<=m'*(n/m'):=F4 (by omega) (Ez h<|by omega);omega
   ·have l:n%m'=n%(-m'):=(Int.emod_neg n m').symm;rw [l];have:=Ek n (-m')
    have j:0<=(-m')*(n/(-m')):=F4 (by omega) (Ez h<|by omega);omega
  ·have e0:n.tmod m' = -((-n).tmod m'):=by rw [Int.neg_tmod];omega
   have c:0<=-n:=by omega
   have f:=F3 (b:=m') c;have q:=Ih m' c;rw [e0];rw [f] at q ⊢;rcases Int.lt_or_le 0 m' with g|g
   ·have:=Ek (-n) m'
    have j:0<=m'*(-n/m'):=F4 (by omega) (Ez c<|by omega);omega
   ·have l:-n%m' = -n%(-m'):=(Int.emod_neg (-n) m').symm;rw [l] at q ⊢;have:=Ek (-n) (-m')
    have j:0<=(-m')*(-n/(-m')):=F4 (by omega) (Ez c<|by omega);omega
def RK {op:BinOp} (h:OY Γ.τ t op (aj L x) (aj L y)=some (p,s)) (g:p) (o:de x=true):Ev Γ k L H (.binOp op t x y t') ty s:=by
 unfold OY at h;split at h
 ·rename_i i n j A d f;split at h
  ·cases h;exact mY d f g
  ·cases h;exact lY d f o g
  split at h
  ·rename_i B;have:=qa B
   subst this;split at h
   ·cases h;exact rY d f
   ·cases h;exact sY d f
   ·cases h;exact tY d f
   ·cases h;exact uY d f
   ·cases h;exact wY d f
   ·cases h;exact qY d f
   ·exact Ui d f (λP w=>by simp [binOp,Op.intArith]) h g
   ·exact Ui d f (λP w=>by simp [binOp,Op.intArith]) h g
   ·exact Ui d f (λP w=>by simp [binOp,Op.intArith]) h g
   ·cases h;refine jo d f (v:=.int i<|cZ i n A) (λP w=>?_) λ_ _ _=>.int (wf_wrap i _)
    rw [<- SX];simp [binOp,Op.intBits]
   ·split at h
    ·rename_i E F C;cases h;exact Ui d f (λP w=>by simp [binOp,Op.intDiv,g.1]) C g.2
    ·cases h
   ·cases h;exact nY d f o g
   ·cases h
  ·cases h
 ·rename_i u v d f;split at h
  ·cases h;exact vY d f
  ·cases h;exact pY d f
  ·cases h;exact xY d f g
  ·cases h
 ·rename_i b c d f;split at h
  ·rename_i m;split at h
   ·cases h;exact (vT (Γ:=Γ) m d f).1
   ·cases h;exact (vT (Γ:=Γ) m d f).2
   ·cases h
  ·cases h
 ·rename_i a b d f;split at h
  ·rename_i l m q;split at h
   ·rename_i r z;split at h
    ·cases h;exact (xH (Γ:=Γ) m q d f z).1
    ·cases h;exact (xH (Γ:=Γ) m q d f z).2
    ·cases h
   ·cases h
  ·cases h
 ·cases h
def DG (h:vq Γ.τ t (aj L x) (Hp.get H)=some (p,s)):Ev Γ k L H (.load t x) ty s:=by
 simp only [vq,mf,il] at h;split at h
 ·rename_i r b;split at h
  ·cases h
  ·rename_i l d;split at h
   ·rename_i f;cases h;exact Vx (Γ:=Γ) d b f
   ·cases h
  ·rename_i j m;split at h
   ·cases h;have c:(Γ.sh t).known=true/\(Γ.sh t).isAgg=false:=by
     show (ai Γ.τ t).sh.known=true/\(ai Γ.τ t).sh.isAgg=false;generalize (ai Γ.τ t).sh=q at *;cases q<;>simp_all [Sh.known,Sh.isAgg]
    exact nK c.1 c.2 b
   ·cases h
 ·rename_i i o b;split at h
  ·rename_i u v g;split at h
   ·cases h
   ·rename_i l d;split at h
    ·rename_i f;cases h;exact Qq (Γ:=Γ) d b g f
    ·cases h
   ·rename_i j m;split at h
    ·rename_i z n;cases h;have c:(Γ.sh t).known=true/\(Γ.sh t).isAgg=false:=by
      show (ai Γ.τ t).sh.known=true/\(ai Γ.τ t).sh.isAgg=false;generalize (ai Γ.τ t).sh=q at *;cases q<;>simp_all [Sh.known,Sh.isAgg]
     exact tH c.1 c.2 b g n
    ·cases h
  ·cases h
 ·cases h
def TD {f:Nat} (h:lK Γ.τ t f (aj L x)=some (p,s)):Ev Γ k L H (.fieldAddr t x f) ty s:=by
 unfold lK at h;split at h
 ·rename_i l c;split at h
  ·rename_i off m n d;split at h
   ·rename_i g;split at h
    ·rename_i q b;cases h;exact Rp (Γ:=Γ) c d g b
    ·rename_i i o b;cases h;exact jE (Γ:=Γ) c d g b
    ·rename_i i j r o b;cases h;exact zA (Γ:=Γ) c d g b
    ·cases h
   ·cases h
  ·cases h
 ·cases h
def MM (v:Value) (B:Nat) (x:D):S6 v≠.d (.own B x):=by unfold S6;split<;>simp
def Pg (v:Value) (B q:Nat) (x:D):S6 v≠.rg B q x:=by unfold S6;split<;>simp
def eE {B es:Nat} {xs:List (List D)} {n:Int} (c:Γ.sh t=.slice t') (hc:Γ.cells t'=es) (f:(Γ.sh t').known=true) (g:aj L x=.d (.own B (.slice es xs))) (i:aj L y=.d (.int .i64 n))
  (j:0<=n) (h1:n.toNat<xs.length):Ev Γ k L H (.indexAddr t x y) ty (.pd (xs[n.toNat]'h1)):=
 yl c hc f (λe a w m=>by
  have b:Q0 (Γ.X e H) w (a.eval x) (.own B<|.slice es xs):=Q5 m g (MM · _ _)
  generalize a.eval x=v at b ⊢
  cases b with|own b=>exact Q0.N1 (Af _) (λ_ _ _=>rfl) (λ_ _ h=>.inl h) b) i j h1
def fE {B es:Nat} {xs:List (List D)} {n:Int} (b:Γ.sh t=.slice t') (hc:Γ.cells t'=es) (c:(Γ.sh t').known=true) (f:aj L x=.rg B 0 (.slice es xs)) (g:aj L y=.d (.int .i64 n))
  (i:0<=n) (h1:n.toNat<xs.length):Ev Γ k L H (.indexAddr t x y) ty (.pd (xs[n.toNat]'h1)):=
 yl b hc c (λe a w m=>by
  have j:Zm (Γ.X e H) w B 0 (a.eval x) (.slice es xs):=Q5 m f (Pg · _ _ _)
  exact Q0.N1 (Af _) (λ_ _ _=>rfl) (λ_ _ h=>.inl h) j.2) g i h1
def HD (h:YJ Γ.τ t (aj L x) (aj L y)=some (p,s)) (b:p):Ev Γ k L H (.indexAddr t x y) ty s:=by
 unfold YJ at h;split at h
 ·rename_i m j;split at h
  ·rename_i l d n f g;split at h
   ·rename_i c;cases h;simp only [Ae] at c;have i:=Wx (Γ:=Γ) (k:=k) (H:=H) (ty:=ty) j (Ao c.1) c.2 f g b.1 b.2;have:q8 d n.toNat=d[n.toNat]'b.2:=by simp [q8,A4,Ad b.2]
    rw [this];exact i
   ·cases h
  ·rename_i B l d n f g;split at h
   ·rename_i c;cases h;simp only [Ae] at c;have i:=eE (Γ:=Γ) (k:=k) (H:=H) (ty:=ty) j (Ao c.1) c.2 f g b.1 b.2;have:q8 d n.toNat=d[n.toNat]'b.2:=by simp [q8,A4,Ad b.2]
    rw [this];exact i
   ·cases h
  ·rename_i B l d n f g;split at h
   ·rename_i c;cases h;simp only [Ae] at c;have i:=fE (Γ:=Γ) (k:=k) (H:=H) (ty:=ty) j (Ao c.1) c.2 f g b.1 b.2;have:q8 d n.toNat=d[n.toNat]'b.2:=by simp [q8,A4,Ad b.2]
    rw [this];exact i
   ·cases h
  ·cases h
 ·cases h
def dE {i es:Nat} {xs:List (List D)} {te:TypeId} {n:Int} {j:Nat} (f:Γ.sh t=.slice t') (hc:Γ.cells t'=es) (h:(Γ.sh t').known=true) (l:aj L x=.row i) (o:aj L y=.d (.int .i64 n))
  (hH:Hp.get H i=some (.row te es xs)) (q:n=(j:Int)) (h1:j<xs.length):Ev Γ k L H (.indexAddr t x y) ty (.P3 i j es 0):=by
 subst q;intro e a w m;obtain⟨r,b,_⟩:=Q5 m l (nz · _);obtain⟨B,u,_⟩:=(m.heap _<|Hp.mem_of hH).2;obtain⟨C,z,v,_,A,_⟩:=Ctx.info<|Sh.Y1 h;rcases u.2 with ⟨_,E⟩|⟨g,F,G,c,_⟩
 ·omega
 ·rw [c] at b;refine⟨.pointer (some ⟨g,j*es+0,none⟩),λ_ _ _ _ I _=>?_,r,g,_,_,c,rfl⟩
  simp [execOp,Instr.indexAt,b,R8 m o,asIntOf,run_underlying (Ctx.slice f),h1,c9 v,A,hc,Addr.Y3]
def qJ (m:J0 Γ k L H e a w) {i j es o:Nat} {te:TypeId} {xs:List (List D)} (r:aj L x=.P3 i j es o) (hH:Hp.get H i=some (.row te es xs)) (d:j<xs.length) :
  ∃ b off,a.eval x=.pointer (some ⟨b,off,none⟩)/\∀ q (h:q<((xs[j]'d).drop o).length),∃ u,w.cell? ⟨b,off+q,none⟩=some u/\Q0 (Γ.X e H) w u ((xs[j]'d).drop o)[q]:=by
 obtain⟨_,g,n,M,z,A⟩:=Q5 m r (Gb · _ _ _ _);obtain⟨N,B,O,_,C⟩:=(m.heap _<|Hp.mem_of hH).2;refine⟨g,_,A,λq E=>?_⟩
 rcases B.2 with ⟨f,P⟩|⟨Q,R,l,f,_,F,_,_,_,G⟩
 ·omega
 ·rw [z] at f;cases f;simp only [A9] at E;obtain⟨v,I,J⟩:=C j d (o+q) (by omega);refine⟨v,?_,by simpa using J⟩
  rw [cell_of_row w g _ l te (0,0) F];have c:(l.toList.take<|xs.length*es)[j*es+(o+q)]?=some v:=by rw [G];exact I
  rw [Bf] at c;split at c
  ·rw [Array.getElem?_toList] at c;rw [Nat.add_assoc,c]
  ·cases c
def ZD {d0:D} {ds:List D} (c:(Γ.sh t).known=true) (f:(Γ.sh t).isAgg=false)
  (g:∀ e a w,J0 Γ k L H e a w->∃ b off,a.eval x=.pointer (some ⟨b,off,none⟩)/\∀ q (h:q<(d0::ds).length),∃ u,w.cell? ⟨b,off+q,none⟩=some u/\Q0 (Γ.X e H) w u (d0::ds)[q]):Ev Γ k L H (.load t x) ty (.d d0):=by
 intro e a w m;obtain⟨b,off,i,j⟩:=g e a w m;obtain⟨u,l,n⟩:=j 0 (by simp);exact⟨u,λ_ _ _ _ r o=>vc (Sh.Y1 c) f i (jp o l) _ _ _ _,n⟩
def yA {ds:List D} {l} (o:Γ.sh t=.struct l) (A:Cj (Γ.cells t) ds.length=true)
  (B:∀ e a w,J0 Γ k L H e a w->∃ b off,a.eval x=.pointer (some ⟨b,off,none⟩)/\∀ q (h:q<ds.length),∃ u,w.cell? ⟨b,off+q,none⟩=some u/\Q0 (Γ.X e H) w u ds[q]):Ev Γ k L H (.load t x) ty (.agg ((ds.take (Γ.cells t)).map .d)):=by
 intro e a w m;have C:=Ab A;obtain⟨b,off,E,F⟩:=B e a w m;have G:Γ.sh t≠.other:=by rw [o];intro h;cases h
 have I:∀ n,n<=ds.length->∃ c:List Value,c.length=n/\(∀ j v,c[j]?=some v->w.cell? ((⟨b,off,none⟩:Addr).add j)=some v)/\O0 (Γ.X e H) e w ((ds.take n).map .d) c:=by
  intro n;induction n with
  | zero=>intro _;exact⟨[],rfl,by simp,by simp [O0]⟩
  | succ n ih =>
   intro R;obtain⟨c,r,J,M⟩:=ih (by omega);obtain⟨u,g,i⟩:=F n (by omega);refine⟨c++[u],by simp [r],λj v f=>?_,?_⟩
   ·by_cases N:j<c.length
    ·rw [Bj N] at f;exact J j v f
    ·rw [A7<|by omega] at f;have:j=n:=by
      rcases Ec (j-c.length) 1 with h|h
      ·omega
      ·rw [Be<|by simpa using h] at f;cases f
     subst this;rw [Addr.Y3];simp [r] at f;rw [<- f];exact g
   ·rw [List.take_succ_eq_append_getElem (by omega),Au];exact O0.append _ _ _ _ M ⟨i,trivial⟩
 obtain⟨c,g,i,O⟩:=I _ C;refine⟨.agg c.toArray,λ_ _ _ _ z P=>?_,⟨c,rfl,O⟩⟩
 have Q:=rv (Γ:=Γ) (t:=t) (w':=z) (p:=⟨b,off,none⟩) G (by rw [o];rfl) g<|λj v f=>jp P<|i j v f;simp [execOp,Instr.loadAt,E,Instr.sureAddr,Q]
def YD {i j es o:Nat} {te:TypeId} {xs:List (List D)} {ds:List D} {p:Prop} {s:SV} (f:aj L x=.P3 i j es o) (hH:Hp.get H i=some (.row te es xs)) (g:j<xs.length) (n:xs[j]=ds)
  (h:vq Γ.τ t (.pd (ds.drop o)) (λ_=>none)=some (p,s)):Ev Γ k L H (.load t x) ty s:=by
 have c:∀ e a w,J0 Γ k L H e a w->∃ b off,a.eval x=.pointer (some ⟨b,off,none⟩)/\∀ q (h:q<(ds.drop o).length),∃ u,w.cell? ⟨b,off+q,none⟩=some u/\Q0 (Γ.X e H) w u (ds.drop o)[q]:=
  λe a w m=>by subst n;exact qJ m f hH g
 simp only [vq,il] at h;generalize ds.drop o=z at *;split at h
 ·cases h
 ·rename_i l r;split at h
  ·rename_i v;cases h;exact yA (Γ:=Γ) r v c
  ·cases h
 ·rename_i A B;split at h
  ·cases h;have d:(Γ.sh t).known=true/\(Γ.sh t).isAgg=false:=by
    show (ai Γ.τ t).sh.known=true/\(ai Γ.τ t).sh.isAgg=false;generalize (ai Γ.τ t).sh=q at *;cases q<;>simp_all [Sh.known,Sh.isAgg]
   exact ZD d.1 d.2 c
  ·cases h
def BG (h:Kw Γ.τ t (aj L x) (Hp.get H)=some (p,s)) (b:p):Ev Γ k L H (.load t x) ty s:=by
 unfold Kw at h;split at h
 ·rename_i i j l o C;split at h
  ·rename_i M N c n;split at h
   ·rename_i r;cases h;simp only [Ae] at r;obtain⟨f,E,u,v⟩:=r;have f:=Ao f;subst f;have v:=Ab v;have u:=Ab u;have F:q8 c j=c[j]'b:=by simp [q8,A4,Ad b]
    rw [F];intro e a w m;have G:(c[j]'b).length=l:=((m.heap _<|Hp.mem_of n).2.choose_spec.2.1) j b;have I:∃ q,vq Γ.τ t (.pd<|(c[j]'b).drop o) (λ_=>none)=some q:=by
     simp only [vq,il];have z:((c[j]'b).drop o).length=l-o:=by simp [G]
     generalize (c[j]'b).drop o=g at z;have A:(ai Γ.τ t).sh.known=true:=E;split
     ·rename_i J;rw [J] at A;cases A
     ·rw [Dk<|show (ai Γ.τ t).cells<=g.length by omega];exact⟨_,rfl⟩
     ·cases g with
      | nil=>simp at z;omega
      | cons d g=>exact⟨_,rfl⟩
    obtain⟨⟨O,P⟩,B⟩:=I;have:=YD (Γ:=Γ) (k:=k) (ty:=ty) C n b rfl B e a w m
    unfold Jr;rw [B];exact this
   ·cases h
  ·cases h
 ·exact DG h
def Vm (v:Value) (i o n c:Nat):S6 v≠.sl i o n c:=by unfold S6;split<;>exact λh=>by cases h
def m8 (v:Value) (i o n c:Nat):S6 v≠.R5 i o n c:=by unfold S6;split<;>exact λh=>by cases h
def lP {i o n c:Nat} (b:Γ.sh t=.slice t') (f:aj L x=.sl i o n c):Ev Γ k L H (.call { callee:=.builtin .len,args:=#[x],argTypes:=#[t] }) ty (.d (.int .i64 n)):=by
 intro e a w m;obtain⟨_,j,g,l,h,_⟩:=Q5 m f (Vm · _ _ _ _);refine⟨.int .i64 n,λ_ _ _ _ q _=>?_,.int<|WalkArith.wf_i64<|by unfold maxLen at g;omega⟩
 simp [execOp,resolve,invoke,builtin,h,Builtin.len_,goInt,run_underlying<|Ctx.slice b]
def vH {i o len c:Nat} {n:Int} (b:Γ.sh t=.slice t') (f:(Γ.sh t').known=true) (g:aj L x=.sl i o len c) (h:aj L y=.d (.int .i64 n)) (j:0<=n) (h1:n.toNat<len):Ev Γ k L H (.indexAddr t x y) ty (.loc i (o+n.toNat*Γ.cells t')):=by
 intro e a w m;have l:=Sh.Y1 f;obtain⟨q,E,_,r,u,v⟩:=Q5 m g (Vm · _ _ _ _);obtain⟨F,z,A,_,B,_⟩:=Ctx.info l;have:=v<|by omega
 subst this;refine⟨.pointer (some ⟨e.β i,r+n.toNat*Γ.cells t',none⟩),λ_ _ _ _ G _=>?_,⟨q,rfl⟩⟩
 have C:n<(len:Int):=by omega
 simp [execOp,Instr.indexAt,u,R8 m h,asIntOf,run_underlying (Ctx.slice b),j,C,c9 A,B,Addr.Y3]
def mj {k:Nat->Prop} (m:J0 Γ k L H e a w) (f:Option Addr) {len cap:Nat} {lo hi:Option Operand} {n m':Int} (j:Γ.sh t=.slice t') (r:(Γ.sh t').known=true) (c:yb (lo.map (aj L))=some n) (b:ks len (hi.map (aj L))=some m')
  (l:0<=n) (h1:n<=m') (C:m'<=cap) (w':World):(Instr.slice t (.slice f len cap) (lo.map a.eval) (hi.map a.eval) none).run Γ.P w'=.ok (sliced f n.toNat m'.toNat cap (Γ.cells t')) w':=by
 obtain⟨E,z,u,_,v,_⟩:=Ctx.info<|Sh.Y1 r;have g:Γ.P.underlying t=some (.slice<|Γ.P.elem t):=by
  have h:=Ctx.slice j;rw [h];simp [Program.elem,h]
 have A:Γ.P.elem t=t':=by
  have h:=Ctx.slice j;simp [Program.elem,h]
 have i:(sizeOf<|Γ.P.elem t).run Γ.P w'=.ok (Γ.cells t') w':=by rw [A,c9 u,v]
 have o:∀ z,lo=some z->aj L z=.d (.int .i64 n):=by
  rintro z rfl;simp only [B1] at c;generalize aj L z=B at c;unfold yb at c;split at c
  ·rename_i h;cases h
  ·rename_i h;cases h;cases c;rfl
  ·cases c
 have q:∀ z,hi=some z->aj L z=.d (.int .i64 m'):=by
  rintro z rfl;simp only [B1] at b;generalize aj L z=B at b;unfold ks at b;split at b
  ·rename_i h;cases h
  ·rename_i h;cases h;cases b;rfl
  ·cases b
 cases lo with
 | none =>
  cases c;cases hi with
  | none =>
   cases b;have:=run_slice_all (P:=Γ.P) (w:=w') t f len cap g
   rw [i] at this;simpa [Result.andThen] using this
  | some z =>
   have:=run_slice_h (P:=Γ.P) (w:=w') t f len cap g .i64 m' (by omega)<|by omega
   rw [i] at this;simpa [Result.andThen,R8 m<|q z rfl] using this
 | some y =>
  cases hi with
  | none =>
   cases b;have:=run_slice_l (P:=Γ.P) (w:=w') t f len cap g .i64 n l h1
   rw [i] at this;simpa [Result.andThen,R8 m<|o y rfl] using this
  | some z =>
   have:=run_slice_lh (P:=Γ.P) (w:=w') t f len cap g .i64 .i64 n m' l h1<|by omega
   rw [i] at this;simpa [Result.andThen,R8 m (o y rfl),R8 m<|q z rfl] using this
def qH {i o len cap:Nat} {lo hi:Option Operand} {n m':Int} (d:Γ.sh t=.slice t') (f:(Γ.sh t').known=true) (j:aj L x=.sl i o len cap) (l:yb (lo.map (aj L))=some n) (q:ks len (hi.map (aj L))=some m')
  (r:0<=n) (h1:n<=m') (u:m'<=cap):Ev Γ k L H (.slice t x lo hi none) ty (.sl i (o+n.toNat*Γ.cells t') (m'.toNat-n.toNat) (cap-n.toNat)):=by
 intro e a w m;obtain⟨v,E,F,b,A,B⟩:=Q5 m j (Vm · _ _ _ _);obtain⟨G,z,I,_,J,_⟩:=Ctx.info<|Sh.Y1 f;have C:=λc=>mj m (some ⟨e.β i,b,none⟩) d f l q r h1 u c
 refine⟨sliced (some ⟨e.β i,b,none⟩) n.toNat m'.toNat cap (Γ.cells t'),λ_ _ _ _ c _=>by simp [execOp,Instr.sliceAt,A,run_underlying (Ctx.slice d),C c],v,by omega,by omega,?_⟩
 unfold sliced;by_cases g:cap=n.toNat
 ·rw [if_pos g];exact⟨b,rfl,λh=>by omega⟩
 ·rw [if_neg g,B1,Addr.Y3];exact⟨_,rfl,λ_=>by rw [B<|by omega]⟩
def qK {i es j n:Nat} (c:Γ.sh t=.slice t') (f:aj L x=.R5 i es j n):Ev Γ k L H (.call { callee:=.builtin .len,args:=#[x],argTypes:=#[t] }) ty (.d (.int .i64 n)):=by
 intro e a w m;obtain⟨r,_,h⟩:=Q5 m f (m8 · _ _ _ _);rcases h with ⟨_,b,_,rfl⟩|⟨g,u,v,o,z,A,l,B,b,_⟩
 ·refine⟨.int .i64 0,λ_ _ _ _ q _=>?_,.int<|WalkArith.wf_i64<|by omega⟩
  simp [execOp,resolve,invoke,builtin,b,Builtin.len_,goInt,run_underlying<|Ctx.slice c]
 ·refine⟨.int .i64 n,λ_ _ _ _ q _=>?_,.int<|WalkArith.wf_i64<|by unfold maxLen at l;omega⟩
  simp [execOp,resolve,invoke,builtin,b,Builtin.len_,goInt,run_underlying<|Ctx.slice c]
def cE {i es j len:Nat} {n:Int} (c:Γ.sh t=.slice t') (hc:Γ.cells t'=es) (f:(Γ.sh t').known=true) (h:aj L x=.R5 i es j len) (l:aj L y=.d (.int .i64 n)) (q:0<=n) (h1:n.toNat<len):Ev Γ k L H (.indexAddr t x y) ty (.P3 i (j+n.toNat) es 0):=by
 intro e a w m;obtain⟨r,_,u⟩:=Q5 m h (m8 · _ _ _ _);obtain⟨I,z,v,_,A,_⟩:=Ctx.info<|Sh.Y1 f;rcases u with ⟨_,b,_,rfl⟩|⟨g,B,C,o,E,J,M,N,b,F⟩
 ·omega
 ·have:=F (.inl<|by omega)
  subst this;refine⟨.pointer (some ⟨g,(j+n.toNat)*es+0,none⟩),λ_ _ _ _ O _=>?_,r,g,B,C,E,rfl⟩
  have G:n<(len:Int):=by omega
  simp [execOp,Instr.indexAt,b,R8 m l,asIntOf,run_underlying (Ctx.slice c),q,G,c9 v,A,hc,Addr.Y3,Bq]
def xA {lo hi:Option Operand} {n m':Int} (d:Γ.sh t=.slice t') (f:(Γ.sh t').known=true) (b:aj L x=.Q1) (g:yb (lo.map (aj L))=some n) (h:ks 0 (hi.map (aj L))=some m') (i:n=0/\m'=0):Ev Γ k L H (.slice t x lo hi none) ty .Q1:=by
 obtain⟨rfl,rfl⟩:=i;intro e a w m;have j:a.eval x=.slice none 0 0:=by
  have l:Nq x:=by
   cases x with
   | const v=>simp only [aj] at b;unfold S6 at b;split at b<;>simp_all [Nq,NY]
   | _=>trivial
  have:=m.op x l
  rw [b] at this;exact this
 have o:=λc=>mj m none d f g h (Df _) (Df _) (cap:=0) (by omega) c
 exact⟨.slice none 0 0,λ_ _ _ _ c _=>by simp [execOp,Instr.sliceAt,j,run_underlying (Ctx.slice d),o c,sliced],rfl⟩
def WD {i es:Nat} {te:TypeId} {xs:List (List D)} {lo hi:Option Operand} {n m':Int} (f:Γ.sh t=.slice t') (hc:Γ.cells t'=es) (o:(Γ.sh t').known=true) (A:aj L x=.row i) (hH:Hp.get H i=some (.row te es xs)) (q:yb (lo.map (aj L))=some n) (r:ks xs.length (hi.map (aj L))=some m')
  (u:0<=n) (h1:n<=m') (I:m'<=xs.length):Ev Γ k L H (.slice t x lo hi none) ty (.R5 i es n.toNat (m'.toNat-n.toNat)):=by
 intro e a w m;obtain⟨v,j,_⟩:=Q5 m A (nz · _);obtain⟨J,B,_⟩:=(m.heap _<|Hp.mem_of hH).2;rcases B.2 with ⟨d,C⟩|⟨g,c,M,d,_,_,N,E,_⟩
 ·rw [d] at j;have F:xs.length=0:=C;have z:n.toNat=0:=by omega
  have G:m'.toNat=0:=by omega
  have l:=λb=>mj m none f o q (F▸r) u h1 (cap:=0) (by omega) b
  refine⟨.slice none 0 0,λ_ _ _ _ b _=>by simp [execOp,Instr.sliceAt,j,run_underlying (Ctx.slice f),l b,sliced,z,G],v,rfl,.inl ⟨d,rfl,z,by omega⟩⟩
 ·rw [d] at j;have l:=λb=>mj m (some ⟨g,0,none⟩) f o q r u h1 (cap:=c) (by omega) b
  refine⟨sliced (some ⟨g,0,none⟩) n.toNat m'.toNat c (Γ.cells t'),λ_ _ _ _ b _=>by simp [execOp,Instr.sliceAt,j,run_underlying (Ctx.slice f),l b],v,rfl,.inr ⟨g,xs.length,c,if c=n.toNat then 0 else n.toNat*es,d,by omega,E,by omega,?_,?_⟩⟩
  ·unfold sliced;split
   ·rename_i h;rw [h]
   ·rw [B1,Addr.Y3,hc,Nat.zero_add]
  ·intro h;split
   ·rcases h with h|h
    ·omega
    ·rw [h,Nat.zero_mul]
   ·rfl
def VD {i es j len:Nat} {lo hi:Option Operand} {n m':Int} (d:Γ.sh t=.slice t') (hc:Γ.cells t'=es) (r:(Γ.sh t').known=true) (C:aj L x=.R5 i es j len) (u:yb (lo.map (aj L))=some n) (v:ks len (hi.map (aj L))=some m')
  (z:0<=n) (h1:n<=m') (M:m'<=len):Ev Γ k L H (.slice t x lo hi none) ty (.R5 i es (j+n.toNat) (m'.toNat-n.toNat)):=by
 intro e a w m;obtain⟨A,_,E⟩:=Q5 m C (m8 · _ _ _ _);rcases E with ⟨f,l,rfl,rfl⟩|⟨g,F,c,o,f,N,G,O,l,B⟩
 ·have I:n.toNat=0:=by omega
  have J:m'.toNat=0:=by omega
  have q:=λb=>mj m none d r u v z h1 (cap:=0) (by omega) b
  refine⟨.slice none 0 0,λ_ _ _ _ b _=>by simp [execOp,Instr.sliceAt,l,run_underlying (Ctx.slice d),q b,sliced,I,J],A,rfl,.inl ⟨f,rfl,by omega,by omega⟩⟩
 ·have q:=λb=>mj m (some ⟨g,o,none⟩) d r u v z h1 (cap:=c-j) (by omega) b
  refine⟨sliced (some ⟨g,o,none⟩) n.toNat m'.toNat (c-j) (Γ.cells t'),λ_ _ _ _ b _=>by simp [execOp,Instr.sliceAt,l,run_underlying (Ctx.slice d),q b],A,rfl,.inr ⟨g,F,c,if c-j=n.toNat then o else o+n.toNat*es,f,by omega,G,by omega,?_,?_⟩⟩
  ·unfold sliced;rw [Nat.sub_sub];split
   ·rfl
   ·rw [B1,Addr.Y3,hc]
  ·intro h;split
   ·rcases h with h|h
    ·omega
    ·rw [B (.inr<|by omega),h,show j=0 by omega]
   ·rw [B (by omega),Bq]
def ED (h:Yl Γ.τ t (aj L x) (aj L y) (Hp.get H)=some (p,s)) (d:p):Ev Γ k L H (.indexAddr t x y) ty s:=by
 unfold Yl at h;split at h
 ·rename_i i f;split at h
  ·rename_i m n v q z g l r;split at h
   ·rename_i b;cases h;simp only [Ae] at b;exact dE (Γ:=Γ) g (Ao b.1) b.2 f l r (B9 d.1).symm d.2
   ·cases h
  ·cases h
 ·rename_i i o u c f;split at h
  ·rename_i m n g l;split at h
   ·rename_i b;cases h;exact vH (Γ:=Γ) g b f l d.1 d.2
   ·cases h
  ·cases h
 ·rename_i i q j u f;split at h
  ·rename_i m n g l;split at h
   ·rename_i b;cases h;simp only [Ae] at b;exact cE (Γ:=Γ) g (Ao b.1) b.2 f l d.1 d.2
   ·cases h
  ·cases h
 ·exact HD h d
def RC (h:HI Γ.τ t (aj L x) (aj L y)=some (p,s)) (b:p):Ev Γ k L H (.index t x y) ty s:=by
 unfold HI at h;split at h
 ·rename_i c;split at h
  ·rename_i u n d f;cases h;rw [dR b.2];exact bE (Γ:=Γ) c d f b.1 b.2
  ·cases h
 ·cases h
def sK {B es:Nat} {xs:List (List D)} (c:Γ.sh t=.slice t') (f:aj L x=.d (.own B (.slice es xs))):Ev Γ k L H (.call { callee:=.builtin .len,args:=#[x],argTypes:=#[t] }) ty (.d (.int .i64 xs.length)):=by
 intro e a w m;have b:Q0 (Γ.X e H) w (a.eval x) (.own B<|.slice es xs):=Q5 m f (MM · _ _);generalize g:a.eval x=v at b;cases b with
 | own h =>
  obtain⟨j,l,rfl,n,i,_⟩:=h.R4;refine⟨.int .i64 xs.length,λ_ _ _ _ o _=>?_,.int<|WalkArith.wf_i64<|by unfold maxLen at i;omega⟩
  simp [execOp,resolve,invoke,builtin,g,Builtin.len_,goInt,run_underlying<|Ctx.slice c]
def LJ (h:rO Γ.τ t (aj L x) (Hp.get H)=some (p,s)) (b:de x=true):Ev Γ k L H (.call { callee:=.builtin .len,args:=#[x],argTypes:=#[t] }) ty s:=by
 unfold rO at h;split at h
 ·rename_i g c;split at h
  ·rename_i b;cases h;exact uT (Γ:=Γ) c b
  ·rename_i b;cases h;exact sK (Γ:=Γ) c b
  ·rename_i b;cases h;exact uH (Γ:=Γ) c b
  ·rename_i i b;split at h
   ·rename_i d;cases h;exact rK (Γ:=Γ) c b d
   ·cases h
  ·rename_i b;cases h;exact lP (Γ:=Γ) c b
  ·rename_i b;cases h;exact qK (Γ:=Γ) c b
  ·cases h
 ·rename_i c;split at h
  ·rename_i u f;cases h;exact pK (Γ:=Γ) c f b
  ·cases h
 ·cases h
def wA {u:ByteArray} {lo hi:Option Operand} {n m':Int} (h:Γ.sh t=.str) (c:aj L x=.d (.str u)) (C:de x=true) (f:yb (lo.map (aj L))=some n) (b:ks u.size (hi.map (aj L))=some m')
  (l:0<=n) (h1:n<=m') (o:m'<=u.size):Ev Γ k L H (.slice t x lo hi none) ty (.d (.str (u.extract n.toNat m'.toNat))):=by
 intro e a w m;have E:u.size<=maxLen:=by
  have j:=m.op x<|cd C;rw [c] at j;generalize a.eval x=v at j;cases j;assumption
 have A:0<=m':=by omega
 have F:n<=(m'.toNat:Int):=by omega
 refine⟨.string (u.extract n.toNat m'.toNat),λ_ _ _ _ G _=>?_,.str<|by simp [ByteArray.size_extract];omega⟩
 have i:∀ (z:Operand) (r:Int),aj L z=.d (.int .i64 r)->a.eval z=.int .i64 r:=λz r g=>R8 m g
 cases lo with
 | none =>
  simp only [E3,yb,Option.some.injEq] at f;subst f;cases hi with
  | none =>
   simp only [E3,ks,Option.some.injEq] at b;subst b;simp [execOp,Instr.sliceAt,Instr.slice,Instr.sliceBounds,pP m c,run_underlying<|Ctx.str h]
  | some z =>
   have g:aj L z=.d (.int .i64 m'):=by
    simp only [B1] at b;unfold ks at b;split at b<;>simp_all
   simp [execOp,Instr.sliceAt,Instr.slice,Instr.sliceBounds,Instr.sliceBound,pP m c,i z _ g,asIntOf,run_underlying (Ctx.str h),o,A]
 | some q =>
  have B:aj L q=.d (.int .i64 n):=by
   simp only [B1] at f;unfold yb at f;split at f<;>simp_all
  cases hi with
  | none =>
   simp only [E3,ks,Option.some.injEq] at b;subst b;simp [execOp,Instr.sliceAt,Instr.slice,Instr.sliceBounds,Instr.sliceBound,pP m c,i q _ B,asIntOf,run_underlying (Ctx.str h),l,h1]
  | some z =>
   have g:aj L z=.d (.int .i64 m'):=by
    simp only [B1] at b;unfold ks at b;split at b<;>simp_all
   simp [execOp,Instr.sliceAt,Instr.slice,Instr.sliceBounds,Instr.sliceBound,pP m c,i q _ B,i z _ g,asIntOf,run_underlying (Ctx.str h),l,o,A];intro I;omega
def WB {es:Nat} {xs:List (List D)} {lo hi:Option Operand} {n m':Int} (E:Γ.sh t=.slice t') (hc:Γ.cells t'=es) (U:(Γ.sh t').known=true) (V:aj L x=.d (.slice es xs)) (g:yb (lo.map (aj L))=some n) (c:ks xs.length (hi.map (aj L))=some m')
  (u:0<=n) (h1:n<=m') (h2:m'<=xs.length):Ev Γ k L H (.slice t x lo hi none) ty (.d (.slice es ((xs.take m'.toNat).drop n.toNat))):=by
 intro e a w m;have o:=Q5 m V (ow · _ _);obtain⟨a3,z,W,_,X,_⟩:=Ctx.info<|Sh.Y1 U;obtain⟨l,f,I,Y,a4,a5⟩:=o.R4;have eN:((n.toNat:Nat):Int)=n:=B9 u;have eM:((m'.toNat:Nat):Int)=m':=B9 (by omega);have A:Γ.P.underlying t=some (.slice<|Γ.P.elem t):=by
  have h:=Ctx.slice E;rw [h];simp [Program.elem,h]
 have Z:Γ.P.elem t=t':=by
  have h:=Ctx.slice E;simp [Program.elem,h]
 have J:∀ b,(Instr.slice t (.slice l xs.length f) (lo.map a.eval) (hi.map a.eval) none).run Γ.P b=.ok (sliced l n.toNat m'.toNat f es) b:=by
  intro b;have B:(sizeOf<|Γ.P.elem t).run Γ.P b=.ok es b:=by rw [Z,c9 W,X,hc]
  have O:∀ z,lo=some z->aj L z=.d (.int .i64 n):=by
   rintro z rfl;simp only [B1] at g;generalize aj L z=sz at g;unfold yb at g;split at g
   ·rename_i h;cases h
   ·rename_i h;cases h;cases g;rfl
   ·cases g
  have Q:∀ z,hi=some z->aj L z=.d (.int .i64 m'):=by
   rintro z rfl;simp only [B1] at c;generalize aj L z=sz at c;unfold ks at c;split at c
   ·rename_i h;cases h
   ·rename_i h;cases h;cases c;rfl
   ·cases c
  cases lo with
  | none =>
   cases g;cases hi with
   | none =>
    cases c;have:=run_slice_all (P:=Γ.P) (w:=b) t l xs.length f A
    rw [B] at this;simpa [Result.andThen] using this
   | some z =>
    have:=run_slice_h (P:=Γ.P) (w:=b) t l xs.length f A .i64 m' (by omega)<|by omega
    rw [B] at this;simpa [Result.andThen,R8 m<|Q z rfl] using this
  | some y =>
   cases hi with
   | none =>
    cases c;have:=run_slice_l (P:=Γ.P) (w:=b) t l xs.length f A .i64 n u h1
    rw [B] at this;simpa [Result.andThen,R8 m<|O y rfl] using this
   | some z =>
    have:=run_slice_lh (P:=Γ.P) (w:=b) t l xs.length f A .i64 .i64 n m' u h1<|by omega
    rw [B] at this;simpa [Result.andThen,R8 m (O y rfl),R8 m<|Q z rfl] using this
 refine⟨sliced l n.toNat m'.toNat f es,λ_ _ _ _ b _=>?_,?_⟩
 ·simp [execOp,Instr.sliceAt,I,run_underlying (Ctx.slice E),J b]
 ·rw [I] at o;have R:n.toNat<=m'.toNat:=by omega
  have S:m'.toNat<=xs.length:=by omega
  generalize n.toNat=N at R;generalize m'.toNat=M at R S;clear J c g;have a0:((xs.take M).drop N).length=M-N:=by simp;omega
  unfold sliced;generalize C:xs.length=a9 at o S Y;cases o with
  | nil =>
   have F:N=0:=by simp at C;omega
   have G:M=0:=by simp at C;omega
   subst F;subst G;exact .nil
  | zero =>
   have F:N=0:=by simp at C;omega
   have G:M=0:=by simp at C;omega
   subst F;subst G;exact .zero
  | slice a1 hn b0 hm hX hb he a2 o hz =>
   rename_i b1 off;by_cases T:f=N
   ·rw [if_pos T];have u:(xs.take M).drop N=[]:=Bg (by omega);rw [u,show M-N=0 by omega,show f-N=0 by omega];exact .zero
   ·rw [if_neg T,B1,Addr.Y3];have v:∀ i (h:i<((xs.take M).drop N).length),((xs.take M).drop N)[i]'h=xs[N+i]'(by omega):=by intro i h;simp
    refine .slice (λi j=>a1 (N+i) j) a0.symm (by omega) (by omega) hX hb (λi h=>?_) (λi h j q=>?_) (λi h j q=>?_)<|λhF i h j q=>?_
    ·rw [v i h];exact he _ _
    ·have r:j<(xs[N+i]'(by omega)).length:=by rw [<- v i h];exact q
     have:=a2 (N+i) (by omega) j r
     rw [show off+(N+i)*es+j=off+N*es+i*es+j by rw [Bq];omega] at this;exact this
    ·have r:j<(xs[N+i]'(by omega)).length:=by rw [<- v i h];exact q
     have h3:=o (N+i) (by omega) j r;have h4:(((xs.take M).drop N)[i]'h)[j]'q=(xs[N+i]'(by omega))[j]'r:=by simp only [v i h]
     rw [h4];exact h3
    ·have r:j<(xs[N+i]'(by omega)).length:=by rw [<- v i h];exact q
     have:=hz hF (N+i) (by omega) j r
     rw [show off+(N+i)*es+j=off+N*es+i*es+j by rw [Bq];omega] at this;exact this
def XC {lo hi:Option Operand} (h:Pk Γ.τ t (aj L x) (lo.map (aj L)) (hi.map (aj L)) (Hp.get H)=some (p,s)) (b:p) (v:de x=true):Ev Γ k L H (.slice t x lo hi none) ty s:=by
 unfold Pk at h;split at h
 ·rename_i l;split at h
  ·rename_i u c;split at h
   ·rename_i n m d f;cases h;exact wA (Γ:=Γ) l c v d f b.1 b.2.1 b.2.2
   ·cases h
  ·cases h
 ·rename_i C l;split at h
  ·rename_i i o z E c;split at h
   ·rename_i n m d f q;cases h;exact qH (Γ:=Γ) l q c d f b.1 b.2.1 b.2.2
   ·cases h
  ·rename_i c;split at h
   ·rename_i n m d f q;cases h;exact xA (Γ:=Γ) l q c d f b
   ·cases h
  ·rename_i r A c;split at h
   ·rename_i n m d f g;cases h;simp only [Ae] at g;exact WB (Γ:=Γ) l (Ao g.1) g.2 c d f b.1 b.2.1 b.2.2
   ·cases h
  ·rename_i i c;split at h
   ·rename_i F r A B;split at h
    ·rename_i n m d f g;cases h;simp only [Ae] at g;exact WD (Γ:=Γ) l (Ao g.1) g.2 c B d f b.1 b.2.1 b.2.2
    ·cases h
   ·cases h
  ·rename_i i r j z c;split at h
   ·rename_i n m d f g;cases h;simp only [Ae] at g;exact VD (Γ:=Γ) l (Ao g.1) g.2 c d f b.1 b.2.1 b.2.2
   ·cases h
  ·cases h
 ·cases h
def zH {n:Int} {c:TypeId} (f:Γ.sh t=.int .u8) (g:Γ.sh c=.str) (i:aj L x=.d (.int .u8 n)) (hb:0<=n/\n<128):Ev Γ k L H (.convert t c x) ty (.d (.str ⟨#[UInt8.ofNat n.toNat]⟩)):=by
 intro e a w m;have b:Γ.P.underlying t=some (.int .u8):=by
  obtain⟨u,r,z,b,_,_,j,_⟩:=jf (Γ.ti<|by rw [f];intro h;cases h);rw [b];have:o7 Γ.P u=.int .u8:=j▸f
  cases u<;>simp [o7] at this ⊢
  exact this
 have l:=Ctx.str (Γ:=Γ) g;have o:Utf8.encode n=⟨#[UInt8.ofNat n.toNat]⟩:=by
  have q:Utf8.valid n=true:=by
   unfold Utf8.valid;simp;omega
  unfold Utf8.encode;simp only [q,if_true];rw [if_pos<|by omega]
 refine⟨.string ⟨#[UInt8.ofNat n.toNat]⟩,λ_ _ _ _ v _=>?_,.str<|by show 1<=maxLen;decide⟩
 simp [execOp,Go.convert,R8 m i,run_underlying b,run_underlying l,Conv.intToString,o]
def Ctx.int {t:TypeId} {i:IntKind} (h:Γ.sh t=.int i):Γ.P.underlying t=some (.int i):=by
 obtain⟨u,d,z,b,_,_,c,_⟩:=jf (Γ.ti<|by rw [h];intro h;cases h);rw [b];have:o7 Γ.P u=.int i:=c▸h
 cases u<;>simp [o7] at this ⊢
 exact this
def yH {i j o:IntKind} {n:Int} {g:TypeId} (q:Γ.sh t=.int o) (r:Γ.sh g=.int j) (u:aj L x=.d (.int i n)) (h:yu j n=some (p,s)) (l:p):Ev Γ k L H (.convert t g x) ty s:=by
 have v:∀ (a:Act) (c:Option Tmp) pos f guard (b:World),a.eval x=.int i n->(execOp a.eval ⟨c,.convert t g x,ty,pos,f,guard⟩).run Γ.P b=.ok (.value<|.int j<|j.wrap n) b:=by
  intro a c pos f guard b z;simp [execOp,Go.convert,z,run_underlying (Ctx.int (Γ:=Γ) q),run_underlying (Ctx.int (Γ:=Γ) r),Conv.intToInt]
 intro e a w m;refine⟨.int j (j.wrap n),λc pos f guard b _=>v a c pos f guard b (R8 m u),?_⟩
 rcases Rz h with ⟨rfl,rfl,rfl⟩|rfl
 ·rw [IntWalk.i64_in _ l];exact .int<|WalkArith.wf_i64 l
 ·exact .int<|wf_wrap j n
def Kz:∀ (xs:List (List D)) (r:ByteArray),yy xs->((xs.map λx=>match x with|[.int .u8 n]=>n|_=>0).foldl (λr n=>r.push (UInt8.ofNat n.toNat)) r).data.toList=r.data.toList++xs.map OM
 | [],r,_=>by simp
 | x::xs,r,h=>by
  obtain⟨n,rfl⟩:=h x (Ac ..)
  simp only [A3,List.foldl_cons]
  rw [Kz xs _ λy b=>h y<|Ak _ b]
  simp [OM]
def fB {P:Program} {w:World} {c:Option Addr} {n cap:Nat} {xs:List (List D)} {vs:List Value} (A:n=xs.length) (g:vs.length=n) (h:c=none->xs=[])
  (hc:∀ b,c=some b->∀ j u,vs[j]?=some u->w.cell? (b.add j)=some u) (d:∀ i (hi:i<xs.length),∃ q,xs[i]=[D.int .u8 q]/\vs[i]?=some (.int .u8 q)) :
  (Conv.bytesToString (.slice c n cap)).run P w=.ok (.string (pq xs)) w:=by
 have l:yy xs:=by
  intro x m;obtain⟨i,hi,rfl⟩:=List.mem_iff_getElem.1 m;obtain⟨q,o,_⟩:=d i hi;exact⟨q,o⟩
 cases c with
 | none =>
  have:=h rfl
  subst this;rfl
 | some b =>
  have r:vs=(xs.map λx=>match x with|[.int .u8 n]=>n|_=>0).map (Value.int .u8):=by
   apply Ce;intro i;by_cases hi:i<xs.length
   ·obtain⟨q,v,z⟩:=d i hi;rw [z];simp [hi,v]
   ·rw [Be (by omega),Be<|by simp;omega]
  have f:=run_loadCells_list (P:=P) (w:=w) b vs<|hc b rfl;rw [g,r] at f;rw [run_bytesToString w b n cap _ f];congr 2;have:=Kz xs ByteArray.empty l
  exact ByteArray.ext<|Array.ext'<|by rw [this];simp [pq]
def Z8 {te c:TypeId} {v:Value} {r:ByteArray} {a:Act} {w':World} (d:Γ.sh t=.slice te) (f:Γ.sh te=.int .u8) (g:Γ.sh c=.str) (h:a.eval x=v) (i:∃ b n cap,v=.slice b n cap)
  (j:(Conv.bytesToString v).run Γ.P w'=.ok (.string r) w') (dst:Option Tmp) (pos) (after) (guard):(execOp a.eval ⟨dst,.convert t c x,ty,pos,after,guard⟩).run Γ.P w'=.ok (.value (.string r)) w':=by
 obtain⟨b,n,cap,rfl⟩:=i;cases b<;>simp [execOp,Go.convert,h,run_underlying (Ctx.slice (Γ:=Γ) d),run_underlying (Ctx.str (Γ:=Γ) g),run_underlying (Ctx.int (Γ:=Γ) f),j]
def Rq {te z:TypeId} {es:Nat} {xs:List (List D)} (F:Γ.sh t=.slice te) (G:Γ.sh te=.int .u8) (I:Γ.sh z=.str) (g:Az es 1=true) (J:aj L x=.d (.slice es xs)) (M:yy xs) :
  Ev Γ k L H (.convert t z x) ty (.d (.str (pq xs))):=by
 have g:=Ao g;subst g;intro e a w m;have A:=Q5 m J (ow · _ _);obtain⟨l,N,B,Z,h2,C⟩:=A.R4;have O:(pq xs).size<=maxLen:=by simp [pq,ByteArray.size];omega
 have P:Q0 (Γ.X e H) w (.slice l xs.length N) (.slice 1 xs):=by
  have h:Q0 (Γ.X e H) w (a.eval x) (.slice 1 xs):=A;rw [B] at h;exact h
 have Q:∃ b:List Value,b.length=xs.length/\(∀ c,l=some c->∀ j u,b[j]?=some u->w.cell? (c.add j)=some u)/\∀ i (f:i<xs.length),∃ q,xs[i]=[D.int .u8 q]/\b[i]?=some (.int .u8 q):=by
  cases l with
  | none=>have:=C rfl;subst this;exact⟨[],rfl,λ_ h=>(by cases h),λi f=>absurd f<|A2 i⟩
  | some c =>
   obtain⟨_,_,b,v1,R,_,S⟩:=Qk P;refine⟨b,by omega,λa0 h j u n=>by cases h;exact R j u n,λi f=>?_⟩
   obtain⟨q,o⟩:=M xs[i]<|Ah f;obtain⟨v,E,r⟩:=S i f 0 (by rw [o];exact Nat.one_pos);simp only [o] at r;refine⟨q,o,?_⟩
   rw [Dq,Nat.add_zero] at E;rw [E];change Q0 _ w v (.int .u8 q) at r;cases r;rfl
 obtain⟨b,T,U,V⟩:=Q;refine⟨.string (pq xs),λa1 pos a2 guard w' W=>?_,.str O⟩
 refine Z8 (Γ:=Γ) F G I B ⟨_,_,_,rfl⟩ (fB rfl T C (λc Y j u n=>jp W<|U c Y j u n) V) _ _ _ _
def Ti {te B I:TypeId} {i es:Nat} {xs:List (List D)} (J:Γ.sh t=.slice te) (M:Γ.sh te=.int .u8) (N:Γ.sh B=.str) (l:Az es 1=true) (O:aj L x=.row i) (hH:Hp.get H i=some (.row I es xs)) (P:yy xs) :
  Ev Γ k L H (.convert t B x) ty (.d (.str (pq xs))):=by
 have l:=Ao l;subst l;intro e a w m;have Q:=(Q5 m O (nz · _)).2.1;obtain⟨C,n,a2,_,R⟩:=(m.heap _<|Hp.mem_of hH).2;have S:∃ c o,e.η i=.slice c xs.length o/\xs.length<=maxLen/\(c=none->xs=[])/\C.length=xs.length/\∀ b,c=some b->∀ j u,C[j]?=some u->w.cell? (b.add j)=some u:=by
  have T:=n.1;rcases n.2 with ⟨f,U⟩|⟨g,o,a3,f,_,h5,V,W,h6,h7⟩
  ·have:xs=[]:=Bg U
   subst this;exact⟨none,0,f,Nat.zero_le _,λ_=>rfl,by simpa using T,λ_ h=>(by cases h)⟩
  ·refine⟨_,_,f,Aw V W,λh=>(by cases h),by omega,λb r j u v=>?_⟩
   cases r;exact n.cells (g:=g) (by rw [f];rfl) j u v
 obtain⟨c,o,X,g2,Y,Z,g5⟩:=S;have a0:(pq xs).size<=maxLen:=by simp [pq,ByteArray.size];omega
 refine⟨.string (pq xs),λa4 pos a5 guard w' hw=>?_,.str a0⟩
 refine Z8 (Γ:=Γ) J M N (Q.trans X) ⟨_,_,_,rfl⟩ (fB rfl Z Y (λb r j u v=>jp hw<|g5 b r j u v) λE F=>?_) _ _ _ _;obtain⟨q,z⟩:=P xs[E]<|Ah F;obtain⟨a1,G,A⟩:=R E F 0 (by rw [z];exact Nat.one_pos);simp only [z] at A;refine⟨q,z,?_⟩
 rw [Dq,Nat.add_zero] at G;rw [G];change Q0 _ w a1 (.int .u8 q) at A;cases A;rfl
def XH (h:jC Γ.τ t t' (aj L x) (Hp.get H)=some (p,s)) (f:p):Ev Γ k L H (.convert t t' x) ty s:=by
 unfold jC at h;split at h
 ·rename_i b c d;cases h;exact uK (Γ:=Γ) b c d f
 ·rename_i n b c d;cases h;exact zH (Γ:=Γ) b c d f
 ·rename_i b c d;split at h
  ·exact yH (Γ:=Γ) b c d h f
  ·cases h
 ·rename_i b c d;split at h
  ·rename_i g i;cases h;exact Rq (Γ:=Γ) b g c i d f
  ·cases h
 ·rename_i b c d;split at h
  ·rename_i g j;split at h
   ·rename_i i;cases h;exact Ti (Γ:=Γ) b g c i d j f
   ·cases h
  ·cases h
 ·cases h
def O9:∀ (ps:List (Nat×Operand)),mq L ps=ps.map λp=>(p.1,aj L p.2)
 | []=>rfl
 | (i,x)::ps=>by simp [mq,O9 ps]
def P9:∀ (ps:List (Nat×Operand)),(ps.all λp=>de p.2)=true->mr ps=true
 | [],_=>rfl
 | (i,x)::ps,h=>by
  simp only [Dx,Ae] at h
  simp [mr,h.1,P9 ps (by simpa using h.2)]
def kq:∀ (xs:List Operand),mt L xs=xs.map (aj L)
 | []=>rfl
 | x::xs=>by simp [mt,kq xs]
def qf:∀ (xs:List Operand),xs.all de=true->dz xs=true
 | [],_=>rfl
 | x::xs,h=>by
  simp only [Dx,Ae] at h
  simp [dz,h.1,qf xs h.2]
def vz {op:Op} (h:Z7 Γ.τ (aj L) (Hp.get H) op=some (p,s)) (m:p) (d:cx op=true):Ev Γ k L H op ty s:=by
 unfold cx at d;cases op with
 | move x=>simp only [Z7,mf] at h;cases h;exact wW<|by simpa [Op.operands] using d
 | assign x=>simp only [Z7,mf] at h;cases h;exact oP<|by simpa [Op.operands] using d
 | pick c x y =>
  simp only [Op.operands,Dx,Ae] at d;simp only [Z7,mf] at h;split at h
  ·rename_i j;cases h;exact vM (b:=true) j (λ_=>d.2.1)<|λh=>by cases h
  ·rename_i j;cases h;exact vM (b:=false) j (λh=>by cases h)<|λ_=>d.2.2.1
  ·cases h
 | binOp op _ x y _=>exact RK h m<|by simp [Op.operands] at d;exact d.1
 | unOp op _ x =>
  cases op<;>simp only [Z7] at h
  case not =>
   split at h
   ·rename_i g;cases h;exact oY g
   ·cases h
  all_goals cases h
 | load t x=>exact BG h m
 | fieldAddr t x f=>exact TD h
 | indexAddr t x y=>exact ED h m
 | index t x y=>exact RC h m
 | slice t x lo r u =>
  cases u with
  | none=>exact XC h m<|by simp [Op.operands] at d;exact d.1
  | some z=>simp [Z7] at h
 | convert t t' x=>exact XH h m
 | nilCheck x =>
  simp only [Z7] at h;split at h
  ·rename_i g;cases h;exact Ma g<|.inl ⟨_,rfl⟩
  ·rename_i g;cases h;exact jP g
  ·rename_i g;cases h;exact Ma g<|.inr<|.inl ⟨_,_,rfl⟩
  ·rename_i g;cases h;exact Ma g<|.inr<|.inr ⟨_,_,_,_,rfl⟩
  ·cases h
 | extract x i =>
  simp only [Z7,mf] at h;split at h
  ·rename_i g;split at h
   ·rename_i r;cases h;exact tK g r
   ·cases h
  ·cases h
 | makeFunc v first A =>
  cases v with
  | func f =>
   simp only [Z7,il] at h;split at h
   ·rename_i n;cases h;obtain⟨J⟩:=first
    simp only at n;subst n;obtain⟨B⟩:=A;have:=sH (Γ:=Γ) (k:=k) (L:=L) (H:=H) (f:=f) (ty:=ty) (xs:=B) rfl<|qf _<|by simpa [Op.operands] using d
    rw [kq] at this;exact this
   ·cases h
  | _=>simp [Z7] at h
 | build M C =>
  simp only [Z7,il] at h;split at h
  ·rename_i l o;split at h
   ·rename_i j;simp only [Ae] at j;split at h
    ·rename_i N n;cases h;obtain⟨q⟩:=C;have E:mr q=true:=P9 _ (by simpa [Op.operands,List.all_map,Function.comp_def] using d);rw [show (List.map (λp=>(p.1,aj L p.2)) (Array.mk q).toList)=mq L q from (O9 q).symm] at n;exact wT (Γ:=Γ) o j.1 j.2 rfl E n
    ·cases h
   ·cases h
  ·cases h
 | call c =>
  obtain⟨F,G,I⟩:=c;cases F with
  | builtin b =>
   cases b<;>simp only [Z7] at h
   case len =>
    split at h
    ·rename_i x t g o;obtain⟨O⟩:=G;obtain⟨P⟩:=I;simp only at g o;subst g;subst o;exact LJ h<|by simp [Op.operands,Call.operands] at d;exact d
    ·cases h
   all_goals cases h
  | _=>simp [Z7] at h
 | _=>simp [Z7] at h
end
end
section
open Go Go.RowKit
variable [Y0]
section
variable {Γ : Ctx} {k : Nat -> Prop} {L : Sl} {H : Hp} {K : cn} {ops : List Oper} {rest : List Oper} {a : Act} {w : World} {e : Env} {t t' ty : TypeId} {x y : Operand}
def Vr:List SV->Option (List D)
 | []=>some []
 | .d x::l=>match Vr l with
  | some b=>some (x::b)
  | none=>none
 | _::_=>none
def GK:SV->Option (List D)
 | .d x=>some [x]
 | .agg b=>Vr b
 | _=>none
def Yi {X e w}:∀ {ss:List SV} {vs:List Value} {ds:List D},Vr ss=some ds->O0 X e w ss vs->vs.length=ds.length/\(∀ u∈vs,u.oneCell'=true)/\∀ q (b:q<ds.length),∃ u,vs[q]?=some u/\Q0 X w u ds[q]
 | [],[],ds,h,_=>by cases h;exact⟨rfl,by simp,λq b=>absurd b (A2 q)⟩
 | [],_::_,_,_,h=>h.elim
 | _::_,[],_,_,h=>h.elim
 | s::ss,v::vs,ds,h,⟨f,g⟩=>by
  cases s with
  | d x =>
   simp only [Vr] at h
   split at h
   ·rename_i n i
    cases h
    obtain⟨j,l,m⟩:=Yi i g
    refine⟨by simp [j],λu c=>?_,λq b=>?_⟩
    ·rcases List.mem_cons.1 c with rfl|c
     ·exact (Q0.one f).1
     ·exact l u c
    ·cases q with
     | zero=>exact⟨v,rfl,f⟩
     | succ q=>simpa using m q (by simpa using b)
   ·cases h
  | _=>cases h
def UH {X e w} {s:SV} {v:Value} {ds:List D} (h:GK s=some ds) (b:Rel X e w s v):v.cells.toList.length=ds.length/\(∀ u∈v.cells.toList,u.oneCell'=true)/\∀ q (c:q<ds.length),∃ u,v.cells.toList[q]?=some u/\Q0 X w u ds[q]:=by
 cases s with
 | d x =>
  cases h;have b:Q0 X w v x:=b;rw [show v.cells.toList=[v] by rw [(Q0.one b).2]];refine⟨rfl,λu f=>?_,λq c=>?_⟩
  ·rw [List.mem_singleton.1 f];exact (Q0.one b).1
  ·have:q=0:=by simp at c;omega
   subst this;exact⟨v,rfl,b⟩
 | agg i =>
  obtain⟨j,rfl,g⟩:=b;have:=Yi h g
  simpa [Value.cells] using this
 | _=>cases h
def jg (ds:List D) (o:Nat) (new:List D):List D:=ds.take o++new++ds.drop (o+new.length)
def Sn {ds new:List D} {o:Nat} (h:o+new.length<=ds.length):(jg ds o new).length=ds.length:=by unfold jg;simp;omega
def Uv {i j es q:Nat} (h:i<j) (c:q<es):i*es+q<j*es:=by have b:(i+1)*es<=j*es:=A8 _ h;rw [Bq] at b;omega
def xh {α:Type} (vs new:List α) (o p:Nat) (h:o+new.length<=vs.length):(vs.take o++new++vs.drop (o+new.length))[p]?=if p<o then vs[p]? else if p<o+new.length then new[p-o]? else vs[p]?:=by
 have d:(vs.take o).length=o:=by simp;omega
 by_cases b:p<o
 ·rw [if_pos b,Bm,Bj (by omega),Bf,if_pos b]
 ·rw [if_neg b,Bm,A7 (by omega),d];by_cases c:p<o+new.length
  ·rw [if_pos c,Bj<|by omega]
  ·rw [if_neg c,A7 (by omega),List.getElem?_drop];congr 1;omega
def Pl {te tb:TypeId} {g:Option (Nat×Bool)} {i j es o:Nat} {xs:List (List D)} {s:SV} {new:List D} (hx:aj L x=.P3 i j es o) (hH:Hp.get H i=some (.row tb es xs)) (Q:j<xs.length)
  (hy:aj L y=s) (b0:de y=true) (hd:GK s=some new) (b1:(Γ.sh te).known=true) (hn:Az new.length (Γ.cells te)=true) (b2:Cj (o+new.length) es=true) :
  P6 Γ ⟨none,.store te x y,ty,pos,af,g⟩ k L H k L (Hp.set H i (.row tb es (xs.set j (jg xs[j] o new)))):=by
 intro e a w g2 m;obtain⟨b3,g3,hi,_,hs,_⟩:=Ctx.info<|Sh.Y1 b1;obtain⟨_,n,n0,g4,C,hp⟩:=Q5 m hx (Gb · _ _ _ _);have R:=m.op y<|cd b0;rw [hy] at R;obtain⟨S,E,T⟩:=UH hd R;have U:=Hp.mem_of hH;obtain⟨z,V,F,W,b4⟩:=(m.heap _ U).2;have g5:=Ab b2;have b5:=Ao hn;rcases V.2 with ⟨G,h3⟩|⟨g',g6,f,G,b6,Y,b7,c0,c4,Z⟩
 ·omega
 rw [C] at G;cases G;generalize hN:(a.eval y).cells.toList=N at S E T;have c5:z.length=xs.length*es:=V.1;have g7:j*es+o+N.length<=xs.length*es:=by
  have A:(j+1)*es<=xs.length*es:=A8 _ Q;rw [Bq] at A;omega
 have g8:xs.length*es<=f.toList.length:=by
  rw [<- c5,<- Z,Ap];exact Nat.min_le_right _ _
 have a0:=run_storeCells_at Γ.P n (j*es+o) tb N 0 f w Y (by rw [<- A5];omega) E;have c6:(execOp a.eval ⟨none,.store te x y,ty,pos,af,g⟩).run Γ.P w=.ok .skip (w.setRow n (f.toList.take (j*es+o)++N++f.toList.drop (j*es+o+N.length)).toArray):=by
  have e1:(a.eval y).cells.size=b3.size:=by rw [<- A5,hN,S,b5,hs]
  rw [<- hN] at a0 ⊢;simp only [execOp,Instr.storeAt,hp,Instr.sureAddr];simp [storeVar,c9 hi,e1,a0]
 unfold Oper.wp;rw [c6];have a1:HB.owned e (i,.row tb es xs)=some n:=by simp [HB.owned,C,Value.ownBlock]
 refine⟨e,m.Ck (b':=.row tb es<|xs.set j<|jg xs[j] o new) hH ?_ rfl rfl rfl (λ_=>Af _) (λe2 _ hc=>setRow_other w _ e2 _<|λh=>hc<|by rw [a1,h]) rfl ?_⟩
 ·simp [World.setRow]
 ·have e3:(z.take (j*es+o)++N++z.drop (j*es+o+N.length)).length=xs.length*es:=by simp;omega
  have e4:(w.setRow n (f.toList.take (j*es+o)++N++f.toList.drop (j*es+o+N.length)).toArray).heap[n]?=some (.cells (f.toList.take (j*es+o)++N++f.toList.drop (j*es+o+N.length)).toArray tb (0,0)):=setRow_heap w n f _ tb (0,0) Y;have a2:∀ b,b<w.heap.size->¬ Γ.X e H b->(w.setRow n (f.toList.take (j*es+o)++N++f.toList.drop (j*es+o+N.length)).toArray).heap[b]?=w.heap[b]?:=λb _ hb=>setRow_other w _ b _<|λh=>hb (.inr (List.mem_filterMap.2 ⟨_,U,by rw [a1,h]⟩))
  have e5:xs[j].length=es:=F j Q;refine⟨z.take (j*es+o)++N++z.drop (j*es+o+N.length),⟨by rw [e3,A6],.inr ⟨n,_,_,?_,b6,e4,?_,c0,?_,?_⟩⟩,λc I=>?_,λv l=>?_,λc I q B=>?_⟩
  ·rw [A6];exact C
  ·rw [A6];exact b7
  ·rw [<- c4];simp only [List.size_toArray,List.length_append,Ap,A9,A5];have g9:f.toList.length=f.size:=A5;omega
  ·rw [A6];apply Ce;intro p;rw [Bf];by_cases J:p<xs.length*es
   ·rw [if_pos J,xh _ _ _ _ (by omega),xh _ _ _ _<|by omega];have e6:f.toList[p]?=z[p]?:=by rw [<- Z,Bf,if_pos J]
    rw [e6]
   ·rw [if_neg J,Be<|by omega]
  ·rw [H6];split
   ·rw [Sn<|by omega];exact e5
   ·exact F c<|by simpa using I
  ·simp only [C0] at l;rcases l with (l|l)|l
   ·exact W v<|List.mem_of_mem_take l
   ·exact E v l
   ·exact W v<|List.mem_of_mem_drop l
  ·have a3:c<xs.length:=by simpa using I
   rw [xh _ _ _ _<|by omega];have M:∀ (B:q<xs[c].length),∃ v,z[c*es+q]?=some v/\Q0 (Γ.X e H) (w.setRow n (f.toList.take (j*es+o)++N++f.toList.drop (j*es+o+N.length)).toArray) v (xs[c][q]'B):=λB=>by
    obtain⟨v,r,u⟩:=b4 c a3 q B;exact⟨v,r,Q0.N1 (by simp [World.setRow]) a2 (λ_ _ h=>h) u⟩
   have h0:=F c a3;by_cases O:c=j
   ·subst O;have e7:jg xs[c] o new=(xs.set c<|jg xs[c] o new)[c]:=by simp
    have a4:q<(jg xs[c] o new).length:=by rw [e7];exact B
    have a5:q<es:=by rw [Sn<|by omega] at a4;omega
    have e9:=xh xs[c] new o q (by omega);have d:(xs[c].take o++new++xs[c].drop (o+new.length))[q]?=some ((xs.set c<|jg xs[c] o new)[c][q]):=by
     have h9:=Ad a4;simp only [List.getElem_set_self];exact h9
    rw [e9] at d;by_cases q1:q<o
    ·rw [if_pos q1] at d;rw [if_pos<|by omega];obtain⟨v,r,u⟩:=M (by omega);rw [Ad<|by omega] at d;injection d with d
     exact⟨v,r,d▸u⟩
    ·rw [if_neg q1] at d;rw [if_neg<|by omega];by_cases q2:q<o+new.length
     ·rw [if_pos q2] at d;rw [if_pos (by omega),show c*es+q-(c*es+o)=q-o by omega];obtain⟨g1,u1,u2⟩:=T (q-o) (by omega);rw [Ad<|by omega] at d;injection d with d
      exact⟨g1,u1,d▸Q0.N1 (by simp [World.setRow]) a2 (λ_ _ h=>h) u2⟩
     ·rw [if_neg q2] at d;rw [if_neg<|by omega];obtain⟨v,r,u⟩:=M (by omega);rw [Ad<|by omega] at d;injection d with d
      exact⟨v,r,d▸u⟩
   ·have a9:(xs.set j<|jg xs[j] o new)[c]=xs[c]:=by rw [H6,if_neg<|λh=>O h.symm]
    have a5:q<xs[c].length:=by rw [<- a9];exact B
    obtain⟨v,r,u⟩:=M a5;have l:(xs.set j<|jg xs[j] o new)[c][q]=xs[c][q]:=by simp only [a9]
    rw [l];rcases Nat.lt_or_gt_of_ne O with A|A
    ·have:=Uv (es:=es) (q:=q) A (by omega)
     rw [if_pos<|by omega];exact⟨v,r,u⟩
    ·have:=Uv (es:=es) (q:=o+N.length-1) A
     have h4:(j+1)*es<=c*es:=A8 _ A;rw [Bq] at h4;rw [if_neg (by omega),if_neg<|by omega];exact⟨v,r,u⟩
def iX {d z n:Nat} {te:TypeId} {g:Option (Nat×Bool)} {x y:Operand} {m':Int} {c:Value} {j:D} (r:¬ k z) (F:Γ.sh t=.slice te) (G:(Γ.sh te).known=true) (I:Γ.cells te=1) (u:(ai Γ.τ te).zero=[c]) (J:S6 c=.d j) (M:gp (ai Γ.τ te).zero=true)
  (l:aj L x=.d (.int .i64 m')) (N:aj L y=.d (.int .i64 m')) (O:m'=(n:Int)) (a9:(ai Γ.τ te).bytes*n<=281474976710656) (v:n<=maxLen) (Q:Av d Γ.n=true) :
  P6 Γ ⟨some d,.makeSlice t x y,ty,pos,af,g⟩ k L H (oa k z) ((d,.row z)::L) ((z,.row te 1 (Aq n [j]))::H):=by
 subst O;intro e a w b0 m;have R:¬ e.U4 z:=λh=>r<|(m.top z).1 h
 obtain⟨o,zv,S,T,U,f,V⟩:=Ctx.info<|Sh.Y1 G;have W:zv.cells = #[c]:=by
  apply Array.toList_inj.1;rw [V,u]
 have Y:(o.bytes:Int)*(n:Int)<=281474976710656:=by
  have h:((o.bytes*n:Nat):Int)<=281474976710656:=by rw [f];omega
  rwa [Int.natCast_mul] at h
 have A:=run_make (P:=Γ.P) w t te o zv (Ctx.slice F) S T .i64 .i64 (n:Int) n (by omega) (Df _) Y (by unfold maxLen at v;omega);rw [U,I,Dq,W,Int.toNat_natCast] at A;have Z:(execOp a.eval ⟨some d,.makeSlice t x y,ty,pos,af,g⟩).run Γ.P w=.ok (.value<|.slice (some ⟨w.heap.size,0,none⟩) n n) (w.alloc<|.cells (madeCells #[c] n) te):=by
  simp [execOp,R8 m l,R8 m N,A]
 unfold Oper.wp;rw [Z];have q:(e.Q2 z<|.slice (some ⟨w.heap.size,0,none⟩) n n).η z=.slice (some ⟨w.heap.size,0,none⟩) n n:=if_pos rfl;obtain⟨B,C⟩:=ij (X:=Γ.X e H) (e:=e) (w:=w) _ M;rw [u] at B C;have a0:c.oneCell'=true:=C c<|List.mem_singleton.2 rfl;have a1:Q0 (Γ.X e H) w c j:=by
  have E:=B.1;rw [J] at E;exact E
 have m2:=m.new r (hb:=.row te 1<|Aq n [j]) (e':=e.Q2 z<|.slice (some ⟨w.heap.size,0,none⟩) n n) (w':=w.alloc<|.cells (madeCells #[c] n) te) (λi=>or_congr (m.top i) Iff.rfl) (e.N3 _ _ R) (eh Γ.dr _ _)
  (λb f=>by simp only [HB.owned,q,Value.ownBlock,Option.some.injEq] at f;omega) (λhX=>by
   refine⟨Aq n c,⟨by simp,.inr ⟨w.heap.size,n,_,by rw [q,List.length_replicate],Nat.zero_le _,heap_alloc_new w _,by simp,v,by simp [size_madeCells],by rw [toList_madeCells_one];simp⟩⟩,λi h=>by simp,λa2 hv=>?_,λi h a3 hj=>?_⟩
   ·rw [(List.mem_replicate.1 hv).2];exact a0
   ·have a4:a3=0:=by simp at hj;omega
    subst a4;have a5:i<n:=by simpa using h
    refine⟨c,by simp [a5],?_⟩
    simp only [List.getElem_replicate,List.getElem_cons_zero];exact Q0.N1 (eh Γ.dr _ _).size (λb f _=>(eh Γ.dr _ _).block b f) (λb f l=>hX b f l) a1)
 exact⟨_,m2.put (s:=.row z) (v:=.slice (some ⟨w.heap.size,0,none⟩) n n) (Ab Q) ⟨.inr rfl,q.symm,rfl⟩⟩
end
end
end Go.Proofs.YtapciiffpnociabGreat
