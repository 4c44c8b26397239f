/- Several texts in one: GxUp GxFw GxFt GxAny GxReg GxSim. Condition: none. -/
import Derived.Test.YtapciiffpnociabGreatM03
set_option linter.all false
open Array renaming mem_toList_iff→Gz,toList_append→C3
open Bool renaming and_eq_true→Ae,false_or→Ci,not_true→Fg,or_eq_true→Ei
open List renaming all_append→Du,all_cons→Dx,all_eq_true→Cc,any_eq_true→H8,cons_append→Dh,eq_nil_of_length_eq_zero→Bg,filterMap_cons→Br,flatMap_def→H7,map_congr_left→Di,map_cons→A3,mem_append_left→Ax,mem_append_right→Bv,mem_cons→Bl,mem_cons_of_mem→Ak,mem_cons_self→Ac,mem_filterMap→E4,mem_singleton→A1,not_mem_nil→B6,pairwise_append→G0
open Nat renaming beq→Az,ble→Cj,blt→Av,eq_of_beq_eq_true→Ao,le_of_ble_eq_true→Ab,le_refl→Af,lt_of_lt_of_le→As,ne_of_beq_eq_false→By,not_lt_zero→A2,zero_le→Ai,zero_lt_one→Gu
namespace Go.Proofs.YtapciiffpnociabGreat
open Go Go.RowKit
variable {pos:String} {af:Array Edge}
section
open Go Go.RowKit
variable [Y0]
inductive Up where
 | no
 | new (b:HB)
 | set (i:Nat) (b:HB)
 | M5 (i:Nat) (b:HB)
 | del (i:Nat)
 | TH (i j:Nat)
def Up.VZ (b:Bool):Up->Prop
 | .M5 _ _=>b=false
 | _=>True
def Ld (η:Nat->Option HB) (i:Nat) (b:Option HB):Nat->Option HB:=λj=>if i=j then b else η j
def Up.app (z:Nat):Up->(Nat->Option HB)->(Nat->Option HB)
 | .no,η=>η
 | .new b,η=>Ld η z (some b)
 | .set i b,η=>Ld η i (some b)
 | .M5 i b,η=>Ld (Ld η i none) z (some b)
 | .del i,η=>Ld η i none
 | .TH i j,η=>Ld (Ld η i none) j none
def Up.lQ (z:Nat):Up->Hp->Hp
 | .no,H=>H
 | .new b,H=>(z,b)::H
 | .set i b,H=>Hp.set H i b
 | .M5 i b,H=>(z,b)::Hp.del H i
 | .del i,H=>Hp.del H i
 | .TH i j,H=>Hp.del (Hp.del H i) j
def Up.Z0 (z:Nat):Up->List Nat
 | .no=>[]
 | .new _=>[z]
 | .set i _=>[i]
 | .M5 i _=>[i,z]
 | .del i=>[i]
 | .TH i j=>[i,j]
def Mb (τ:List (Nat×TI)) (t:TypeId) (a b:SV) (η:Nat->Option HB) (z:Nat):Option (Prop×SV×Up):=match (ai τ t).sh with
 | .slice f=>match (ai τ f).sh.known&&(Av 0 (ai τ f).cells&&Az (ai τ f).zero.length (ai τ f).cells) with
  | true=>match a,b with
   | .row i,.d (.slice n h)=>match η i with
    | some (.row p q m)=>match Az p f&&(Az q (ai τ f).cells&&Az n (ai τ f).cells) with
     | true=>some ((m.length+h.length)*(ai τ f).bytes<=140737488355328/\m.length+h.length<=maxLen,.row z,.M5 i<|.row f (ai τ f).cells<|m++h)
     | false=>none
    | _=>none
   | _,_=>none
  | false=>none
 | _=>none
def Tj (τ:List (Nat×TI)) (t:TypeId) (a b:SV) (η:Nat->Option HB) (z:Nat):Option (Prop×SV×Up):=match (ai τ t).sh with
 | .slice h=>match ai τ h with
  | ⟨p,f,bytes,q,_⟩=>match p.known&&(Av 0 f&&Az q.length f) with
   | true=>match a,b with
    | .row i,.d (.slice r m)=>match η i with
     | some (.row u v n)=>match Az u h&&(Az v f&&Az r f) with
      | true=>some ((n.length+m.length)*bytes<=140737488355328/\n.length+m.length<=maxLen,.row z,.M5 i<|.row h f<|n++m)
      | false=>none
     | _=>none
    | _,_=>none
   | false=>none
 | _=>none
def yw (τ:List (Nat×TI)) (t:TypeId) (a b:SV) (η:Nat->Option HB) (z:Nat):Tj τ t a b η z=Mb τ t a b η z:=by
 unfold Tj Mb;cases (ai τ t).sh with
 | slice d =>
  generalize ai τ d=f;cases f;rfl
 | _=>rfl
def dh (τ:List (Nat×TI)) (g:Operand->SV) (t:TypeId) (len:Nat) (ps:List (Nat×Operand)):Option (Prop×SV×Up):=match (ai τ t).sh with
 | .slice b=>match (ai τ b).sh.known&&(Av 0 (ai τ b).cells&&(gp (ai τ b).zero&&(Az (ai τ b).zero.length (ai τ b).cells&&Cj (len*(ai τ b).cells) 16777216))) with
  | true=>match qm (λi=>some (i*(ai τ b).cells,(ai τ b).cells)) (ux (o6 τ b)<|len*(ai τ b).cells) (ps.map λp=>(p.1,g p.2)) with
   | some f=>match Az f.length (len*(ai τ b).cells) with
    | true=>match rowsOf (KK τ 4 b) (ai τ b).cells len f with
     | some h=>some (True,.d (.slice (ai τ b).cells h),.no)
     | none=>none
    | false=>none
   | none=>none
  | false=>none
 | _=>none
def eX:SV->List Nat
 | .row i=>[i]
 | _=>[]
def jB:SV->List Nat
 | .agg b=>b.flatMap eX
 | s=>eX s
def wF (i es:Nat) (xs:List (List D)):SV->SV
 | .row j=>match Az j i with|true=>.d (.slice es xs)|false=>.row j
 | s=>s
def ld (i es:Nat) (xs:List (List D)):SV->SV
 | .agg b=>.agg (b.map (wF i es xs))
 | s=>wF i es xs s
def oz (τ:List (Nat×TI)) (g:Operand->SV) (η:Nat->Option HB) (t:TypeId) (len:Nat) (ps:List (Nat×Operand)):Option (Prop×SV×Up):=match ps.flatMap λp=>jB (g p.2) with
 | []=>dh τ g t len ps
 | [i]=>match η i with
  | some (.row _ b d)=>match dh τ (λx=>ld i b d<|g x) t len ps with
   | some (p,s,.no)=>some (p,s,.del i)
   | _=>none
  | _=>none
 | [i,j]=>match η i with
  | some (.row _ b d)=>match Ld η i none j with
   | some (.row _ f h)=>match dh τ (λx=>ld j f h<|ld i b d<|g x) t len ps with
    | some (p,s,.no)=>some (p,s,.TH i j)
    | _=>none
   | _=>none
  | _=>none
 | _=>none
def sp (τ:List (Nat×TI)) (te:TypeId) (a b:SV) (η:Nat->Option HB):Option (Prop×SV×Up):=match a with
 | .loc i o=>match η i with
  | some (.M1 f m)=>match b.isVar&&((ai τ te).sh.known&&(Az b.cells.length (ai τ te).cells&&Cj (o+b.cells.length) m.length)) with
   | true=>tc (nd m o b.cells) λl=>some (True,.M2 [],.set i<|.M1 f l)
   | false=>none
  | _=>none
 | .P3 i j n o=>match η i with
  | some (.row f p h)=>match b with
   | .d x=>match (ai τ te).sh.known&&(Az (ai τ te).cells 1&&(Az n 1&&(Az p 1&&Az o 0))) with
    | true=>some (j<h.length/\(∀ y∈h,y.length=1),.M2 [],.set i<|.row f 1<|h.set j [x])
    | false=>none
   | _=>none
  | _=>none
 | _=>none
def qS (τ:List (Nat×TI)) (t:TypeId) (a b:SV) (z:Nat):Option (Prop×SV×Up):=match (ai τ t).sh with
 | .slice f=>match (ai τ f).sh.known&&(Az (ai τ f).cells 1&&gp (ai τ f).zero) with
  | true=>match (ai τ f).zero with
   | [h]=>match S6 h with
    | .d p=>match a,b with
     | .d (.int .i64 n),.d (.int .i64 m)=>some (n=m/\0<=n/\(ai τ f).bytes*n.toNat<=281474976710656/\n.toNat<=maxLen,.row z,.new<|.row f 1<|List.replicate n.toNat [p])
     | _,_=>none
    | _=>none
   | _=>none
  | false=>none
 | _=>none
def oe (τ:List (Nat×TI)) (g:Operand->SV) (η:Nat->Option HB) (z:Nat):Op->Option (Prop×SV×Up)
 | .alloc b=>match (ai τ b).sh.known&&gp (ai τ b).zero with
  | true=>tc (o6 τ b) λl=>some (True,.loc z 0,.new (.M1 b l))
  | false=>none
 | .box b x=>match (g x).isVar with
  | true=>tc (g x).cells λl=>some (True,.loc z 0,.new (.M1 b l))
  | false=>none
 | .buildSlice t d f=>oz τ g η t d f.toList
 | .makeSlice t x y=>qS τ t (g x) (g y) z
 | .call { callee:=.builtin .append,args,argTypes }=>match args.toList,argTypes.toList with
  | [x,y],[t,t']=>match Az t t' with
   | true=>Tj τ t (g x) (g y) η z
   | false=>none
  | _,_=>none
 | op=>match Z7 τ g η op with
  | some (p,s)=>some (p,s,.no)
  | none=>none
def jv (τ:List (Nat×TI)) (g:Operand->SV) (η:Nat->Option HB) (z:Nat) (dst:Option Nat) (op:Op):Option (Prop×SV×Up):=match dst with
 | some _=>oe τ g η z op
 | none=>match op with
  | .store b x y=>sp τ b (g x) (g y) η
  | _=>none
def Hp.C1 (d:Nat) (s:HB) (H:Hp) (t:Nat):Hp.get ((d,s)::H) t=if d=t then some s else Hp.get H t:=by
 simp only [Hp.get];cases h:Az d t with
 | true=>rw [if_pos<|Ao h]
 | false=>rw [if_neg<|By h]
def Hp.Mr (i:Nat) (b:HB):∀ (H:Hp) (f:HB),Hp.get H i=some f->∀ t,Hp.get (Hp.set H i b) t=if i=t then some b else Hp.get H t
 | [],_,h,_=>by simp [Hp.get] at h
 | (d,s)::H,f,h,t=>by
  rw [Hp.C1] at h
  simp only [Hp.set]
  cases n:Az d i with
  | true =>
   have:=Ao n
   subst this
   simp only [Hp.C1]
   split<;>rfl
  | false =>
   have p:=By n
   rw [if_neg p] at h
   simp only [Hp.C1]
   rw [Hp.Mr i b H f h t]
   by_cases m:d=t
   ·subst m;rw [if_pos rfl,if_neg (λh=>p h.symm),if_pos rfl]
   ·rw [if_neg m,if_neg m]
def Hp.get_none {H:Hp} {i:Nat} (h:i ∉ H.map (·.1)):Hp.get H i=none:=by
 cases d:Hp.get H i with
 | none=>rfl
 | some b=>exact absurd (List.mem_map.2 ⟨_,Hp.get_mem H i b d,rfl⟩) h
def Hp.M8 (i:Nat):∀ (H:Hp),(H.map (·.1)).Nodup->∀ t,Hp.get (Hp.del H i) t=if i=t then none else Hp.get H t
 | [],_,t=>by simp [Hp.del,Hp.get]
 | (d,s)::H,m,t=>by
  obtain⟨n,p⟩:=List.nodup_cons.1 m
  simp only [Hp.del]
  cases f:Az d i with
  | true =>
   have:=Ao f
   subst this
   simp only [Hp.C1]
   by_cases b:d=t
   ·subst b;rw [if_pos rfl];exact Hp.get_none n
   ·rw [if_neg b,if_neg b]
  | false =>
   have q:=By f
   simp only [Hp.C1]
   rw [Hp.M8 i H p t]
   by_cases b:d=t
   ·subst b;rw [if_pos rfl,if_neg (λh=>q h.symm),if_pos rfl]
   ·rw [if_neg b,if_neg b]
def Hp.Mc:∀ (H:Hp),(H.map (·.1)).Nodup->∀ p∈H,Hp.get H p.1=some p.2
 | [],_,p,b=>by simp at b
 | (d,s)::H,f,p,b=>by
  obtain⟨m,n⟩:=List.nodup_cons.1 f
  rw [Hp.C1]
  rcases List.mem_cons.1 b with rfl|b
  ·rw [if_pos rfl]
  ·have:d≠p.1:=λh=>m (List.mem_map.2 ⟨p,b,h.symm⟩)
   rw [if_neg this];exact Hp.Mc H n p b
section
variable {Γ : Ctx} {k : Nat -> Prop} {L : Sl} {H : Hp} {a : Act} {w : World} {e : Env}
def J0.Vq (m:J0 Γ k L H e a w) {k':Nat->Prop} (r:∀ i,k i->k' i):∃ e',J0 Γ k' L H e' a w:=by
 let e':Env:=⟨e.β,e.η,k'⟩
 have f:∀ i,e.U4 i->e'.β i=e.β i/\e'.η i=e.η i:=λ_ _=>⟨rfl,rfl⟩
 have n:∀ i,e.U4 i->e'.U4 i:=λi h=>r i<|(m.top i).1 h
 have q:ah e' H=ah e H:=n3 f H λp d=>(m.heap p d).1
 have u:∀ b,Γ.X e' H b↔Γ.X e H b:=λb=>by unfold Ctx.X;rw [q]
 refine⟨e',⟨⟨λi=>Iff.rfl,λp d=>⟨n _ (m.heap p d).1,?_⟩,m.ids,q▸m.nodup,λb v=>m.M3 b (q▸v),m.os,m.tape,m.output,m.drawn,m.size,m.block,m.T1,m.S4,λj z=>r j (m.L8 j z),m.anchor⟩,m.defers,m.len,λt=>?_⟩⟩
 ·exact I4.N1 (Af _) (λ_ _ _=>rfl) (λb _ h=>(u b).1 h) p (λ_ _=>rfl)<|I4.ext n f p (m.heap p d).1 (m.heap p d).2
 ·exact Rel.N1 (Af _) (λ_ _ _=>rfl) (λb _ h=>(u b).1 h) _ _<|Rel.ext n f _ _<|m.slot t
def J0.V6 (m:J0 Γ k L H e a w) (z:Nat):∃ e',J0 Γ (oa k z) L H e' a w:=m.Vq λ_ h=>Or.inl h
def P6.V6 {o:Oper} {k':Nat->Prop} {L':Sl} {H':Hp} (h:P6 Γ o k L H k' L' H') (z:Nat):P6 Γ o k L H (oa k' z) L' H':=by intro e a w Q m;refine Oper.wp_mono ?_<|h e a w Q m;rintro a' w' ⟨e',m'⟩;exact m'.V6 z
def Mq:Option Nat->SV->Sl->Sl
 | none,_,L=>L
 | some d,s,L=>(d,s)::L
def dC (Γ:Ctx):Option Nat->Bool
 | none=>true
 | some d=>Av d Γ.n
def Hb {τ:List (Nat×TI)} {g:Operand->SV} {t len:Nat} {ps:List (Nat×Operand)} {p:Prop} {s:SV} {u:Up} (h:dh τ g t len ps=some (p,s,u)):u=.no:=by
 unfold dh at h;repeat' (split at h)
 all_goals cases h
 rfl
def Wm {d:Nat} {t len:Nat} {ty:TypeId} {g:Option (Nat×Bool)} {ps:Array (Nat×Operand)} {p:Prop} {s:SV} {b:Sl} {m:Hp} (u:∀ e a w,J0 Γ k L H e a w->J0 Γ k b m e a w/\J0 Γ k L m e a w)
  (h:dh Γ.τ (aj b) t len ps.toList=some (p,s,.no)) (v:cx (.buildSlice t len ps)=true) (z:Av d Γ.n=true) :
  P6 Γ ⟨some d,.buildSlice t len ps,ty,pos,af,g⟩ k L H k ((d,s)::L) m:=by
 unfold dh at h;split at h
 ·rename_i M A;split at h
  ·rename_i q;simp only [Ae] at q;obtain⟨B,C,E,F,G⟩:=q;split at h
   ·rename_i N r;split at h
    ·rename_i I;split at h
     ·rename_i O J;cases h;obtain⟨f⟩:=ps;have K:mr f=true:=P9 _ (by simpa [cx,Op.operands,List.all_map,Function.comp_def] using v);rw [show (List.map (λp=>(p.1,aj b p.2)) (Array.mk f).toList)=mq b f from (O9 f).symm] at r;exact Nv u A B rfl C E F K G r I J z
     ·cases h
    ·cases h
   ·cases h
  ·cases h
 ·cases h
def lI {d:Nat} {t len:Nat} {ty:TypeId} {g:Option (Nat×Bool)} {ps:Array (Nat×Operand)} {p:Prop} {s:SV} (h:dh Γ.τ (aj L) t len ps.toList=some (p,s,.no)) (b:cx (.buildSlice t len ps)=true) (f:Av d Γ.n=true) :
  P6 Γ ⟨some d,.buildSlice t len ps,ty,pos,af,g⟩ k L H k ((d,s)::L) H:=Wm (λ_ _ _ m=>⟨m,m⟩) h b f
def Tt (i es:Nat) (xs:List (List D)):∀ (L:Sl) (t:Nat),Sl.get (L.map λq=>(q.1,ld i es xs q.2)) t=ld i es xs (L.get t)
 | [],_=>rfl
 | (d,s)::L,t=>by
  rw [A3,Sl.C1,Sl.C1,Tt i es xs L t]
  split<;>rfl
def bD (i es:Nat) (xs:List (List D)) (L:Sl) (x:Operand):aj (L.map λq=>(q.1,ld i es xs q.2)) x=ld i es xs (aj L x):=by
 cases x with
 | tmp t=>exact Tt i es xs L t
 | const v =>
  simp only [aj];unfold S6;split<;>rfl
 | global g=>rfl
 | func f=>rfl
def aB {X X':Nat->Prop} {e:Env} {w:World} {i es:Nat} {xs:List (List D)} (f:∀ b,X' b->X b) (hi:Q0 X' w (e.η i) (.slice es xs)) (s:SV) (v:Value) (h:Rel X e w s v):Rel X' e w (wF i es xs s) v:=by
 have d:=Rel.N1 (Af _) (λ_ _ _=>rfl) (λb _ h=>f b h) (Y:=X') (w':=w) _ _ h;unfold wF;split
 ·rename_i j;cases m:Az j i with
  | true =>
   have:=Ao m
   subst this;simp only;rw [h.2.1];exact hi
  | false=>exact d
 ·exact d
def bB {X X':Nat->Prop} {e:Env} {w:World} {i es:Nat} {xs:List (List D)} (d:∀ b,X' b->X b) (hi:Q0 X' w (e.η i) (.slice es xs)):∀ (ss:List SV) (vs:List Value),O0 X e w ss vs->O0 X' e w (ss.map (wF i es xs)) vs
 | [],[],_=>trivial
 | [],_::_,h=>h.elim
 | _::_,[],h=>h.elim
 | s::ss,v::vs,h=>⟨aB d hi s v h.1,bB d hi ss vs h.2⟩
def wN {X X':Nat->Prop} {e:Env} {w:World} {i es:Nat} {xs:List (List D)} (d:∀ b,X' b->X b) (hi:Q0 X' w (e.η i) (.slice es xs)) (s:SV) (v:Value) (h:Rel X e w s v):Rel X' e w (ld i es xs s) v:=by
 cases s with
 | agg m =>
  obtain⟨f,n,p⟩:=h;exact⟨f,n,bB d hi m f p⟩
 | _=>exact aB d hi _ v h
def V8 {e:Env} {a:Act} {w:World} {i te es:Nat} {xs:List (List D)} (m:J0 Γ k L H e a w) (hH:Hp.get H i=some (.row te es xs)):J0 Γ k (L.map λq=>(q.1,ld i es xs q.2)) (Hp.del H i) e a w:=
 let ⟨b,d⟩:=m.del i
 ⟨b.toHeap,b.defers,b.len,λt=>by rw [Tt];exact wN d (qz m hH) _ _<|m.slot t⟩
def bQ {d i es:Nat} {t len te:Nat} {ty:TypeId} {g:Option (Nat×Bool)} {ps:Array (Nat×Operand)} {p:Prop} {s:SV} {xs:List (List D)} (hH:Hp.get H i=some (.row te es xs))
  (h:dh Γ.τ (λx=>ld i es xs (aj L x)) t len ps.toList=some (p,s,.no)) (b:cx (.buildSlice t len ps)=true) (f:Av d Γ.n=true) :
  P6 Γ ⟨some d,.buildSlice t len ps,ty,pos,af,g⟩ k L H k ((d,s)::L) (Hp.del H i):=
 Wm (λ_ _ _ m=>⟨V8 m hH,(m.del i).1⟩) (by rw [show aj (L.map λq=>(q.1,ld i es xs q.2))=λx=>ld i es xs (aj L x) from funext<|bD i es xs L];exact h) b f
def PK {d i j es b:Nat} {t len te f:Nat} {ty:TypeId} {g:Option (Nat×Bool)} {ps:Array (Nat×Operand)} {p:Prop} {s:SV} {xs ys:List (List D)} (hH:Hp.get H i=some (.row te es xs)) (r:Ld (Hp.get H) i none j=some (.row f b ys))
  (h:dh Γ.τ (λx=>ld j b ys (ld i es xs (aj L x))) t len ps.toList=some (p,s,.no)) (u:cx (.buildSlice t len ps)=true) (v:Av d Γ.n=true) :
  P6 Γ ⟨some d,.buildSlice t len ps,ty,pos,af,g⟩ k L H k ((d,s)::L) (Hp.del (Hp.del H i) j):=
 Wm (λ_ _ _ m=>⟨V8 (V8 m hH) ((Hp.M8 i H m.ids j).trans r),((m.del i).1.del j).1⟩) (by rw [show aj ((L.map λq=>(q.1,ld i es xs q.2)).map λq=>(q.1,ld j b ys q.2))=λx=>ld j b ys (ld i es xs<|aj L x) from funext λx=>by rw [bD,bD]];exact h) u v
def zu {d:Nat} {op:Op} {ty:TypeId} {gd:Option (Nat×Bool)} {z:Nat} {p:Prop} {s:SV} {u:Up} (h:oe Γ.τ (aj L) (Hp.get H) z op=some (p,s,u)) (A:p) (E:u.VZ Γ.dr) (f:cx op=true) (m:Av d Γ.n=true) (B:¬ k z) :
  P6 Γ ⟨some d,op,ty,pos,af,gd⟩ k L H (oa k z) ((d,s)::L) (u.lQ z H):=by
 have F:∀ (op:Op),cx op=true->(match Z7 Γ.τ (aj L) (Hp.get H) op with|some (p,s)=>some (p,s,Up.no)|none=>none)=some (p,s,u)->P6 Γ ⟨some d,op,ty,pos,af,gd⟩ k L H (oa k z) ((d,s)::L) (u.lQ z H):=by
  intro op f h;cases G:Z7 Γ.τ (aj L) (Hp.get H) op with
  | none=>simp [G] at h
  | some q =>
   obtain⟨P,Q⟩:=q;simp only [G,Option.some.injEq,Prod.mk.injEq] at h;obtain⟨rfl,rfl,rfl⟩:=h;exact (sZ (vz G A f) m).V6 z
 cases op with
 | alloc I =>
  simp only [oe,il] at h;split at h
  ·rename_i b;cases h;simp only [Ae] at b;exact VR B b.1 b.2 rfl m
  ·cases h
 | box I x =>
  simp only [oe,il] at h;split at h
  ·rename_i b;cases h;exact TX B rfl (by simpa [cx,Op.operands] using f) b m
  ·cases h
 | buildSlice t a4 ps =>
  simp only [oe] at h;unfold oz at h;split at h
  ·have E:u=.no:=Hb h;subst E;exact (lI h f m).V6 z
  ·rename_i i _;split at h
   ·rename_i R M N v;split at h
    ·rename_i P Q T;cases h;exact (bQ v T f m).V6 z
    ·cases h
   ·cases h
  ·rename_i i j _;split at h
   ·rename_i R M N v;split at h
    ·rename_i a5 a9 U V;split at h
     ·cases h;exact (PK v V ‹_› f m).V6 z
     ·cases h
    ·cases h
   ·cases h
  ·cases h
 | makeSlice t x y =>
  simp only [oe,qS] at h;split at h
  ·rename_i I r;split at h
   ·rename_i b;simp only [Ae] at b;split at h
    ·rename_i v0 W;split at h
     ·rename_i x0 X;split at h
      ·rename_i n m' J K;cases h;obtain⟨rfl,Y,Z,h2⟩:=A;exact iX B r b.1 (Ao b.2.1) W X b.2.2 J K (Int.toNat_of_nonneg Y).symm Z h2 m
      ·cases h
     ·cases h
    ·cases h
   ·cases h
  ·cases h
 | call c =>
  obtain⟨a0,a1,ts⟩:=c;cases a0 with
  | builtin a2 =>
   cases a2;case append =>
    simp only [oe] at h;split at h
    ·rename_i x y t t' O r;obtain⟨al⟩:=a1;obtain⟨tl⟩:=ts;simp only at O r;subst O;subst r;split at h
     ·rename_i a3;have:=Ao a3
      subst this;rw [yw] at h;unfold Mb at h;split at h
      ·rename_i I r;split at h
       ·rename_i b;simp only [Ae] at b;split at h
        ·rename_i i M U J K;split at h
         ·rename_i b0 b1 N v;split at h
          ·rename_i C;simp only [Ae] at C;have e1:=Ao C.1;have e2:=Ao C.2.1;have e3:=Ao C.2.2;subst e1;subst e2;subst e3;cases h;haveI:P7 Γ:=⟨E⟩
           exact oA B r b.1 rfl b.2.1 b.2.2 J v K m A.1 A.2
          ·cases h
         ·cases h
        ·cases h
       ·cases h
      ·cases h
     ·cases h
    ·cases h
   all_goals exact F _ f h
  | _=>exact F _ f h
 | _=>exact F _ f h
def oF {dst:Option Nat} {op:Op} {ty:TypeId} {gd:Option (Nat×Bool)} {z:Nat} {p:Prop} {s:SV} {u:Up} (h:jv Γ.τ (aj L) (Hp.get H) z dst op=some (p,s,u)) (m:p) (A:u.VZ Γ.dr) (f:cx op=true) (B:dC Γ dst=true) (C:¬ k z) :
  P6 Γ ⟨dst,op,ty,pos,af,gd⟩ k L H (oa k z) (Mq dst s L) (u.lQ z H):=by
 cases dst with
 | some d=>exact zu h m A f B C
 | none =>
  cases op with
  | store q x y =>
   simp only [jv] at h;simp only [sp,il] at h;split at h
   ·rename_i i o r;split at h
    ·rename_i E U n;split at h
     ·rename_i b;cases h;simp only [Ae] at b;simp only [cx,Op.operands,Dx,Ae] at f;exact (oG r n rfl f.2.1 b.1 b.2.1 b.2.2.1 b.2.2.2).V6 z
     ·cases h
    ·cases h
   ·rename_i i j V o r;split at h
    ·rename_i E W v n;split at h
     ·rename_i x F;split at h
      ·rename_i b;cases h;simp only [Ae] at b;simp only [cx,Op.operands,Dx,Ae] at f;obtain⟨G,I,J,K,M⟩:=b;have N:=Ao J;have O:=Ao K;have P:=Ao M;have Q:=Ao I;subst N;subst P;rw [O] at n;have R:v[j].length=1:=m.2 _<|List.getElem_mem m.1;have T:jg v[j] 0 [x]=[x]:=by
        unfold jg;match X:v[j],R with
        | [u],_=>rfl
       have:=Pl (k:=k) (te:=q) (pos:=pos) (af:=af) (g:=gd) (ty:=ty) (new:=[x]) r n m.1 F f.2.1 rfl G (by rw [show Γ.cells q=1 from Q];rfl) rfl
       rw [T] at this;exact this.V6 z
      ·cases h
     ·cases h
    ·cases h
   ·cases h
  | _=>cases h
def J0.same (m:J0 Γ k L H e a w) {L':Sl} {H':Hp} (u:∀ t,Sl.get L t=Sl.get L' t) (hH:∀ i,Hp.get H i=Hp.get H' i) (f:(H'.map (·.1)).Nodup):J0 Γ k L' H' e a w:=by
 have n:∀ p,p∈H'↔p∈H:=by
  intro p;constructor
  ·intro d;have:=Hp.Mc H' f p d
   rw [<- hH] at this;exact Hp.get_mem H p.1 p.2 this
  ·intro d;have:=Hp.Mc H m.ids p d
   rw [hH] at this;exact Hp.get_mem H' p.1 p.2 this
 have v:H'.Perm H:=(List.perm_ext_iff_of_nodup (pg f)<|pg m.ids).2 n;have q:(ah e H').Perm (ah e H):=v.filterMap _;have r:∀ b,Γ.X e H' b↔Γ.X e H b:=λb=>or_congr Iff.rfl<|q.mem_iff
 refine⟨⟨m.top,λp d=>⟨(m.heap p<|(n p).1 d).1,?_⟩,f,q.nodup_iff.2 m.nodup,λb z=>m.M3 b (q.mem_iff.1 z),m.os,m.tape,m.output,m.drawn,m.size,m.block,m.T1,m.S4,m.L8,m.anchor⟩,m.defers,m.len,λt=>?_⟩
 ·exact I4.N1 (Af _) (λ_ _ _=>rfl) (λb _ h=>(r b).1 h) p (λ_ _=>rfl) (m.heap p<|(n p).1 d).2
 ·rw [<- u];exact Rel.N1 (Af _) (λ_ _ _=>rfl) (λb _ h=>(r b).1 h) _ _<|m.slot t
end
structure FS where
 Hd:Nat->SV
 η:Nat->Option HB
def FS.op (s:FS):Operand->SV
 | .tmp t=>s.Hd t
 | .const v=>S6 v
 | .func f=>.fn f []
 | _=>.V1
def FS.put (s:FS):Option Nat->SV->FS
 | none,_=>s
 | some d,v=>⟨λt=>if d=t then v else s.Hd t,s.η⟩
def FS.app (s:FS) (z:Nat) (dst:Option Nat) (v:SV) (u:Up):FS:=⟨(s.put dst v).Hd,u.app z s.η⟩
def L6 (L:Sl) (H:Hp):FS:=⟨L.get,Hp.get H⟩
def kz (L:Sl) (H:Hp):(L6 L H).op=aj L:=by funext x;cases x<;>rfl
def nv (L:Sl) (H:Hp) (dst:Option Nat) (v:SV):(L6 L H).put dst v=L6 (Mq dst v L) H:=by
 cases dst with
 | none=>rfl
 | some d=>simp only [FS.put,L6,Mq,FS.mk.injEq,and_true];funext t;rw [Sl.C1]
section
variable {Γ : Ctx} {k : Nat -> Prop} {L : Sl} {H : Hp} {a : Act} {w : World} {e : Env} {t t' ty : TypeId} {x y : Operand}
def UR {d z te:TypeId} {g:Option (Nat×Bool)} {es:Nat} (p:¬ k z) (r:Γ.sh t=.slice te) (u:(Γ.sh te).known=true) (A:Γ.cells te=es) (B:Av 0 es=true) (C:gp (ai Γ.τ te).zero=true) (E:Az (ai Γ.τ te).zero.length (Γ.cells te)=true) (F:Av d Γ.n=true) :
  P6 Γ ⟨some d,.buildSlice t 0 #[],ty,pos,af,g⟩ k L H (oa k z) ((d,.row z)::L) ((z,.row te es [])::H):=by
 intro e a w Q m;have G:¬ e.U4 z:=λh=>p<|(m.top z).1 h
 obtain⟨I,f2,f3,J⟩:=o9 (ty:=ty) (len:=0) (ps:=[]) (cs':=[]) r u A B C E rfl (by simp) (by simp [ux,qm,mq]) m;unfold Oper.wp;rw [J];have K:I = #[]:=by
  have:=O0.length _ _ f2
  apply Array.toList_inj.1;exact Bg<|by simpa using this.symm
 subst K;have f:(e.Q2 z<|.slice (some ⟨w.heap.size,0,none⟩) 0 0).η z=.slice (some ⟨w.heap.size,0,none⟩) 0 0:=if_pos rfl;have M:=m.new p (hb:=.row te es []) (e':=e.Q2 z<|.slice (some ⟨w.heap.size,0,none⟩) 0 0) (w':=w.alloc<|.cells #[] te) (λi=>or_congr (m.top i) Iff.rfl) (e.N3 _ _ G) (eh Γ.dr _ _)
  (λb q=>by simp only [HB.owned,f,Value.ownBlock,Option.some.injEq] at q;omega) (λN=>by
   refine⟨[],⟨by simp,.inr ⟨w.heap.size,0,#[],by rw [f];rfl,Ai _,heap_alloc_new w _,Af _,Ai _,by simp,by simp⟩⟩,by simp,by simp,by simp⟩)
 exact⟨_,M.put (s:=.row z) (v:=.slice (some ⟨w.heap.size,0,none⟩) 0 0) (Ab F) ⟨.inr rfl,f.symm,rfl⟩⟩
end
end
section
open Go Go.RowKit
variable [Y0]
def CC (d:Bool) (P:Program) (τ:List (Nat×TI)) (τok:c8 P τ) (f:FuncId) (args:List SV) (te:TypeId) (es:Nat) (R:List (List D)->Prop):Prop:=
 X1 d P τ τok f args 0 0 [] (λ_ r h=>∃ b,R b/\r=.row 0/\h=[(0,.row te es b)])
def CC.use {p:Bool} {Γ:Ctx} {τ:List (Nat×TI)} {τok:c8 Γ.P τ} {k:Nat->Prop} {L:Sl} {H:Hp} {f:FuncId} {args:List SV} {te:TypeId} {es:Nat} {R:List (List D)->Prop} (hc:CC p Γ.P τ τok f args te es R) {e:Env} {w:World} {a:Act} (m:J0 Γ k L H e a w) (C:SV.U1 0 args=true)
  (vs:List Value) (E:O0 (Γ.X e H) e w args vs) (z:Nat) :
  Calls Γ.P f vs.toArray w (λB w'=>∃ ys v,R ys/\B=.returned v/\W4 p w.heap.size w w'/\v.oneCell'=true/\(∀ b,v.ownBlock=some b->w.heap.size<=b) /\
   ∀ (X':Nat->Prop) (e':Env),e'.η z=v->(∀ b,X' b->Γ.X e H b∨v.ownBlock=some b)->I4 X' e' w' (z,.row te es ys)):=by
 have F:∀ b,Γ.X e H b->b<w.heap.size:=λb d=>d.elim (λh=>As (m.T1 b h).1 m.size)<|m.lt b
 have G:∀ e' b,Ctx.X ⟨Γ.P,τ,τok,Γ.X e H,w,λb=>b∈ah (e.V2 id 0) [],0,0,(e.V2 id 0).an,none,da,true,p⟩ e' [] b↔Γ.X e H b:=by
  intro e' b;unfold Ctx.X;simp [ah]
 refine (hc.2 (Γ.X e H) (e.V2 id 0) w vs ⟨λ_=>Iff.rfl,by simp,by simp,by simp [ah],by simp [ah],rfl,rfl,rfl,λ_=>Af _,Af _,λ_ _ _=>rfl,λb d=>⟨F b d,by simp [ah]⟩,m.U6.sub (by simp [ah]),λj q=>absurd q (A2 j),λj q=>absurd q<|A2 j⟩ ?_).mono ?_
 ·exact O0.N1 (Af _) (λ_ _ _=>rfl) (λb _ u=>(G _ b).1 u) _ _<|O0.env _ _ C E
 ·rintro B w' ⟨k',r,H',e',v,⟨ys,hR,rfl,rfl⟩,rfl,n,hrel⟩;obtain⟨_,A,I⟩:=hrel;refine⟨ys,v,hR,rfl,⟨⟨n.os,n.tape,n.output,n.size,λb d=>n.block b d<|by simp [ah]⟩,n.drawn⟩,I,λb d=>?_,λX' Z J K=>?_⟩
  ·have M:b∈ah e' [(0,HB.row te es ys)]:=List.mem_filterMap.2 ⟨_,Ac ..,by show (e'.η 0).ownBlock=some b;rw [<- A];exact d⟩;rcases (n.M3 b M).1 with h|h
   ·simp [ah] at h
   ·exact h
  ·have N:=(n.heap _<|Ac ..).2;have O:=I4.N1 (X:=_) (Y:=X') (Af _) (λ_ _ _=>rfl) (λb _ u=>(K b u).imp id λd=>List.mem_filterMap.2 ⟨_,Ac ..,by show (e'.η 0).ownBlock=some b;rw [<- A];exact d⟩) _ (λ_ _=>rfl) N;obtain⟨Q,T,U,V,W⟩:=O;refine⟨Q,?_,U,V,W⟩
   rw [J,A];exact T
end
section
open Go Go.RowKit
variable [Y0]
def Ln (d:Bool) (P:Program) (τ:List (Nat×TI)) (τok:c8 P τ) (f:FuncId) (args:List SV) (h:TypeId) (m:Nat) (xs:List (List D)) (te:TypeId) (es:Nat) (R:List (List D)->Prop):Prop:=
 X1 d P τ τok f args 1 1 [(0,.row h m xs)] (λ_ r n=>∃ b,R b/\r=.row 1/\n=[(1,.row te es b)])
def Ln.use {E:Bool} {Γ:Ctx} {τ:List (Nat×TI)} {τok:c8 Γ.P τ} {k:Nat->Prop} {L:Sl} {H:Hp} {f:FuncId} {args:List SV} {n te:TypeId} {q es:Nat} {xs:List (List D)} {R:List (List D)->Prop} (hc:Ln E Γ.P τ τok f args n q xs te es R)
  {e:Env} {w:World} {a:Act} (m:J0 Γ k L H e a w) {j:Nat} (hH:Hp.get H j=some (.row n q xs)) (U:SV.U1 1 args=true) (vs:List Value) (V:O0 (Γ.X e H) e w (SV.T4 (λ_=>j) args) vs) (z:Nat) :
  Calls Γ.P f vs.toArray w (λK w'=>∃ ys v,R ys/\K=.returned v/\w.heap.size<=w'.heap.size/\w'.os=w.os/\w'.tape=w.tape/\w'.output=w.output/\(E=true->w.drawn<=w'.drawn)/\v.oneCell'=true /\
   (∀ c,c<w.heap.size->HB.owned e (j,.row n q xs)≠some c->w'.heap[c]?=w.heap[c]?)/\(∀ b,v.ownBlock=some b->HB.owned e (j,.row n q xs)=some b∨w.heap.size<=b) /\
   ∀ (X':Nat->Prop) (e':Env),e'.η z=v->(∀ b,X' b->Γ.X e (Hp.del H j) b∨v.ownBlock=some b)->I4 X' e' w' (z,.row te es ys)):=by
 have F:=Hp.mem_of hH;obtain⟨_,M⟩:=m.del j;have N:=Hp.N6 (i:=j) H m.ids;let B:=e.V2 (λ_=>j) 1
 have A:∀ b,b∈ah B [(0,.row n q xs)]↔HB.owned e (j,.row n q xs)=some b:=by
  intro b;unfold ah;rw [E4];constructor
  ·rintro⟨p,u,G⟩;rw [A1] at u;subst u;exact G
  ·intro G;exact⟨_,Ac ..,G⟩
 have I:∀ b,HB.owned e (j,.row n q xs)=some b->b∈ah e H:=λb d=>List.mem_filterMap.2 ⟨_,F,d⟩
 have O:∀ b,HB.owned e (j,.row n q xs)=some b->¬ Γ.X e (Hp.del H j) b:=by
  intro b d C;rcases C with C|C
  ·exact (m.M3 b<|I b d).2 C
  ·obtain⟨p,u,W⟩:=List.mem_filterMap.1 C;exact m.O5 (N p u).1 F (N p u).2 W d
 have Z:∀ b,Γ.X e (Hp.del H j) b->b<w.heap.size:=λb d=>(M b d).elim (λh=>As (m.T1 b h).1 m.size)<|m.lt b
 have Q:∀ b,Ctx.X ⟨Γ.P,τ,τok,Γ.X e (Hp.del H j),w,λb=>b∈ah B [(0,.row n q xs)],0,1,B.an,none,da,true,E⟩ B [(0,.row n q xs)] b->Γ.X e H b:=by
  intro b d;rcases d with d|d
  ·exact M b d
  ·exact .inr<|I b<|(A b).1 d
 refine (hc.2 (Γ.X e<|Hp.del H j) B w vs ⟨λ_=>Iff.rfl,λp u=>?_,by simp,?_,λb d=>⟨.inl d,O b<|(A b).1 d⟩,rfl,rfl,rfl,λ_=>Af _,Af _,λ_ _ _=>rfl,λb d=>⟨Z b d,λh=>O b ((A b).1 h) d⟩,m.U6.sub (λb d=>I b<|(A b).1 d),λi hi=>hi,λ_ _=>rfl⟩ ?_).mono ?_
 ·rw [A1] at u;subst u;refine⟨Gu,?_⟩
  exact I4.N1 (e:=e) (Af _) (λ_ _ _=>rfl) (λb _ h=>Q b h) (j,.row n q xs) (λ_ _=>rfl) (m.heap _ F).2
 ·unfold ah;rw [Br];split<;>simp
 ·exact O0.N1 (Af _) (λ_ _ _=>rfl) (λb _ h=>Q b h) _ _<|O0.V2 _ 1 _ _ U V
 ·rintro K w' ⟨k',r,H',e',v,⟨ys,hR,rfl,rfl⟩,rfl,hH',hrel⟩;obtain⟨_,T,a0⟩:=hrel;have d:∀ b,v.ownBlock=some b->b∈ah e' [(1,HB.row te es ys)]:=λb d=>List.mem_filterMap.2 ⟨_,Ac ..,by show (e'.η 1).ownBlock=some b;rw [<- T];exact d⟩
  refine⟨ys,v,hR,rfl,hH'.size,hH'.os,hH'.tape,hH'.output,hH'.drawn,a0,λc hc a1=>hH'.block c hc λh=>a1 ((A c).1 h),λb J=>?_,λX' e3 a2 a3=>?_⟩
  ·exact ((hH'.M3 b<|d b J).1).imp (λh=>(A b).1 h) id
  ·have h0:=(hH'.heap _<|Ac ..).2;have h1:=I4.N1 (X:=_) (Y:=X') (Af _) (λ_ _ _=>rfl) (λb _ hy=>(a3 b hy).imp id λJ=>d b J) _ (λ_ _=>rfl) h0;obtain⟨a4,q1,q2,q3,q4⟩:=h1;refine⟨a4,?_,q2,q3,q4⟩
   rw [a2,T];exact q1
def Hp.uG {i:Nat}:∀ {H:Hp} {p:Nat×HB},p∈H->p.1≠i->p∈Hp.del H i
 | [],_,h,_=>by simp at h
 | (d,s)::H,p,f,m=>by
  simp only [Hp.del]
  cases n:Az d i with
  | true =>
   have:=Ao n
   rcases List.mem_cons.1 f with rfl|b
   ·exact absurd this m
   ·exact b
  | false =>
   rcases List.mem_cons.1 f with rfl|b
   ·exact Ac ..
   ·exact Ak _<|Hp.uG b m
def XY (d:Bool) (P:Program) (τ:List (Nat×TI)) (τok:c8 P τ) (f:FuncId) (args:List SV) (ty:TypeId) (cs:List SV) (R:SV->List SV->Prop):Prop:=
 X1 d P τ τok f args 1 1 [(0,.M1 ty cs)] (λ_ r h=>∃ b,R r b/\r.low 0=true/\SV.U1 0 b=true/\h=[(0,.M1 ty b)])
def XY.use {B:Bool} {Γ:Ctx} {τ:List (Nat×TI)} {τok:c8 Γ.P τ} {k:Nat->Prop} {L:Sl} {H:Hp} {f:FuncId} {args:List SV} {ty:TypeId} {cs:List SV} {R:SV->List SV->Prop} (hc:XY B Γ.P τ τok f args ty cs R)
  {e:Env} {w:World} {a:Act} (m:J0 Γ k L H e a w) {j:Nat} (hH:Hp.get H j=some (.M1 ty cs)) (a0:SV.U1 0 cs=true) (a1:SV.U1 1 args=true) (vs:List Value) (hr:O0 (Γ.X e H) e w (SV.T4 (λ_=>j) args) vs) :
  Calls Γ.P f vs.toArray w (λQ w'=>∃ r cs' v,R r cs'/\Q=.returned v/\w.heap.size<=w'.heap.size/\w'.os=w.os/\w'.tape=w.tape/\w'.output=w.output/\(B=true->w.drawn<=w'.drawn) /\
   (∀ c,c<w.heap.size->HB.owned e (j,.M1 ty cs)≠some c->w'.heap[c]?=w.heap[c]?)/\I4 (Γ.X e H) e w' (j,.M1 ty cs')/\Rel (Γ.X e H) e w' r v):=by
 have E:=Hp.mem_of hH;obtain⟨_,T⟩:=m.del j;have U:=Hp.N6 (i:=j) H m.ids;let u:=e.V2 (λ_=>j) 1
 have z:∀ b,b∈ah u [(0,.M1 ty cs)]↔HB.owned e (j,.M1 ty cs)=some b:=by
  intro b;unfold ah;rw [E4];constructor
  ·rintro⟨p,n,F⟩;rw [A1] at n;subst n;exact F
  ·intro F;exact⟨_,Ac ..,F⟩
 have G:∀ b,HB.owned e (j,.M1 ty cs)=some b->b∈ah e H:=λb d=>List.mem_filterMap.2 ⟨_,E,d⟩
 have V:∀ b,HB.owned e (j,.M1 ty cs)=some b->¬ Γ.X e (Hp.del H j) b:=by
  intro b d A;rcases A with A|A
  ·exact (m.M3 b<|G b d).2 A
  ·obtain⟨p,n,C⟩:=List.mem_filterMap.1 A;exact m.O5 (U p n).1 E (U p n).2 C d
 have hO:∀ b,Γ.X e (Hp.del H j) b->b<w.heap.size:=λb d=>(T b d).elim (λh=>As (m.T1 b h).1 m.size)<|m.lt b
 have W:∀ b,Ctx.X ⟨Γ.P,τ,τok,Γ.X e (Hp.del H j),w,λb=>b∈ah u [(0,.M1 ty cs)],0,1,u.an,none,da,true,B⟩ u [(0,.M1 ty cs)] b->Γ.X e H b:=by
  intro b d;rcases d with d|d
  ·exact T b d
  ·exact .inr<|G b<|(z b).1 d
 refine (hc.2 (Γ.X e<|Hp.del H j) u w vs ⟨λ_=>Iff.rfl,λp n=>?_,by simp,?_,λb d=>⟨.inl d,V b<|(z b).1 d⟩,rfl,rfl,rfl,λ_=>Af _,Af _,λ_ _ _=>rfl,λb d=>⟨hO b d,λh=>V b ((z b).1 h) d⟩,m.U6.sub (λb d=>G b<|(z b).1 d),λi hi=>hi,λ_ _=>rfl⟩ ?_).mono ?_
 ·rw [A1] at n;subst n;refine⟨Gu,?_⟩
  obtain⟨I,J,K,M⟩:=I4.N1 (e:=e) (Af _) (λ_ _ _=>rfl) (λb _ h=>W b h) (j,.M1 ty cs) (λ_ _=>rfl) (m.heap _ E).2;exact⟨I,J,O0.env _ _ a0 K,M⟩
 ·unfold ah;rw [Br];split<;>simp
 ·exact O0.N1 (Af _) (λ_ _ _=>rfl) (λb _ h=>W b h) _ _<|O0.V2 _ 1 _ _ a1 hr
 ·rintro Q w' ⟨k',r,H',e',v,⟨cs',hR,hlr,hlc,rfl⟩,rfl,q,hrel⟩;have Y:e'.β 0=e.β j:=Env.pU<|q.anchor 0 Gu;have Z:∀ b,Γ.X e H b->Ctx.X ⟨Γ.P,τ,τok,Γ.X e (Hp.del H j),w,λb=>b∈ah u [(0,.M1 ty cs)],0,1,u.an,none,da,true,B⟩ e' [(0,.M1 ty cs')] b:=by
   intro b d;rcases d with d|d
   ·exact .inl<|.inl d
   ·obtain⟨p,n,C⟩:=List.mem_filterMap.1 d;by_cases N:p.1=j
    ·refine .inr<|List.mem_filterMap.2 ⟨_,Ac ..,?_⟩;have:p=(j,.M1 ty cs):=by
      have:=Hp.Mc H m.ids p n
      rw [N,hH] at this;exact Prod.ext N (Option.some.inj this).symm
     subst this;show some (e'.β 0)=some b;rw [Y];exact C
    ·exact .inl<|.inr<|List.mem_filterMap.2 ⟨p,Hp.uG n N,C⟩
  refine⟨r,cs',v,hR,rfl,q.size,q.os,q.tape,q.output,q.drawn,λc hc a2=>q.block c hc λh=>a2 ((z c).1 h),?_,?_⟩
  ·obtain⟨I,J,K,M⟩:=(q.heap _<|Ac ..).2;exact⟨I,Y▸J,O0.N1 (Af _) (λ_ _ _=>rfl) (λb _ O=>Z b O) _ _ (O0.env _ _ hlc K),M⟩
  ·exact Rel.N1 (Af _) (λ_ _ _=>rfl) (λb _ O=>Z b O) _ _<|Rel.env _ _ hlr hrel
end
section
open Go Go.RowKit
variable [Y0]
def ju (ops:List Oper) (f:Nat->SV):Option (Nat×Bool)->Option Bool
 | none=>some true
 | some (j,b)=>match pz ops j with
  | some o=>match o.dst with
   | some t=>match f t with
    | .d (.bool true)=>some b
    | .d (.bool false)=>some (!b)
    | .M2 []=>some false
    | _=>none
   | none=>none
  | none=>none
def ki (ops:List Oper) (L:Sl) (g:Option (Nat×Bool)):ju ops L.get g=ap ops L g:=by
 cases g with
 | none=>rfl
 | some q=>rfl
def rt (ops:List Oper) (i j:Nat):Bool:=match pz ops i with
 | some o=>o.after.toList.any λe=>Region.binds .any e&&Az e.on j
 | none=>false
def xv (ops:List Oper) (i j:Nat):Bool:=rt ops i j||match pz ops i with
 | some o=>o.after.toList.any λe=>Region.binds .any e&&rt ops e.on j
 | none=>false
def eF:Operand->List Nat
 | .tmp t=>[t]
 | _=>[]
def eL (ops:List Oper):Option (Nat×Bool)->List Nat
 | some (j,_)=>match pz ops j with
  | some oj=>oj.dst.toList
  | none=>[]
 | none=>[]
def dL (ops:List Oper) (o:Oper):List Nat:=o.op.operands.toList.flatMap eF++eL ops o.guard
def uI:Option Nat->List Nat->Bool
 | some d,l=>Z6 d l
 | none,_=>true
def VK (ops:List Oper) (a b:Oper):Bool:=uI a.dst (dL ops b)&&(uI b.dst (dL ops a)&&uI a.dst b.dst.toList)
def X5 (o:Oper):Bool:=match o.op with
 | .call { callee:=.value _,.. }=>true
 | .lookup ..=>true
 | .call { callee:=.builtin .unsafeSliceData,.. }=>true
 | _=>false
def sy (op:Op):Bool:=cx op&&match op with
 | .buildSlice _ n _=>!Nat.beq n 0
 | _=>true
def WR {op:Op} (h:sy op=true):cx op=true:=by unfold sy at h;rw [Ae] at h;exact h.1
def SV.nm:SV->Option Nat
 | .loc i _=>some i
 | .row i=>some i
 | .mp i=>some i
 | .P3 i _ _ _=>some i
 | .sl i _ _ _=>some i
 | .R5 i _ _ _=>some i
 | _=>none
def xV (g:Operand->SV):Op->List Nat
 | .buildSlice _ _ b=>b.toList.flatMap λp=>jB (g p.2)
 | _=>[]
def nk (g:Operand->SV) (op:Op):List Nat:=(op.operands.toList.filterMap λx=>(g x).nm)++xV g op
def zg:List Nat->List Nat->Bool
 | [],_=>true
 | i::r,l=>Z6 i l&&zg r l
def wu:∀ {l r:List Nat},zg l r=true->∀ i,i∈l->i ∉ r
 | [],_,_,i,h=>by simp at h
 | j::l,r,h,i,b=>by
  simp only [zg,Ae] at h
  rcases List.mem_cons.1 b with rfl|b
  ·exact iq _ _ h.1
  ·exact wu h.2 i b
def IM:∀ {l r:List Nat},(∀ i,i∈l->i ∉ r)->zg l r=true
 | [],_,_=>rfl
 | j::l,r,h=>by
  simp only [zg,Ae]
  exact⟨qg (h j (Ac ..)),IM λi b=>h i (Ak _ b)⟩
abbrev Log:=List (Nat×List Nat×List Nat)
def gx (ops:List Oper) (i:Nat) (rd wr:List Nat):Log->Bool
 | []=>true
 | q::b=>((zg q.2.2 rd&&(zg wr q.2.1&&zg wr q.2.2))||(xv ops i q.1||rt ops q.1 i))&&gx ops i rd wr b
def Pf {ops:List Oper} {i:Nat} {rd wr:List Nat}:∀ {lg:Log},gx ops i rd wr lg=true↔∀ q∈lg,((zg q.2.2 rd&&(zg wr q.2.1&&zg wr q.2.2))||(xv ops i q.1||rt ops q.1 i))=true
 | []=>by simp [gx]
 | q::lg=>by simp only [gx,Ae,Pf (lg:=lg),Bl,forall_eq_or_imp]
section
variable {τ : List (Nat×TI)} {g g' : Operand -> SV} {η η' : Nat -> Option HB}
def EG {t:TypeId} {s:SV} (h:∀ i,s.nm=some i->η i=η' i):vq τ t s η=vq τ t s η':=by
 cases s with
 | loc i o=>simp only [vq,h i rfl]
 | _=>rfl
def CG {t:TypeId} {s:SV} (h:∀ i,s.nm=some i->η i=η' i):Kw τ t s η=Kw τ t s η':=by
 cases s with
 | P3 i j b o=>simp only [Kw,h i rfl]
 | _=>exact EG (τ:=τ) (t:=t) h
def FD {t:TypeId} {a b:SV} (h:∀ i,a.nm=some i->η i=η' i):Yl τ t a b η=Yl τ t a b η':=by
 cases a with
 | row i=>simp only [Yl,h i rfl]
 | _=>rfl
def MJ {t:TypeId} {s:SV} (h:∀ i,s.nm=some i->η i=η' i):rO τ t s η=rO τ t s η':=by
 unfold rO;split
 ·split
  ·rfl
  ·rfl
  ·rfl
  ·rw [h _ rfl]
  ·rfl
  ·rfl
  ·rfl
 ·rfl
 ·rfl
def YC {t:TypeId} {s:SV} {lo hi:Option SV} (h:∀ i,s.nm=some i->η i=η' i):Pk τ t s lo hi η=Pk τ t s lo hi η':=by
 cases s with
 | row i=>simp only [Pk,h i rfl]
 | d x=>cases x<;>rfl
 | _=>rfl
def YH {t t':TypeId} {s:SV} (h:∀ i,s.nm=some i->η i=η' i):jC τ t t' s η=jC τ t t' s η':=by unfold jC;split<;>first|rfl|rw [h _ rfl]
def rP (op:Op) (d:∀ x∈op.operands.toList,g x=g' x) (h:∀ x∈op.operands.toList,∀ i,(g x).nm=some i->η i=η' i):Z7 τ g η op=Z7 τ g' η' op:=by
 cases op with
 | move x=>simp only [Z7,d x<|by simp [Op.operands]]
 | assign x=>simp only [Z7,d x<|by simp [Op.operands]]
 | pick c a b=>simp only [Z7,d c (by simp [Op.operands]),d a (by simp [Op.operands]),d b<|by simp [Op.operands]]
 | binOp op t x y t'=>simp only [Z7,d x (by simp [Op.operands]),d y<|by simp [Op.operands]]
 | unOp op t x=>cases op<;>simp only [Z7,d x<|by simp [Op.operands]]
 | load t x =>
  simp only [Z7];rw [CG (h x<|by simp [Op.operands]),d x<|by simp [Op.operands]]
 | fieldAddr t x f=>simp only [Z7,d x<|by simp [Op.operands]]
 | indexAddr t x y =>
  simp only [Z7];rw [FD (h x<|by simp [Op.operands]),d x (by simp [Op.operands]),d y<|by simp [Op.operands]]
 | index t x y=>simp only [Z7,d x (by simp [Op.operands]),d y<|by simp [Op.operands]]
 | slice t x lo m u =>
  cases u with
  | some _=>rfl
  | none =>
   simp only [Z7,d x<|by simp [Op.operands]];have v:lo.map g=lo.map g':=by cases lo with
    | none=>rfl
    | some z=>simp [d z<|by simp [Op.operands]]
   have A:m.map g=m.map g':=by cases m with
    | none=>rfl
    | some z=>simp [d z<|by simp [Op.operands]]
   rw [v,A];exact YC λi m=>h x (by simp [Op.operands]) i<|by rw [d x<|by simp [Op.operands]];exact m
 | convert t t' x =>
  simp only [Z7];rw [YH (h x<|by simp [Op.operands]),d x<|by simp [Op.operands]]
 | nilCheck x=>simp only [Z7,d x<|by simp [Op.operands]]
 | extract x i=>simp only [Z7,d x<|by simp [Op.operands]]
 | makeFunc B first n =>
  cases B with
  | func f =>
   simp only [Z7];have:n.toList.map g=n.toList.map g':=Di λx q=>d x<|by simp [Op.operands] at q ⊢;exact .inr q
   rw [this]
  | _=>rfl
 | build I r =>
  simp only [Z7];have:(r.toList.map λp=>(p.1,g p.2))=r.toList.map λp=>(p.1,g' p.2):=Di λp C=>by
   rw [d p.2<|by simp [Op.operands];exact⟨p.1,by simpa using C⟩]
  rw [this]
 | call c =>
  obtain⟨E,F,G⟩:=c;cases E with
  | builtin b =>
   cases b<;>try rfl
   case len =>
    obtain⟨J⟩:=F;obtain⟨K⟩:=G;simp only [Z7];split
    ·rename_i x t;rw [MJ (h x<|by simp [Op.operands,Call.operands]),d x<|by simp [Op.operands,Call.operands]]
    ·rfl
  | _=>rfl
 | _=>rfl
def SC {t:TypeId} {s b:SV} (h:∀ i,s.nm=some i->η i=η' i):sp τ t s b η=sp τ t s b η':=by
 cases s with
 | loc i o=>simp only [sp,h i rfl]
 | P3 i j d o=>simp only [sp,h i rfl]
 | _=>rfl
def GA {t z:Nat} {s b:SV} (h:∀ i,s.nm=some i->η i=η' i):Tj τ t s b η z=Tj τ t s b η' z:=by
 rw [yw,yw];unfold Mb;split
 ·split
  ·split
   ·rw [h _ rfl]
   ·rfl
  ·rfl
 ·rfl
def pt {t len:Nat} {ps:List (Nat×Operand)} (h:∀ p∈ps,g p.2=g' p.2):dh τ g t len ps=dh τ g' t len ps:=by
 unfold dh;have:(ps.map λp=>(p.1,g p.2))=ps.map λp=>(p.1,g' p.2):=Di λp b=>by rw [h p b]
 rw [this]
def Zn {ps:List (Nat×Operand)} (h:∀ p∈ps,g p.2=g' p.2):(ps.flatMap λp=>jB (g p.2))=ps.flatMap λp=>jB (g' p.2):=by rw [H7,H7];congr 1;exact Di λp b=>by rw [h p b]
def Oj {t len:Nat} {ps:List (Nat×Operand)} (h:∀ p∈ps,g p.2=g' p.2) (m:∀ i∈ps.flatMap (λp=>jB (g p.2)),η i=η' i):oz τ g η t len ps=oz τ g' η' t len ps:=by
 unfold oz;rw [<- Zn h];cases n:ps.flatMap λp=>jB (g p.2) with
 | nil=>exact pt h
 | cons i r =>
  cases r with
  | nil =>
   simp only;rw [m i<|by rw [n];exact Ac ..];cases η' i with
   | none=>rfl
   | some b =>
    cases b with
    | M1 ty C=>rfl
    | map E F=>rfl
    | row G d f =>
     simp only;rw [pt (g:=λx=>ld i d f<|g x) (g':=λx=>ld i d f<|g' x) λp q=>by simp only [h p q]]
  | cons j z =>
   cases z with
   | cons _ _=>rfl
   | nil =>
    have A:Ld η i none j=Ld η' i none j:=by
     unfold Ld;rw [m j<|by rw [n];simp]
    have B:∀ d f u v,dh τ (λx=>ld j u v<|ld i d f<|g x) t len ps=dh τ (λx=>ld j u v<|ld i d f<|g' x) t len ps:=λ_ _ _ _=>pt λp q=>by simp only [h p q]
    simp only [m i (by rw [n];exact Ac ..),A,B]
def Tu (op:Op) (h:∀ x∈op.operands.toList,g x=g' x):xV g op=xV g' op:=by
 cases op with
 | buildSlice t d f=>exact Zn λp b=>h p.2<|by simp [Op.operands];exact⟨p.1,by simpa using b⟩
 | _=>rfl
def pF (z:Nat) (dst:Option Nat) (op:Op) (f:∀ x∈op.operands.toList,g x=g' x) (h:∀ x∈op.operands.toList,∀ i,(g x).nm=some i->η i=η' i) (n:∀ i,i∈xV g op->η i=η' i):jv τ g η z dst op=jv τ g' η' z dst op:=by
 have m:=rP (τ:=τ) op f h;cases dst with
 | none =>
  cases op with
  | store t x y =>
   simp only [jv];rw [SC (h x<|by simp [Op.operands]),f x (by simp [Op.operands]),f y<|by simp [Op.operands]]
  | _=>rfl
 | some d =>
  simp only [jv];cases op with
  | alloc t=>rfl
  | box t x=>simp only [oe,f x<|by simp [Op.operands]]
  | makeSlice t x y=>simp only [oe,f x (by simp [Op.operands]),f y<|by simp [Op.operands]]
  | buildSlice t A B =>
   simp only [oe];exact Oj (λp q=>f p.2<|by simp [Op.operands];exact⟨p.1,by simpa using q⟩) n
  | call c =>
   obtain⟨r,u,v⟩:=c;cases r with
   | builtin b =>
    cases b;case append =>
     obtain⟨C⟩:=u;obtain⟨E⟩:=v;simp only [oe];split
     ·rename_i x y t t';rw [GA (h x<|by simp [Op.operands,Call.operands]),f x (by simp [Op.operands,Call.operands]),f y<|by simp [Op.operands,Call.operands]]
     ·rfl
    all_goals (simp only [oe,m])
   | _=>simp only [oe,m]
  | _=>simp only [oe,m]
end
def FS.UX {s:FS} {z:Nat} {dst:Option Nat} {v:SV} {u:Up} {x:Operand} (h:uI dst (eF x)=true):(s.app z dst v u).op x=s.op x:=by
 cases x with
 | tmp t =>
  cases dst with
  | none=>rfl
  | some d =>
   have:=iq _ _ h
   show (if d=t then v else s.Hd t)=s.Hd t;rw [if_neg<|λb=>this<|by rw [b];exact Ac ..]
 | _=>rfl
def Up.X4 {u:Up} {z:Nat} {η:Nat->Option HB} {j:Nat} (h:j ∉ u.Z0 z):u.app z η j=η j:=by
 cases u with
 | no=>rfl
 | new b=>exact if_neg λd=>h<|by rw [<- d];exact Ac ..
 | set i b=>exact if_neg λd=>h<|by rw [<- d];exact Ac ..
 | del i=>exact if_neg λd=>h<|by rw [<- d];exact Ac ..
 | TH i f =>
  show (if f=j then none else (if i=j then none else η j))=η j;rw [if_neg λd=>h (by rw [<- d];simp [Up.Z0]),if_neg λd=>h<|by rw [<- d];simp [Up.Z0]]
 | M5 i b =>
  show (if z=j then _ else (if i=j then none else η j))=η j;rw [if_neg λd=>h (by rw [<- d];simp [Up.Z0]),if_neg λd=>h<|by rw [<- d];simp [Up.Z0]]
def Up.nU {u:Up} {z:Nat} {η η':Nat->Option HB} {j:Nat} (h:j∈u.Z0 z):u.app z η j=u.app z η' j:=by
 cases u with
 | no=>simp [Up.Z0] at h
 | new b=>simp only [Up.Z0,A1] at h;subst h;simp [Up.app,Ld]
 | set i b=>simp only [Up.Z0,A1] at h;subst h;simp [Up.app,Ld]
 | del i=>simp only [Up.Z0,A1] at h;subst h;simp [Up.app,Ld]
 | TH i d =>
  simp only [Up.Z0,Bl,B6,or_false] at h;rcases h with rfl|rfl<;>simp [Up.app,Ld]
 | M5 i b =>
  simp only [Up.Z0,Bl,B6,or_false] at h;show (if z=j then _ else (if i=j then none else η j))=(if z=j then _ else (if i=j then none else η' j));rcases h with rfl|rfl
  ·rw [if_pos rfl,if_pos rfl]
  ·rw [if_pos rfl,if_pos rfl]
def Up.comm {u d:Up} {z f:Nat} (h:zg (u.Z0 z) (d.Z0 f)=true) (η:Nat->Option HB):u.app z (d.app f η)=d.app f (u.app z η):=by
 funext j;by_cases m:j∈u.Z0 z
 ·have b:=wu h j m;rw [Up.X4 b];exact Up.nU m
 ·rw [Up.X4 m];by_cases b:j∈d.Z0 f
  ·exact Up.nU b
  ·rw [Up.X4 b,Up.X4 b,Up.X4 m]
def FS.oU {s:FS} {z f:Nat} {d b:Option Nat} {v v':SV} {u m:Up} (p:uI d b.toList=true) (h:zg (u.Z0 z) (m.Z0 f)=true):(s.app z d v u).app f b v' m=(s.app f b v' m).app z d v u:=by
 have q:((s.app z d v u).put b v').Hd=((s.app f b v' m).put d v).Hd:=by
  funext t;cases d with
  | none=>cases b<;>rfl
  | some x =>
   cases b with
   | none=>rfl
   | some y =>
    have r:x≠y:=λA=>iq _ _ p<|by rw [A];exact Ac ..
    show (if y=t then v' else if x=t then v else s.Hd t)=(if x=t then v else if y=t then v' else s.Hd t);by_cases n:y=t
    ·rw [if_pos n,if_neg (λB=>r<|B.trans n.symm),if_pos n]
    ·rw [if_neg n,if_neg n]
 have C:m.app f (u.app z s.η)=u.app z (m.app f s.η):=(Up.comm h s.η).symm;unfold FS.app;exact FS.mk.injEq ..▸⟨q,C⟩
def dS {d:Option Nat} {xs:List Operand} (h:uI d (xs.flatMap eF)=true):∀ x∈xs,uI d (eF x)=true:=by
 intro x b;cases d with
 | none=>rfl
 | some d=>exact qg λf=>iq _ _ h<|List.mem_flatMap.2 ⟨x,b,f⟩
def Sv {d:Option Nat} {l r:List Nat} (h:uI d (l++r)=true):uI d l=true/\uI d r=true:=by
 cases d with
 | none=>exact⟨rfl,rfl⟩
 | some d=>exact⟨qg λb=>iq _ _ h (Ax _ b),qg λb=>iq _ _ h<|Bv _ b⟩
def bS {ops:List Oper} {d:Option Nat} {o:Oper} (h:uI d (dL ops o)=true):(∀ x∈o.op.operands.toList,uI d (eF x)=true)/\uI d (eL ops o.guard)=true:=
 ⟨dS (Sv h).1,(Sv h).2⟩
def TE {ops:List Oper} {s:FS} {z:Nat} {dst:Option Nat} {v:SV} {u:Up} {gd:Option (Nat×Bool)} (h:uI dst (eL ops gd)=true):ju ops (s.app z dst v u).Hd gd=ju ops s.Hd gd:=by
 cases dst with
 | none=>rfl
 | some d =>
  cases gd with
  | none=>rfl
  | some q =>
   obtain⟨j,p⟩:=q;simp only [ju,eL] at h ⊢;cases b:pz ops j with
   | none=>rfl
   | some o =>
    simp only [b] at h ⊢;cases f:o.dst with
    | none=>rfl
    | some t =>
     simp only [f] at h ⊢;have m:d≠t:=λn=>iq _ _ h<|by rw [n];exact Ac ..
     have:(s.app z (some d) v u).Hd t=s.Hd t:=if_neg m
     rw [this]
def Mw (ρ:Nat->Nat) (η:Nat->Option HB):Hp->Prop
 | []=>True
 | (i,b)::r=>η (ρ i)=some (b.V2 ρ)/\Mw ρ η r
def Wl (ρ:Nat->Nat) (H:Hp):∀ b:Hp,Mw ρ (Hp.get H) b↔N4 ρ H b
 | []=>Iff.rfl
 | (_,_)::r=>and_congr Iff.rfl (Wl ρ H r)
def yd {ρ:Nat->Nat} {η η':Nat->Option HB}:∀ {d:Hp},(∀ i,i∈d.map (λp=>ρ p.1)->η i=η' i)->Mw ρ η d->Mw ρ η' d
 | [],_,_=>trivial
 | (i,b)::r,h,⟨f,m⟩=>⟨by rw [<- h (ρ i) (Ac ..)];exact f,yd (λj n=>h j (Ak _ n)) m⟩
def Ob (J:Nat):Hp->Bool
 | []=>true
 | (i,_)::r=>Av i J&&Ob J r
def me {J:Nat}:∀ {H:Hp},Ob J H=true->∀ p∈H,p.1<J
 | [],_,p,d=>by simp at d
 | (i,b)::r,h,p,d=>by
  simp only [Ob,Ae] at h
  rcases List.mem_cons.1 d with rfl|d
  ·exact Ab h.1
  ·exact me h.2 p d
inductive Mv (Γ:Ctx) (ops:List Oper) (κ:Nat) (s:FS) (i:Nat) (o:Oper):Bool->(SV->Up->Prop)->List Nat->List Nat->Prop
 | skip:ju ops s.Hd o.guard=some false->dC Γ o.dst=true->Mv Γ ops κ s i o false (λv u=>v=.M2 []/\u=.no) [] []
 | step (p:Prop) (v0:SV) (u0:Up):ju ops s.Hd o.guard=some true->jv Γ.τ s.op s.η (κ+i) o.dst o.op=some (p,v0,u0)->p->u0.VZ Γ.dr->sy o.op=true->dC Γ o.dst=true ->
   Mv Γ ops κ s i o false (λv u=>v=v0/\u=u0) (nk s.op o.op) (u0.Z0 (κ+i))
 | call (d:Nat) (f:FuncId) (x:Operand) (caps:List SV) (xs:List Operand) (ts:Array TypeId) (R:SV->Prop):ju ops s.Hd o.guard=some true->o.op=.call { callee:=.value x,args:=xs.toArray,argTypes:=ts }->o.dst=some d->s.op x=.fn f caps ->
   I3 Γ.dr Γ.P Γ.τ Γ.τok f (xs.map s.op++caps) R->SV.U1 0 (xs.map s.op++caps)=true->cx o.op=true->Av d Γ.n=true->Mv Γ ops κ s i o true (λv u=>R v/\u=.no) [] []
 | Iz (d:Nat) (f:FuncId) (x:Operand) (caps:List SV) (xs:List Operand) (ts:Array TypeId) (ρ:Nat->Nat) (args:List SV) (J:Nat) (Hc:Hp) (R:SV->Prop):ju ops s.Hd o.guard=some true->o.op=.call { callee:=.value x,args:=xs.toArray,argTypes:=ts }->o.dst=some d->s.op x=.fn f caps ->
   X1 Γ.dr Γ.P Γ.τ Γ.τok f args J J Hc (λ_ r H2=>R r/\H2=Hc)->xs.map s.op++caps=SV.T4 ρ args->SV.U1 J args=true->Mw ρ s.η Hc->Hp.low J Hc=true->a8 (Hc.map λp=>ρ p.1)=true->a8 (Hc.map (·.1))=true->Nb J (Hc.map (·.1))=true->Ob J Hc=true ->
   (∀ r,R r->r.low 0=true/\r.L4 J=true)->Hp.L4 J Hc=true->cx o.op=true->Av d Γ.n=true->Mv Γ ops κ s i o true (λv u=>R v/\u=.no) (Hc.map λp=>ρ p.1) []
 | Zy (d:Nat) (f:FuncId) (x:Operand) (caps:List SV) (xs:List Operand) (ts:Array TypeId) (te:TypeId) (es:Nat) (R:List (List D)->Prop):ju ops s.Hd o.guard=some true->o.op=.call { callee:=.value x,args:=xs.toArray,argTypes:=ts }->o.dst=some d->s.op x=.fn f caps ->
   CC Γ.dr Γ.P Γ.τ Γ.τok f (xs.map s.op++caps) te es R->SV.U1 0 (xs.map s.op++caps)=true->cx o.op=true->Av d Γ.n=true->Mv Γ ops κ s i o true (λv u=>∃ ys,R ys/\v=.row (κ+i)/\u=.new (.row te es ys)) [] [κ+i]
 | Cz (d:Nat) (f:FuncId) (xs:List Operand) (ts:Array TypeId) (j:Nat) (args:List SV) (te0 te:TypeId) (es0 es:Nat) (ds:List (List D)) (R:List (List D)->Prop):ju ops s.Hd o.guard=some true->o.op=.call { callee:=.value (.func f),args:=xs.toArray,argTypes:=ts }->o.dst=some d ->
   Ln Γ.dr Γ.P Γ.τ Γ.τok f args te0 es0 ds te es R->xs.map s.op=SV.T4 (λ_=>j) args->SV.U1 1 args=true->s.η j=some (.row te0 es0 ds)->cx o.op=true->Av d Γ.n=true->Γ.dr=false ->
   Mv Γ ops κ s i o true (λv u=>∃ ys,R ys/\v=.row (κ+i)/\u=.M5 j (.row te es ys)) [j] [j,κ+i]
 | oC (d:Nat) (f:FuncId) (xs:List Operand) (ts:Array TypeId) (j:Nat) (args:List SV) (ty:TypeId) (cs:List SV) (R:SV->List SV->Prop):ju ops s.Hd o.guard=some true->o.op=.call { callee:=.value (.func f),args:=xs.toArray,argTypes:=ts }->o.dst=some d ->
   XY Γ.dr Γ.P Γ.τ Γ.τok f args ty cs R->xs.map s.op=SV.T4 (λ_=>j) args->SV.U1 1 args=true->s.η j=some (.M1 ty cs)->SV.U1 0 cs=true->cx o.op=true->Av d Γ.n=true ->
   Mv Γ ops κ s i o true (λv u=>∃ cs',R v cs'/\u=.set j (.M1 ty cs')) [j] [j]
 | look (d:Nat) (j:Nat) (v0:SV):ju ops s.Hd o.guard=some true->X5 o=true->o.dst=some d->(∀ (k:Nat->Prop) (L:Sl) (H:Hp),(∀ x∈o.op.operands.toList,aj L x=s.op x)->Hp.get H j=s.η j->Ev Γ k L H o.op o.type v0)->Av d Γ.n=true ->
   Mv Γ ops κ s i o true (λv u=>v=v0/\u=.no) [j] []
 | gU (d:Nat) (t te:TypeId) (es:Nat):ju ops s.Hd o.guard=some true->o.op=.buildSlice t 0 #[]->o.dst=some d->(ai Γ.τ t).sh=.slice te->(ai Γ.τ te).sh.known=true->(ai Γ.τ te).cells=es->Av 0 es=true ->
   gp (ai Γ.τ te).zero=true->Az (ai Γ.τ te).zero.length (ai Γ.τ te).cells=true->Av d Γ.n=true->Mv Γ ops κ s i o false (λv u=>v=.row (κ+i)/\u=.new (.row te es [])) [] [κ+i]
inductive DR (Γ:Ctx) (ops:List Oper) (κ:Nat):List (Nat×Oper)->Log->(FS->Prop)->FS->Prop
 | nil {lg K s}:K s->DR Γ ops κ [] lg K s
 | cons {i:Nat} {o:Oper} {rest lg K s} (c:Bool) (S:SV->Up->Prop) (rd wr:List Nat):Mv Γ ops κ s i o c S rd wr->gx ops i rd wr lg=true->(∃ v u,S v u)->(∀ v u,S v u->u.Z0 (κ+i)=wr) ->
   (∀ v u,S v u->DR Γ ops κ rest ((i,rd,wr)::lg) K (s.app (κ+i) o.dst v u))->DR Γ ops κ ((i,o)::rest) lg K s
section
variable {Γ : Ctx} {ops : List Oper} {κ : Nat} {s : FS} {i j : Nat} {o oi oj : Oper} {c : Bool} {S S' : SV -> Up -> Prop} {rd wr rd' wr' : List Nat}
def Mv.det (h:Mv Γ ops κ s i o false S rd wr) (q:Mv Γ ops κ s i o false S' rd' wr'):S=S'/\rd=rd'/\wr=wr':=by
 cases h with
 | skip f _ =>
  cases q with
  | skip _ _=>exact⟨rfl,rfl,rfl⟩
  | step _ _ _ b=>rw [f] at b;cases b
  | gU _ _ _ _ b=>rw [f] at b;cases b
 | step p E F f z _ _ m _ =>
  cases q with
  | skip b _=>rw [f] at b;cases b
  | step G I J _ r _ _ _ _ =>
   rw [z] at r;cases r;exact⟨rfl,rfl,rfl⟩
  | gU _ _ _ _ _ n=>rw [n] at m;cases m
 | gU d t K M f n _ A _ B =>
  cases q with
  | skip b _=>rw [f] at b;cases b
  | step _ _ _ _ _ _ _ m _=>rw [n] at m;cases m
  | gU N t' O P _ u _ v _ C =>
   rw [n] at u;cases u;rw [A] at v;cases v;rw [<- B,<- C];exact⟨rfl,rfl,rfl⟩
def Mv.yE (h:Mv Γ ops κ s i o true S rd wr):X5 o=true:=by
 cases h with
 | call d f x p m n R _ b=>unfold X5;rw [b]
 | Iz d f x p m n z q J A R _ b=>unfold X5;rw [b]
 | Zy d f x p m n r u R _ b=>unfold X5;rw [b]
 | Cz d f m n j q B r C u E R _ b=>unfold X5;rw [b]
 | oC d f m n j q ty F R _ b=>unfold X5;rw [b]
 | look d j G _ v=>exact v
def Mv.one (h:Mv Γ ops κ s i o false S rd wr) {v u v' u'} (h1:S v u) (b:S v' u'):v=v'/\u=u':=by
 cases h with
 | skip=>exact⟨h1.1.trans b.1.symm,h1.2.trans b.2.symm⟩
 | step=>exact⟨h1.1.trans b.1.symm,h1.2.trans b.2.symm⟩
 | gU=>exact⟨h1.1.trans b.1.symm,h1.2.trans b.2.symm⟩
def Mv.move {z:Nat} {dst:Option Nat} {v:SV} {u:Up} (ha:uI dst (dL ops o)=true) (C:∀ i,i∈rd->i ∉ u.Z0 z):Mv Γ ops κ (s.app z dst v u) i o c S rd wr↔Mv Γ ops κ s i o c S rd wr:=by
 obtain⟨O,P⟩:=bS ha;have M:∀ x∈o.op.operands.toList,(s.app z dst v u).op x=s.op x:=λx E=>FS.UX<|O x E
 have B:ju ops (s.app z dst v u).Hd o.guard=ju ops s.Hd o.guard:=TE P;have Y:nk (s.app z dst v u).op o.op=nk s.op o.op:=by
  unfold nk;rw [ql (g:=λx=>(s.op x).nm) λx E=>by rw [M x E],Tu o.op M]
 have a3:(∀ i,i∈nk s.op o.op->i ∉ u.Z0 z)->jv Γ.τ (s.app z dst v u).op (s.app z dst v u).η (κ+i) o.dst o.op=jv Γ.τ s.op s.η (κ+i) o.dst o.op:=λC =>
  pF _ _ _ M (λx E i Z=>Up.X4 (C i (Ax _ (List.mem_filterMap.2 ⟨x,E,by rw [<- M x E];exact Z⟩)))) λi Z=>Up.X4<|C i<|Bv _<|by rw [<- Tu o.op M];exact Z
 have K:∀ (x:Operand) (q:List Operand) (r:Array TypeId),o.op=.call { callee:=.value x,args:=q.toArray,argTypes:=r }->(s.app z dst v u).op x=s.op x/\q.map (s.app z dst v u).op=q.map s.op:=by
  intro x q r ho;exact⟨M x (by rw [ho];simp [Op.operands,Call.operands]),Di λy Q=>M y<|by rw [ho];simp [Op.operands,Call.operands,Q]⟩
 constructor
 ·intro h;cases h with
  | skip a b=>exact .skip (B▸a) b
  | step p N u0 a b c d e f=>exact Y▸.step p N u0 (B▸a) (a3 (Y▸C)▸b) c d e f
  | call d f x F q r R a b c e g h k l =>
   obtain⟨G,A⟩:=K x q r b;rw [G] at e;rw [A] at g h;exact .call d f x F q r R (B▸a) b c e g h k l
  | Iz d f x F q r ρ args a0 Hc R a b c e g h i j k l m n o' p a1 a2 t =>
   obtain⟨G,A⟩:=K x q r b;rw [G] at e;rw [A] at h;exact .Iz d f x F q r ρ args a0 Hc R (B▸a) b c e g h i (yd (λy Q=>Up.X4<|C y Q) j) k l m n o' p a1 a2 t
  | Zy d f x F q r I J R a b c e g h k l =>
   obtain⟨G,A⟩:=K x q r b;rw [G] at e;rw [A] at g h;exact .Zy d f x F q r I J R (B▸a) b c e g h k l
  | Cz d f q r j args U I V J W R a b c e g h k l m n =>
   obtain⟨_,A⟩:=K (.func f) q r b;rw [A] at g;have T:u.app z s.η j=some (.row U V W):=k;rw [Up.X4<|C j<|Ac ..] at T;exact .Cz d f q r j args U I V J W R (B▸a) b c e g h T l m n
  | oC d f q r j args ty X R a b c e g h k l m n =>
   obtain⟨_,A⟩:=K (.func f) q r b;rw [A] at g;have T:u.app z s.η j=some (.M1 ty X):=k;rw [Up.X4<|C j<|Ac ..] at T;exact .oC d f q r j args ty X R (B▸a) b c e g h T l m n
  | look d j N a b c e f=>exact .look d j N (B▸a) b c (λk L H O P=>e k L H (λx E=>(O x E).trans (M x E).symm)<|P.trans (Up.X4<|C j<|Ac ..).symm) f
  | gU d t I J a b c e f g h j k l=>exact .gU d t I J (B▸a) b c e f g h j k l
 ·intro h;cases h with
  | skip a b=>exact .skip (B▸a) b
  | step p N u0 a b c d e f=>exact Y▸.step p N u0 (B▸a) ((a3 C).symm▸b) c d e f
  | call d f x F q r R a b c e g h k l =>
   obtain⟨G,A⟩:=K x q r b;rw [<- G] at e;rw [<- A] at g h;exact .call d f x F q r R (B▸a) b c e g h k l
  | Iz d f x F q r ρ args a0 Hc R a b c e g h i j k l m n o' p a1 a2 t =>
   obtain⟨G,A⟩:=K x q r b;rw [<- G] at e;rw [<- A] at h;exact .Iz d f x F q r ρ args a0 Hc R (B▸a) b c e g h i (yd (λy Q=>(Up.X4<|C y Q).symm) j) k l m n o' p a1 a2 t
  | Zy d f x F q r I J R a b c e g h k l =>
   obtain⟨G,A⟩:=K x q r b;rw [<- G] at e;rw [<- A] at g h;exact .Zy d f x F q r I J R (B▸a) b c e g h k l
  | Cz d f q r j args U I V J W R a b c e g h k l m n =>
   obtain⟨_,A⟩:=K (.func f) q r b;rw [<- A] at g;exact .Cz d f q r j args U I V J W R (B▸a) b c e g h ((Up.X4<|C j<|Ac ..).trans k) l m n
  | oC d f q r j args ty X R a b c e g h k l m n =>
   obtain⟨_,A⟩:=K (.func f) q r b;rw [<- A] at g;exact .oC d f q r j args ty X R (B▸a) b c e g h ((Up.X4<|C j<|Ac ..).trans k) l m n
  | look d j N a b c e f=>exact .look d j N (B▸a) b c (λk L H O P=>e k L H (λx E=>(O x E).trans<|M x E)<|P.trans<|Up.X4<|C j<|Ac ..) f
  | gU d t I J a b c e f g h j k l=>exact .gU d t I J (B▸a) b c e f g h j k l
end
end
section
open Go Go.RowKit
variable [Y0]
section
variable {Γ : Ctx} {ops : List Oper} {κ : Nat} {s : FS} {i j : Nat} {o oi oj : Oper}
def ZN {rd wr:List Nat} {lg b:Log} (h:∀ q∈b,q∈lg) (d:gx ops i rd wr lg=true):gx ops i rd wr b=true:=
 Pf.2 λq f=>Pf.1 d q<|h q f
def DR.bM {l:List (Nat×Oper)} {lg b:Log} {K:FS->Prop} (h:DR Γ ops κ l lg K s) (f:∀ q∈b,q∈lg):DR Γ ops κ l b K s:=by
 induction h generalizing b with
 | nil h=>exact .nil h
 | cons c S rd wr m n p r _ ih =>
  refine .cons c S rd wr m (ZN f n) p r λv u z=>ih v u z λq d=>?_
  rcases List.mem_cons.1 d with rfl|d
  ·exact Ac ..
  ·exact Ak _<|f q d
def zJ {l r:List Nat} (h:zg l r=true):zg r l=true:=IM λi b d=>wu h i d b
def OQ (ops:List Oper) (j:Nat) (oj:Oper) (i:Nat) (oi:Oper):Prop:=
 xv ops i j=false/\rt ops j i=false/\VK ops oj oi=true/\(X5 oj=true->X5 oi=false)
def DR.swap {J:List (Nat×Oper)} {lg:Log} {K:FS->Prop} (hs:OQ ops j oj i oi) (h:DR Γ ops κ ((j,oj)::(i,oi)::J) lg K s):DR Γ ops κ ((i,oi)::(j,oj)::J) lg K s:=by
 obtain⟨e1,e2,a0,b3⟩:=hs;simp only [VK,Ae] at a0;obtain⟨a1,a2,a3⟩:=a0;have b4:uI oi.dst oj.dst.toList=true:=by
  cases hi:oi.dst with
  | none=>rfl
  | some x =>
   cases hj:oj.dst with
   | none=>rfl
   | some y =>
    rw [hi,hj] at a3;refine qg λhm=>iq _ _ a3 ?_
    simp only [Option.toList,A1] at hm ⊢;exact hm.symm
 cases h with
 | cons M N r p O b5 b6 P a4 =>
  obtain⟨Q,R,A⟩:=b6;have c2:=a4 Q R A;have a5:∀ v u,N v u->∃ q n d b,Mv Γ ops κ s i oi q n d b/\gx ops i d b lg=true/\zg p d=true/\zg b r=true/\zg b p=true/\(∃ v u,n v u)/\(∀ v u,n v u->u.Z0 (κ+i)=b) /\
    ∀ f m,n f m->DR Γ ops κ J ((i,d,b)::(j,r,p)::lg) K ((s.app (κ+j) oj.dst v u).app (κ+i) oi.dst f m):=by
   intro v u hv;have hk:=a4 v u hv;cases hk with
   | cons q n d b z B T C U =>
    simp only [gx,Ae,e1,e2,Bool.or_false] at B;obtain⟨⟨d1,d2,d3⟩,hl⟩:=B;have E:=(Mv.move a1<|λx V W=>wu d1 x (by rw [<- P v u hv];exact W) V).1 z;exact⟨q,n,d,b,E,hl,d1,d2,d3,T,C,U⟩
  obtain⟨q,n,d,b,z,B,d1,d2,d3,T,C,U⟩:=a5 Q R A;refine .cons q n d b z B T C λf m X=>?_
  have a9:=C f m X;have b7:Mv Γ ops κ (s.app (κ+i) oi.dst f m) j oj M N r p:=(Mv.move a2<|λx V W=>wu d2 x (by rw [<- a9];exact W) V).2 O;refine .cons M N r p b7 ?_ ⟨Q,R,A⟩ P λF G Y=>?_
  ·simp only [gx,Ae,Ei];exact⟨.inl ⟨d2,d1,zJ d3⟩,b5⟩
  ·have c0:(s.app (κ+i) oi.dst f m).app (κ+j) oj.dst F G=(s.app (κ+j) oj.dst F G).app (κ+i) oi.dst f m:=
    FS.oU b4 (by rw [a9,P F G Y];exact d3)
   rw [c0];have b0:∀ b1∈((j,r,p)::(i,d,b)::lg),b1∈((i,d,b)::(j,r,p)::lg):=λb1 hq=>by
    simp only [Bl] at hq ⊢;rcases hq with h|h|h
    ·exact .inr<|.inl h
    ·exact .inl h
    ·exact .inr<|.inr h
   cases M with
   | false =>
    obtain⟨Z,r2⟩:=Mv.one O Y A;subst Z;subst r2;exact (U f m X).bM b0
   | true =>
    have I:=b3<|Mv.yE O;obtain⟨b2,c3,c4,c5,E,_,_,_,_,_,_,c1⟩:=a5 F G Y;have f1:q=false:=by
     cases q with
     | false=>rfl
     | true=>rw [Mv.yE z] at I;cases I
    have f2:b2=false:=by
     cases b2 with
     | false=>rfl
     | true=>rw [Mv.yE E] at I;cases I
    subst f1;subst f2;obtain⟨Z,r2,r3⟩:=Mv.det z E;subst Z;subst r2;subst r3;exact (c1 f m X).bM b0
def DR.mono {l:List (Nat×Oper)} {lg:Log} {K b:FS->Prop} (h:DR Γ ops κ l lg K s) (d:∀ s,K s->b s):DR Γ ops κ l lg b s:=by
 induction h with
 | nil h=>exact .nil<|d _ h
 | cons c S rd wr f m n p _ ih=>exact .cons c S rd wr f m n p λv u q=>ih v u q d
def DR.pull {post:List (Nat×Oper)} {K:FS->Prop}:∀ (pre:List (Nat×Oper)) (lg:Log) (s:FS),(∀ q∈pre,OQ ops q.1 q.2 i oi)->DR Γ ops κ (pre++(i,oi)::post) lg K s->DR Γ ops κ ((i,oi)::(pre++post)) lg K s
 | [],_,_,_,h=>h
 | (j,oj)::pre,lg,s,b,h=>by
  refine DR.swap (b _ (Ac ..)) ?_
  cases h with
  | cons c S rd wr d f m n p =>
   exact .cons c S rd wr d f m n λv u r=>DR.pull pre _ _ (λq z=>b q (Ak _ z)) (p v u r)
def UY (Γ:Ctx) (k:Nat->Prop) (s:FS) (e:Env) (a:Act) (w:World):Prop:=∃ L H,J0 Γ k L H e a w/\L6 L H=s
def J0.Z' {k:Nat->Prop} {L:Sl} {H:Hp} {e:Env} {a:Act} {w:World} (m:J0 Γ k L H e a w) {dst:Option Nat} {v:SV} {u:Value} (b:dC Γ dst=true) (f:Rel (Γ.X e H) e w v u):J0 Γ k (Mq dst v L) H e (a.put dst u) w:=by
 cases dst with
 | none=>exact m
 | some d=>exact m.put (Ab b) f
def nI {L:Sl} {H:Hp} (f:(H.map (·.1)).Nodup) {dst:Option Nat} {p:Prop} {v:SV} {u:Up} {z:Nat} {op:Op} (h:jv Γ.τ (aj L) (Hp.get H) z dst op=some (p,v,u)):L6 (Mq dst v L) (u.lQ z H)=(L6 L H).app z dst v u:=by
 have q:((L6 L H).put dst v).Hd=(Mq dst v L).get:=by rw [nv];rfl
 have r:Hp.get (u.lQ z H)=u.app z (Hp.get H):=by
  funext t;cases u with
  | no=>rfl
  | new b=>exact Hp.C1 z b H t
  | set i b =>
   have:∃ m,Hp.get H i=some m:=by
    cases dst with
    | none =>
     cases op<;>simp only [jv] at h<;>try cases h
     case store te x y =>
      simp only [sp,il] at h;split at h
      ·split at h
       ·rename_i n;split at h
        ·cases h;exact⟨_,n⟩
        ·cases h
       ·cases h
      ·split at h
       ·rename_i n;split at h
        ·split at h
         ·cases h;exact⟨_,n⟩
         ·cases h
        ·cases h
       ·cases h
      ·cases h
    | some d =>
     exfalso;simp only [jv] at h;cases op<;>simp only [oe,il] at h
     case alloc=>split at h<;>cases h
     case box=>split at h<;>cases h
     case buildSlice =>
      unfold oz at h;split at h
      ·have:=Hb h;cases this
      all_goals (repeat' (split at h))<;>cases h
     case makeSlice =>
      unfold qS at h;repeat' (split at h)
      all_goals cases h
     case call c =>
      obtain⟨A,E,F⟩:=c;cases A with
      | builtin B =>
       cases B<;>dsimp only at h
       case append =>
        split at h
        ·split at h
         ·rw [yw] at h;unfold Mb at h;repeat' (split at h)
          all_goals cases h
         ·cases h
        ·cases h
       all_goals (split at h<;>cases h)
      | _=>dsimp only at h;split at h<;>cases h
     all_goals (split at h<;>cases h)
   obtain⟨m,C⟩:=this;exact Hp.Mr i b H m C t
  | del i =>
   show Hp.get (Hp.del H i) t=_;rw [Hp.M8 i H f];rfl
  | M5 i b =>
   show Hp.get ((z,b)::Hp.del H i) t=_;rw [Hp.C1,Hp.M8 i H f];rfl
  | TH i j =>
   show Hp.get (Hp.del (Hp.del H i) j) t=_;rw [Hp.M8 j _ (Hp.Uc H f),Hp.M8 i H f];rfl
 unfold FS.app;rw [q];unfold L6;rw [r]
mutual
def SV.fJ {m ρ:Nat->Nat} {J:Nat} (h:∀ i,i<J->m i=ρ i):∀ (s:SV),s.low J=true->s.V2 m=s.V2 ρ
 | .V1,_=>rfl
 | .d _,_=>rfl
 | .Q1,_=>rfl
 | .pd _,_=>rfl
 | .loc i _,b=>by simp only [SV.V2];rw [h i (Ab b)]
 | .mp i,b=>by simp only [SV.V2];rw [h i (Ab b)]
 | .md _ _,_=>rfl
 | .row i,b=>by simp only [SV.V2];rw [h i (Ab b)]
 | .P3 i _ _ _,b=>by simp only [SV.V2];rw [h i (Ab b)]
 | .sl i _ _ _,b=>by simp only [SV.V2];rw [h i (Ab b)]
 | .R5 i _ _ _,b=>by simp only [SV.V2];rw [h i (Ab b)]
 | .rg _ _ _,_=>rfl
 | .fn _ n,b=>by simp only [SV.V2];rw [SV.Oh h n b]
 | .agg f,b=>by simp only [SV.V2];rw [SV.Oh h f b]
 | .M2 f,b=>by simp only [SV.V2];rw [SV.Oh h f b]
 | .val _,_=>rfl
def SV.Oh {d ρ:Nat->Nat} {J:Nat} (h:∀ i,i<J->d i=ρ i):∀ (ss:List SV),SV.U1 J ss=true->SV.T4 d ss=SV.T4 ρ ss
 | [],_=>rfl
 | s::ss,b=>by
  simp only [SV.U1,Ae] at b
  simp only [SV.T4]
  rw [SV.fJ h s b.1,SV.Oh h ss b.2]
end
def HB.fJ {d ρ:Nat->Nat} {J:Nat} (h:∀ i,i<J->d i=ρ i):∀ (b:HB),b.low J=true->b.V2 d=b.V2 ρ
 | .M1 _ f,m=>by simp only [HB.V2];rw [SV.Oh h f m]
 | .row _ _ _,_=>rfl
 | .map _ _,_=>rfl
mutual
def Rel.U4 {X X':Nat->Prop} {e e':Env} {w w':World}:∀ (s:SV) (v v':Value),Rel X e w s v->Rel X' e' w' s v'->Rel X' ⟨e'.β,e'.η,e.U4⟩ w' s v'
 | .V1,_,_,_,_=>trivial
 | .d _,_,_,_,h=>h
 | .Q1,_,_,_,h=>h
 | .pd _,_,_,_,h=>h
 | .loc _ _,_,_,g,h=>⟨g.1,h.2⟩
 | .row _,_,_,g,h=>⟨g.1,h.2⟩
 | .mp _,_,_,g,h=>⟨g.1,h.2⟩
 | .md _ _,_,_,_,h=>h
 | .P3 _ _ _ _,_,_,g,h=>⟨g.1,h.2⟩
 | .sl _ _ _ _,_,_,g,h=>⟨g.1,h.2⟩
 | .R5 _ _ _ _,_,_,g,h=>⟨g.1,h.2⟩
 | .rg _ _ _,_,_,_,h=>h
 | .fn _ q,_,_,⟨f,_,g⟩,⟨b,m,n⟩=>⟨b,m,O0.U4 q f b g n⟩
 | .agg p,_,_,⟨f,_,g⟩,⟨b,m,n⟩=>⟨b,m,O0.U4 p f b g n⟩
 | .M2 p,_,_,⟨f,_,g⟩,⟨b,m,n⟩=>⟨b,m,O0.U4 p f b g n⟩
 | .val _,_,_,_,h=>h
def O0.U4 {X X':Nat->Prop} {e e':Env} {w w':World}:∀ (ss:List SV) (b vs:List Value),O0 X e w ss b->O0 X' e' w' ss vs->O0 X' ⟨e'.β,e'.η,e.U4⟩ w' ss vs
 | [],_,[],_,_=>trivial
 | [],_,_::_,_,h=>h.elim
 | _::_,_,[],_,h=>h.elim
 | _::_,[],_::_,g,_=>g.elim
 | s::ss,u::b,v::vs,⟨d,f⟩,⟨m,n⟩=>⟨Rel.U4 s u v d m,O0.U4 ss b vs f n⟩
end
mutual
def Rel.free {X:Nat->Prop} {e:Env} {w:World} {e':Env} {q:Nat->Nat}:∀ (s:SV) (v:Value),s.low 0=true->Rel X e w (s.V2 q) v->Rel X e' w s v
 | .V1,_,_,_=>trivial
 | .d _,_,_,h=>h
 | .Q1,_,_,h=>h
 | .pd _,_,_,h=>h
 | .loc _ _,_,b,_=>absurd (Ab b) (A2 _)
 | .row _,_,b,_=>absurd (Ab b) (A2 _)
 | .mp _,_,b,_=>absurd (Ab b) (A2 _)
 | .md _ _,_,_,h=>h
 | .P3 _ _ _ _,_,b,_=>absurd (Ab b) (A2 _)
 | .sl _ _ _ _,_,b,_=>absurd (Ab b) (A2 _)
 | .R5 _ _ _ _,_,b,_=>absurd (Ab b) (A2 _)
 | .rg _ _ _,_,_,h=>h
 | .fn _ r,_,b,⟨f,m,n⟩=>⟨f,m,O0.free r f b n⟩
 | .agg p,_,b,⟨f,m,n⟩=>⟨f,m,O0.free p f b n⟩
 | .M2 p,_,b,⟨f,m,n⟩=>⟨f,m,O0.free p f b n⟩
 | .val _,_,_,h=>h
def O0.free {X:Nat->Prop} {e:Env} {w:World} {e':Env} {d:Nat->Nat}:∀ (ss:List SV) (vs:List Value),SV.U1 0 ss=true->O0 X e w (SV.T4 d ss) vs->O0 X e' w ss vs
 | [],[],_,_=>trivial
 | [],_::_,_,h=>h.elim
 | _::_,[],_,h=>h.elim
 | s::ss,v::vs,b,⟨f,m⟩=>by
  simp only [SV.U1,Ae] at b
  exact⟨Rel.free s v b.1 f,O0.free ss vs b.2 m⟩
end
def J0.back {k k':Nat->Prop} {L:Sl} {H:Hp} {e e':Env} {a:Act} {w w':World} (m:J0 Γ k L H e a w) (m':J0 Γ k' L H e' a w'):J0 Γ k L H ⟨e'.β,e'.η,k⟩ a w':=by
 have h:e.U4=k:=funext λi=>propext<|m.top i
 have C:ah ⟨e'.β,e'.η,k⟩ H=ah e' H:=rfl;refine⟨⟨λ_=>Iff.rfl,λp d=>⟨(m.top _).1 (m.heap p d).1,?_⟩,m.ids,m'.nodup,m'.M3,m'.os,m'.tape,m'.output,m'.drawn,m'.size,m'.block,m'.T1,m'.S4,m.L8,m'.anchor⟩,m'.defers,m.len,λt=>?_⟩
 ·have q:=(m.heap p d).2;have f:=(m'.heap p d).2;obtain⟨i,b⟩:=p;cases b with
  | M1 ty r =>
   obtain⟨u,_,v,_⟩:=q;obtain⟨n,z,A,B⟩:=f;exact⟨n,z,h▸O0.U4 r u n v A,B⟩
  | row ty E F=>exact f
  | map G I=>exact f
 ·exact h▸Rel.U4 _ _ _ (m.slot t) (m'.slot t)
def nW {H n:Hp}:∀ (A:Hp) (i:Nat),(∀ p∈A,Hp.get n p.1=some p.2)->(∀ j,j ∉ A.map (·.1)->Hp.get H j=Hp.get n j)->Hp.get (A++H) i=Hp.get n i
 | [],i,_,h=>h i (by simp)
 | (j,b)::A,i,v,B=>by
  rw [Dh,Hp.C1];split
  ·rename_i r;subst r;exact (v (j,b) (Ac ..)).symm
  ·rename_i r;by_cases u:i∈A.map (·.1)
   ·obtain⟨p,d,rfl⟩:=List.mem_map.1 u;have C:∀ (A:Hp),p∈A->(∀ q∈A,Hp.get n q.1=some q.2)->Hp.get (A++H) p.1=Hp.get n p.1:=by
     intro A;induction A with
     | nil=>intro d;simp at d
     | cons q A ih =>
      intro d f;obtain⟨E,z⟩:=q;rw [Dh,Hp.C1];split
      ·rename_i m;subst m;exact (f (_,z)<|Ac ..).symm
      ·rename_i m;rcases List.mem_cons.1 d with d|d
       ·rw [d] at m;exact absurd rfl m
       ·exact ih d λq F=>f q<|Ak _ F
    exact C A d λq f=>v q<|Ak _ f
   ·have G:∀ (A:Hp),i ∉ A.map (·.1)->Hp.get (A++H) i=Hp.get H i:=by
     intro A;induction A with
     | nil=>intro _;rfl
     | cons q A ih =>
      intro f;obtain⟨E,z⟩:=q;rw [Dh,Hp.C1,if_neg<|λm=>f<|by rw [A3];exact m▸Ac ..];exact ih λh=>f<|Ak _ h
    rw [G A u];exact B i<|by rw [A3,Bl];rintro (h|h);exact r h.symm;exact u h
def iT {H:Hp} {d:List Nat} {i:Nat} (h:i ∉ d):Hp.get (rl H d) i=Hp.get H i:=by
 unfold rl;induction H with
 | nil=>rfl
 | cons p H ih =>
  obtain⟨j,b⟩:=p;rw [List.filter_cons];split
  ·rw [Hp.C1,Hp.C1,ih]
  ·rename_i f;rw [Hp.C1,if_neg,ih];rintro rfl;exact f<|qg h
def Dr (L:Sl) (H:Hp) (d:Nat) (v:SV) (z:Nat) (b:HB):L6 ((d,v)::L) ((z,b)::H)=(L6 L H).app z (some d) v (.new b):=by
 have f:((L6 L H).put (some d) v).Hd=(Mq (some d) v L).get:=by rw [nv];rfl
 have h:Hp.get ((z,b)::H)=(Up.new b).app z (Hp.get H):=funext λt=>Hp.C1 z b H t
 unfold FS.app;rw [f];unfold L6;rw [h];rfl
def yB (L:Sl) (H:Hp) (d:Nat) (v:SV) (z j:Nat) (b:HB) (f:(H.map (·.1)).Nodup):L6 ((d,v)::L) ((z,b)::Hp.del H j)=(L6 L H).app z (some d) v (.M5 j b):=by
 have h:((L6 L H).put (some d) v).Hd=(Mq (some d) v L).get:=by rw [nv];rfl
 have m:Hp.get ((z,b)::Hp.del H j)=(Up.M5 j b).app z (Hp.get H):=funext λt=>by
  rw [Hp.C1,Hp.M8 j H f];rfl
 unfold FS.app;rw [h];unfold L6;rw [m];rfl
def KV (L:Sl) (H:Hp) (d:Nat) (v:SV) (z j:Nat) (b f:HB) (hb:Hp.get H j=some f):L6 ((d,v)::L) (Hp.set H j b)=(L6 L H).app z (some d) v (.set j b):=by
 have h:((L6 L H).put (some d) v).Hd=(Mq (some d) v L).get:=by rw [nv];rfl
 have m:Hp.get (Hp.set H j b)=(Up.set j b).app z (Hp.get H):=funext λt=>by
  rw [Hp.Mr j b H f hb t];rfl
 unfold FS.app;rw [h];unfold L6;rw [m];rfl
def Mv.sound {k:Nat->Prop} {c:Bool} {S:SV->Up->Prop} {rd wr:List Nat} (a3:Mv Γ ops κ s i o c S rd wr) {e:Env} {a:Act} {w:World} (hr:UY Γ k s e a w) (c5:∃ N,∀ x,k x->x<N) (hz:¬ k (κ+i)) (hi:ops[i]?=some o) (Q:Exit->Act->World->Prop) (K:Act->World->Prop)
  (O:∀ v u a' w' e',S v u->UY Γ (oa k (κ+i)) (s.app (κ+i) o.dst v u) e' a' w'->K a' w'):wpOp Γ.P ops.toArray Q i K a w:=by
 obtain⟨L,H,m,rfl⟩:=hr;have R:∀ b,ju ops (L6 L H).Hd o.guard=some b->Region.wanted o (yielded ops.toArray a.tmps)=b:=λb T=>kv m<|(ki ops L o.guard)▸T
 unfold wpOp;have c6:ops.toArray[i]?=some o:=by simpa using hi
 rw [c6];cases a3 with
 | skip C z =>
  simp only [R _ C];obtain⟨e',G⟩:=(m.Z' (v:=.M2 []) (u:=undef) z ⟨[],rfl,trivial⟩).V6<|κ+i;exact O _ _ _ _ e' ⟨rfl,rfl⟩ ⟨_,_,G,(nv L H o.dst<|.M2 []).symm▸by cases o.dst<;>rfl⟩
 | step p v0 u0 C hs E Y h z =>
  simp only [R _ C,if_true];rw [kz] at hs;have e2:=oF (k:=k) (ty:=o.type) (pos:=o.pos) (af:=o.after) (gd:=o.guard) hs E Y (WR h) z hz;refine .inl<|Oper.wp_mono ?_<|e2 e a w Q m;rintro a' w' ⟨e',G⟩;exact O _ _ _ _ e' ⟨rfl,rfl⟩ ⟨_,_,G,nI m.ids hs⟩
 | gU d t te es C n A h1 h2 h3 h4 h5 h6 z =>
  simp only [R _ C,if_true];obtain⟨dst,op,ty,pos,af,g⟩:=o;simp only at n A;subst n;subst A;refine .inl<|Oper.wp_mono ?_<|UR (ty:=ty) (pos:=pos) (af:=af) (g:=g) hz h1 h2 h3 h4 h5 h6 z e a w Q m;rintro a' w' ⟨e',G⟩;exact O _ _ _ _ e' ⟨rfl,rfl⟩ ⟨_,_,G,Dr L H d (.row<|κ+i) (κ+i)<|.row te es []⟩
 | call d a9 x b5 q ts b0 C n A f B J h z =>
  simp only [R _ C,if_true];rw [kz] at f;have U:q.map (L6 L H).op=mt L q:=by rw [kz,kq]
  rw [U] at B J;have I:de x=true/\dz q=true:=by
   unfold cx at h;rw [n] at h;simp only [Op.operands,Call.operands,Du,C3,Ae] at h;exact⟨by simpa using h.1,qf _<|by simpa using h.2⟩
  refine .inl ?_;have Z:=m.op x<|cd I.1;rw [f] at Z;obtain⟨us,Y,b1⟩:=Z;obtain⟨dst,op,ty,pos,af,gd⟩:=o;simp only at n A;subst n;subst A;unfold Oper.wp;rw [vd B.1 a x us Y,Oper.upon_enter];refine (B.use (τ:=Γ.τ) (τok:=Γ.τok) (Γ:=Γ) m J _<|O0.append _ _ _ _ (ga m q I.2) b1).mono ?_;rintro en w' ⟨r,v,M,rfl,T,b6,a1⟩;obtain⟨e',G⟩:=((m.below T).put (Ab z)<|Rel.N1 (Af _) (λ_ _ _=>rfl) (λ_ _ hy=>hy) _ _ a1).V6<|κ+i;exact O r .no _ _ e' ⟨M,rfl⟩ ⟨_,_,G,(nv L H (some d) r).symm⟩
 | Zy d a9 x b5 q ts te es b0 C n A f B J h z =>
  simp only [R _ C,if_true];rw [kz] at f;have U:q.map (L6 L H).op=mt L q:=by rw [kz,kq]
  rw [U] at B J;have I:de x=true/\dz q=true:=by
   unfold cx at h;rw [n] at h;simp only [Op.operands,Call.operands,Du,C3,Ae] at h;exact⟨by simpa using h.1,qf _<|by simpa using h.2⟩
  refine .inl ?_;have Z:=m.op x<|cd I.1;rw [f] at Z;obtain⟨us,Y,b1⟩:=Z;obtain⟨dst,op,ty,pos,af,gd⟩:=o;simp only at n A;subst n;subst A;unfold Oper.wp;rw [vd B.1 a x us Y,Oper.upon_enter];refine (B.use (τ:=Γ.τ) (τok:=Γ.τok) (Γ:=Γ) m J _ (O0.append _ _ _ _ (ga m q I.2) b1)<|κ+i).mono ?_;rintro en w' ⟨ys,v,M,rfl,T,hone,hfresh,hrow⟩;have b3:¬ e.U4 (κ+i):=λa3=>hz<|(m.top _).1 a3
  have V:(e.Q2 (κ+i) v).η (κ+i)=v:=if_pos rfl;have a4:=e.N3 (κ+i) v b3;have a5:ah (e.Q2 (κ+i) v) H=ah e H:=n3 a4 H λp E=>(m.heap p E).1
  have m2:=m.new hz (hb:=.row te es ys) (e':=e.Q2 (κ+i) v) (w':=w') (λi=>or_congr (m.top i) Iff.rfl) a4 T
   (λb n=>hfresh b<|by rw [<- V];exact n) (λ_=>hrow _ _ V λb f=>by
    rcases f with f|f
    ·exact .inl<|.inl f
    ·unfold ah at f;rw [Br] at f;split at f
     ·exact .inl<|.inr<|a5▸f
     ·rename_i c B;rcases List.mem_cons.1 f with rfl|f
      ·exact .inr<|by rw [<- V];exact B
      ·exact .inl<|.inr<|a5▸f)
  exact O _ _ _ _ _ ⟨ys,M,rfl,rfl⟩ ⟨_,_,m2.put (s:=.row<|κ+i) (v:=v) (Ab z) ⟨.inr rfl,V.symm,hone⟩,Dr L H d (.row<|κ+i) (κ+i)<|.row te es ys⟩
 | Cz d a9 q ts j b7 e3 te e4 es ds b0 C n A B a0 J hH h z e5 =>
  simp only [R _ C,if_true];have U:q.map (L6 L H).op=mt L q:=by rw [kz,kq]
  rw [U] at a0;have I:dz q=true:=by
   unfold cx at h;rw [n] at h;simp only [Op.operands,Call.operands,Du,C3,Ae] at h;exact qf _<|by simpa using h.2
  refine .inl ?_;obtain⟨dst,op,ty,pos,af,gd⟩:=o;simp only at n A;subst n;subst A;have a2:Hp.get H j=some (.row e3 e4 ds):=hH;unfold Oper.wp;rw [io B.1,Oper.upon_enter];refine (B.use m a2 J _ (a0▸ga m q I)<|κ+i).mono ?_;rintro en w' ⟨ys,v,M,rfl,h1,h2,h3,h4,_,hone,hblk,hfresh,hrow⟩;have b3:¬ e.U4 (κ+i):=λa3=>hz<|(m.top _).1 a3
  have V:(e.Q2 (κ+i) v).η (κ+i)=v:=if_pos rfl;have a4:=e.N3 (κ+i) v b3;have e6:=Hp.N6 (i:=j) H m.ids;have a5:ah (e.Q2 (κ+i) v) (Hp.del H j)=ah e (Hp.del H j):=n3 a4 _ λp E=>(m.heap p (e6 p E).1).1
  have m2:=m.M5 (hb:=.row te es ys) a2 hz (e':=e.Q2 (κ+i) v) (w':=w') (λi=>or_congr (m.top i) Iff.rfl) a4 h1 h2 h3 h4 (λz=>by rw [e5] at z;cases z) hblk
   (λc b4=>hfresh c<|by rw [<- V];exact b4) (λ_=>hrow _ _ V λb f=>by
    rcases f with f|f
    ·exact .inl<|.inl f
    ·unfold ah at f;rw [Br] at f;split at f
     ·exact .inl<|.inr<|a5▸f
     ·rename_i c b4;rcases List.mem_cons.1 f with rfl|f
      ·exact .inr<|by rw [<- V];exact b4
      ·exact .inl<|.inr<|a5▸f)
  exact O _ _ _ _ _ ⟨ys,M,rfl,rfl⟩ ⟨_,_,m2.put (s:=.row<|κ+i) (v:=v) (Ab z) ⟨.inr rfl,V.symm,hone⟩,yB L H d (.row<|κ+i) (κ+i) j (.row te es ys) m.ids⟩
 | look d j v0 C i3 A hE z =>
  simp only [R _ C,if_true];obtain⟨v,h1,h2⟩:=hE k L H (λx _=>by rw [kz]) rfl e a w m;obtain⟨dst,op,e7,pos,af,gd⟩:=o;simp only at A;subst A;refine .inl ?_;unfold Oper.wp;rw [h1 (some d) pos af gd w<|Below.refl _ _];obtain⟨e',G⟩:=(m.put (Ab z) h2).V6<|κ+i;exact O v0 .no _ _ e' ⟨rfl,rfl⟩ ⟨_,_,G,(nv L H (some d) v0).symm⟩
 | oC d a9 q ts j b7 ty cs b0 C n A B a0 J hH e9 h z =>
  simp only [R _ C,if_true];have U:q.map (L6 L H).op=mt L q:=by rw [kz,kq]
  rw [U] at a0;have I:dz q=true:=by
   unfold cx at h;rw [n] at h;simp only [Op.operands,Call.operands,Du,C3,Ae] at h;exact qf _<|by simpa using h.2
  refine .inl ?_;obtain⟨dst,op,e7,pos,af,gd⟩:=o;simp only at n A;subst n;subst A;have a2:Hp.get H j=some (.M1 ty cs):=hH;unfold Oper.wp;rw [io B.1,Oper.upon_enter];refine (B.use m a2 e9 J _<|a0▸ga m q I).mono ?_;rintro en w' ⟨r,cs',v,M,rfl,h1,h2,h3,h4,h5,hblk,a1,hv⟩;have m2:=m.Ck (b':=.M1 ty cs') a2 h1 h2 h3 h4 h5 hblk rfl a1;have hX:Γ.X e (Hp.set H j<|.M1 ty cs')=Γ.X e H:=by unfold Ctx.X;rw [Hp.Sk (b:=.M1 ty cs) (b':=.M1 ty cs') rfl H a2]
  obtain⟨e',G⟩:=(m2.put (Ab z)<|Rel.N1 (Af _) (λ_ _ _=>rfl) (λb _ hy=>by rw [hX] at hy;exact hy) _ _ hv).V6<|κ+i;exact O r (.set j<|.M1 ty cs') _ _ e' ⟨cs',M,rfl⟩ ⟨_,_,G,KV L H d r (κ+i) j (.M1 ty cs') _ a2⟩
 | Iz d a9 x b5 q ts F b7 b2 W b0 C n A f B a0 g0 g1 J g2 g3 g4 g5 M g6 h z =>
  simp only [R _ C,if_true];rw [kz] at f;have U:q.map (L6 L H).op=mt L q:=by rw [kz,kq]
  rw [U] at a0;have I:de x=true/\dz q=true:=by
   unfold cx at h;rw [n] at h;simp only [Op.operands,Call.operands,Du,C3,Ae] at h;exact⟨by simpa using h.1,qf _<|by simpa using h.2⟩
  refine .inl ?_;have Z:=m.op x<|cd I.1;rw [f] at Z;obtain⟨us,Y,b1⟩:=Z;obtain⟨dst,op,ty,pos,af,gd⟩:=o;simp only at n A;subst n;subst A;unfold Oper.wp;rw [vd B.1 a x us Y,Oper.upon_enter];obtain⟨N,hN⟩:=c5;obtain⟨i8,m1⟩:=m.Vq (k':=lo N) hN;have c0:N4 F H W:=(Wl F H W).1 g1;have c1:=m1.op x<|cd I.1;rw [f] at c1;obtain⟨g7,c2,g8⟩:=c1;have g9:g7=us:=by
   rw [Y] at c2;simpa using c2.symm
  subst g9;refine (B.use F m1 g0 c0 J g2 g3 (by simp) g4 _ (a0▸O0.append _ _ _ _ (ga m1 q I.2) g8)<|λk2 r H2 hh=>⟨(M r hh.1).2,hh.2▸g6⟩).mono ?_;rintro en w' ⟨k2,r,H2,v,e'',⟨hRr,hH2⟩,rfl,hm,a1⟩;rw [hH2] at hm a1;have c3:∀ i,i<b2->sig F b2 N i=F i:=λi hi=>xj hi
  have h0:=Hp.I7 W J;have h7:=N4.mem W c0;have h8:∀ p∈W,Hp.get H (F p.1)=some (p.2.V2 F):=λp E=>Hp.Mc H m.ids _<|h7 p E
  have h9:(W.map λp=>(sig F b2 N p.1,p.2.V2<|sig F b2 N))=W.map λp=>(F p.1,p.2.V2 F):=
   Di λp E=>by rw [c3 _ (me g5 p E),HB.fJ c3 p.2 (h0 p E).2]
  rw [h9] at hm a1;have c4:∀ i,Hp.get ((W.map λp=>(F p.1,p.2.V2 F))++rl H (W.map λp=>F p.1)) i=Hp.get H i:=λi =>
   nW _ i (λp E=>by
    obtain⟨i0,hq,rfl⟩:=List.mem_map.1 E;exact h8 i0 hq) λj hj=>iT<|by simpa [List.map_map,Function.comp_def] using hj
  have m2:=hm.same (L':=L) (H':=H) (λ_=>rfl) c4 m.ids;have m3:=m.back m2;have b6:=(M r hRr).1;have i1:Rel (Γ.X ⟨e''.β,e''.η,k⟩ H) ⟨e''.β,e''.η,k⟩ w' r v:=by
   refine Rel.N1 (Af _) (λ_ _ _=>rfl) (λb _ hy=>?_) _ _<|Rel.free r v b6 a1;refine hy.imp id λT=>?_
   have i2:b∈ah e'' H:=T;obtain⟨p,E,n⟩:=List.mem_filterMap.1 i2;have hg:=Hp.Mc H m.ids p E;rw [<- c4] at hg;exact List.mem_filterMap.2 ⟨p,Hp.get_mem _ p.1 p.2 hg,n⟩
  obtain⟨e',G⟩:=(m3.put (Ab z) i1).V6<|κ+i;exact O r .no _ _ e' ⟨hRr,rfl⟩ ⟨_,_,G,(nv L H (some d) r).symm⟩
end
end
section
open Go Go.RowKit
variable [Y0]
def em:Nat->List Oper->List (Nat×Oper)
 | _,[]=>[]
 | i,o::l=>(i,o)::em (i+1) l
def fu:∀ (l:List Oper) (b:Nat) (q:Nat×Oper),q∈em b l↔b<=q.1/\l[q.1-b]?=some q.2
 | [],b,q=>by simp [em]
 | o::l,b,q=>by
  simp only [em,Bl,fu l (b+1) q]
  constructor
  ·rintro (rfl|⟨f,d⟩)
   ·exact⟨Af _,by simp⟩
   ·refine⟨by omega,?_⟩
    rw [show q.1-b=(q.1-(b+1))+1 by omega]
    simpa using d
  ·rintro⟨f,d⟩
   by_cases h:q.1=b
   ·left
    rw [h,Nat.sub_self] at d
    simp at d
    exact Prod.ext h d.symm
   ·right
    refine⟨by omega,?_⟩
    rw [show q.1-b=(q.1-(b+1))+1 by omega] at d
    simpa using d
def yo:∀ (l:List Oper) (b:Nat),(em b l).Pairwise (λp q=>p.1<q.1)
 | [],_=>.nil
 | o::l,b=>by
  refine List.pairwise_cons.2 ⟨λq d=>?_,yo l (b+1)⟩
  have:=((fu l (b+1) q).1 d).1
  show b<q.1
  omega
def l8 (l:List Oper):Bool:=(em 0 l).all λq=>q.2.after.toList.all λe=>!Region.binds .any e||Av e.on q.1
def Pu (l:List Oper):Bool:=(em 0 l).all λq=>(em 0 l).all λr=>Cj q.1 r.1||(rt l q.1 r.1||VK l r.2 q.2)
def Ll (l:List Oper):Nat->Nat->Nat->Bool
 | 0,_,_=>false
 | n+1,i,j=>match pz l i with
  | none=>false
  | some o=>o.after.toList.any λe=>Region.binds .any e&&(Az e.on j||(Av j e.on&&Ll l n e.on j))
def Qu (l:List Oper):Bool:=(em 0 l).all λq=>!X5 q.2||(em 0 l).all λr=>Cj q.1 r.1||(!X5 r.2||Ll l l.length q.1 r.1)
def ue (l:List Oper):Bool:=l8 l&&(Pu l&&Qu l)
def O8 {l:List Oper} {i j:Nat}:rt l i j=true↔∃ o,l[i]?=some o/\∃ e∈o.after,Region.binds .any e=true/\e.on=j:=by
 unfold rt;rw [R9];cases h:l[i]? with
 | none=>simp
 | some o =>
  simp only [H8,Ae,Gz,Option.some.injEq,exists_eq_left'];constructor
  ·rintro⟨e,b,d,f⟩;exact⟨e,b,d,Ao f⟩
  ·rintro⟨e,b,d,f⟩;exact⟨e,b,d,by rw [f];exact Nat.beq_refl j⟩
section
variable {Γ : Ctx} {l : List Oper} {κ : Nat}
structure S8 (l:List Oper) (listed:Array Bool) (rem:List (Nat×Oper)):Prop where
 size:listed.size=l.length
 closed:∀ j o,l[j]?=some o->listed.getD j false=true->∀ e∈o.after,Region.binds .any e=true->listed.getD e.on false=true
 left:∀ q,q∈rem↔l[q.1]?=some q.2/\listed.getD q.1 true=false
 sorted:rem.Pairwise (λp q=>p.1<q.1)
def Co {d:Array Bool} {i q:Nat} {o:Oper} (m:l[i]?=some o) (n:∀ e∈o.after,Region.binds .any e=true->d.getD e.on false=true)
  (u:∀ j oj,l[j]?=some oj->d.getD j false=true->∀ e∈oj.after,Region.binds .any e=true->d.getD e.on false=true) (v:d.getD q false=false):xv l i q=false:=by
 have one:∀ (x:Nat) (b:Oper),l[x]?=some b->(∀ e∈b.after,Region.binds .any e=true->d.getD e.on false=true)->rt l x q=false:=by
  intro x b z A;cases f:rt l x q with
  | false=>rfl
  | true =>
   obtain⟨J,p,B,C,E,F⟩:=O8.1 f;rw [z] at p;cases p;have:=A B C E
   rw [F,v] at this;cases this
 unfold xv;rw [one i o m n,R9,m,Ci];simp only;rw [List.any_eq_false];intro e f;rw [Ae];rintro⟨G,h⟩;have I:=n e (by simpa using f) G;obtain⟨b,r,_⟩:=O8.1 h;rw [one e.on b r<|u e.on b r I] at h;cases h
def Zu {i q:Nat} (h:xv l i q=false):rt l i q=false:=by unfold xv at h;rw [Bool.or_eq_false_iff] at h;exact h.1
def j9 {b:Array Bool} {j:Nat} (d:j<b.size):b.getD j true=b.getD j false:=by simp [d]
def dj {o:Oper} {j:Nat} (h:l[j]?=some o):j<l.length:=(List.getElem?_eq_some_iff.1 h).1
def S8.rest {d:Array Bool} {r pre post:List (Nat×Oper)} {i:Nat} {o:Oper} (g:S8 l d r) (C:i∈Region.ready .any l.toArray d) (n:r=pre++(i,o)::post) (hi:l[i]?=some o):S8 l (d.setIfInBounds i true) (pre++post) where
 size:=by simp [g.size]
 closed j oj hj hl e he' hb:=by
  have v:∀ x,d.getD x false=true->(d.setIfInBounds i true).getD x false=true:=by
   intro x E;by_cases z:i=x
   ·subst z;have:i<d.size:=by rw [g.size];exact dj hi
    simp [this]
   ·rw [getD_set_ne false z];exact E
  by_cases A:i=j
  ·subst A;obtain⟨_,F,G,I⟩:=mem_ready.1 C;have B:l[i]?=some F:=by simpa using G
   rw [hj] at B;cases B;exact v _<|I e he' hb
  ·rw [getD_set_ne false A] at hl;exact v _<|g.closed j oj hj hl e he' hb
 left q:=by
  have f:=g.sorted;rw [n] at f;have J:∀ q∈pre++post,q.1≠i:=by
   intro q p u;rw [G0] at f;obtain⟨_,K,M⟩:=f;rcases List.mem_append.1 p with h|h
   ·have:=M q h (i,o)<|Ac ..;simp at this;omega
   ·have:=(List.pairwise_cons.1 K).1 q h;simp at this;omega
  constructor
  ·intro p;have m:q∈r:=by rw [n];rcases List.mem_append.1 p with h|h<;>simp [h]
   obtain⟨a,b⟩:=(g.left q).1 m;exact⟨a,by rw [getD_set_ne true<|Ne.symm<|J q p];exact b⟩
  ·rintro⟨a,b⟩;have u:i≠q.1:=by
    intro h;have:i<d.size:=by rw [g.size];exact dj hi
    rw [<- h] at b;simp [this] at b
   rw [getD_set_ne true u] at b;have m:=(g.left q).2 ⟨a,b⟩;rw [n] at m;simp only [List.mem_append,Bl] at m ⊢;rcases m with h|h|h
   ·exact .inl h
   ·exact absurd (by rw [h]) u
   ·exact .inr h
 sorted:=by
  have f:=g.sorted;rw [n] at f;exact f.sublist<|List.Sublist.append (List.Sublist.refl _)<|List.sublist_cons_self _ _
def xo {d:Array Bool} {q:List (Nat×Oper)} (g:S8 l d q) {j:Nat}:∀ (n i:Nat) (oi:Oper),Ll l n i j=true->l[i]?=some oi ->
  (∀ e∈oi.after,Region.binds .any e=true->d.getD e.on false=true)->d.getD j false=true
 | 0,_,_,h,_,_=>by cases h
 | n+1,i,oi,h,r,u=>by
  unfold Ll at h;rw [R9,r] at h;simp only [H8,Ae,Ei,Gz] at h;obtain⟨e,v,z,b⟩:=h;have f:=u e v z;rcases b with b|⟨_,b⟩
  ·rw [<- Ao b];exact f
  ·cases m:l[e.on]? with
   | none =>
    have A:¬ e.on<d.size:=by rw [g.size];intro h;rw [List.getElem?_eq_getElem h] at m;cases m
    rw [Array.getD_eq_getD_getElem?,Array.getElem?_eq_none<|by omega] at f;cases f
   | some p=>exact xo g n e.on p b m<|g.closed e.on p m f
def Yy {b:Array Bool} {h:List (Nat×Oper)} (g:S8 l b h) (hc:Qu l=true) {j:Nat} {oj:Oper} (m:l[j]?=some oj) (n:X5 oj=true)
  (i:Nat) (oi:Oper) (hi:l[i]?=some oi) (p:X5 oi=true) (v:j<i) (q:∀ e∈oi.after,Region.binds .any e=true->b.getD e.on false=true):b.getD j false=true:=by
 unfold Qu at hc;rw [Cc] at hc;have d:=hc (i,oi) ((fu l 0 (i,oi)).2 ⟨Ai _,by simpa using hi⟩);simp only [p,Fg,Ci,Cc] at d;have f:=d (j,oj) ((fu l 0 (j,oj)).2 ⟨Ai _,by simpa using m⟩);have r:Cj i j=false:=by
  cases u:Cj i j with
  | false=>rfl
  | true=>have:=Ab u;omega
 simp only [r,Ci,n,Fg] at f;exact xo g l.length i oi f hi q
def QW (W:ue l=true) {K:FS->Prop} {Q:Exit->Act->World->Prop} (hQ:∀ s e a w,K s->UY Γ (lo (κ+l.length)) s e a w->Q .normal a w) :
  ∀ (v:Nat) (d:Array Bool) (a:Act) (w:World) (s:FS) (e:Env) (D:Nat->Prop) (p:List (Nat×Oper)) (lg:Log),S8 l d p->p.length=v->UY Γ D s e a w ->
   (∀ x,D x->x<κ+l.length/\∀ j,x=κ+j->d.getD j false=true)->DR Γ l κ p lg K s->wpAny Γ.P .any l.toArray Q v d a w:=by
 simp only [ue,Ae] at W;obtain⟨G,I,a4⟩:=W;have X:∀ j o,l[j]?=some o->∀ e∈o.after,Region.binds .any e=true->e.on<j:=by
  intro j o r e J z;unfold l8 at G;rw [Cc] at G;have m:=G (j,o) ((fu l 0 (j,o)).2 ⟨Ai _,by simpa using r⟩);rw [Cc] at m;have C:=m e (by simpa using J);simp only [z,Fg,Ci] at C;exact Ab C
 intro v;induction v with
 | zero =>
  intro d a w s e D p lg g A M u N;have a5:p=[]:=Bg A;subst a5;refine⟨?_,?_⟩
  ·apply List.eq_nil_iff_forall_not_mem.2;intro j r;obtain⟨m,o,O,_⟩:=mem_ready.1 r;have:=(g.left (j,o)).2 ⟨by simpa using O,m⟩
   simp at this
  ·cases N with
   | nil R =>
    obtain⟨L,H,a9,E⟩:=M;obtain⟨f,m'⟩:=a9.Vq (k':=lo<|κ+l.length) λx b=>(u x b).1
    exact hQ s f a w R ⟨L,H,m',E⟩
 | succ v ih =>
  intro d a w s e D p lg g A M u N;refine⟨λh0=>?_,λi Y=>?_⟩
  ·exfalso;cases p with
   | nil=>simp at A
   | cons q e4 =>
    obtain⟨m,C⟩:=(g.left q).1<|Ac ..;have:q.1∈Region.ready .any l.toArray d:=by
     refine mem_ready.2 ⟨C,q.2,by simpa using m,λf J z=>?_⟩;have e5:=X q.1 q.2 m f J z;have Z:f.on<d.size:=by rw [g.size];have:=dj m;omega
     cases b:d.getD f.on false with
     | true=>rfl
     | false =>
      exfalso;have b0:d.getD f.on true=false:=(j9 Z).trans b;have b1:f.on<l.length:=by rw [<- g.size];exact Z
      have T:=(g.left (f.on,l[f.on])).2 ⟨by simp [b1],b0⟩;rcases List.mem_cons.1 T with h|h
      ·have:f.on=q.1:=by rw [<- h]
       omega
      ·have:=(List.pairwise_cons.1 g.sorted).1 _ h
       simp at this;omega
    rw [h0] at this;simp at this
  ·obtain⟨m,o,O,a0⟩:=mem_ready.1 Y;have n:l[i]?=some o:=by simpa using O
   obtain⟨U,a1,B⟩:=List.append_of_mem<|(g.left (i,o)).2 ⟨n,m⟩;have g':=g.rest Y B n;have b2:DR Γ l κ ((i,o)::(U++a1)) lg K s:=by
    refine DR.pull U lg s (λq hq=>?_)<|B▸N;have b3:q∈p:=by rw [B];exact Ax _ hq
    obtain⟨V,b4⟩:=(g.left q).1 b3;have b5:q.1<i:=by
     have E:=g.sorted;rw [B,G0] at E;have:=E.2.2 q hq (i,o)<|Ac ..
     simpa using this
    have b6:q.1<d.size:=by rw [g.size];exact dj V
    have a2:d.getD q.1 false=false:=(j9 b6).symm.trans b4;have e0:xv l i q.1=false:=Co n a0 g.closed a2;have e1:=Zu e0;have e2:rt l q.1 i=false:=by
     cases b:rt l q.1 i with
     | false=>rfl
     | true =>
      obtain⟨o',b7,f,c0,c1,e6⟩:=O8.1 b;have:=X q.1 o' b7 f c0 c1
      omega
    refine⟨e0,e2,?_,λc2=>?_⟩
    ·unfold Pu at I;rw [Cc] at I;have p1:=I (i,o) ((fu l 0 (i,o)).2 ⟨Ai _,by simpa using n⟩);rw [Cc] at p1;have p2:=p1 q ((fu l 0 q).2 ⟨Ai _,by simpa using V⟩);have c3:Cj i q.1=false:=by
      cases z:Cj i q.1 with
      | false=>rfl
      | true=>have:=Ab z;omega
     simp only [c3,Ci,e1] at p2;exact p2
    ·cases c4:X5 o with
     | false=>rfl
     | true =>
      have:=Yy g a4 V c2 i o n c4 b5 a0
      rw [a2] at this;cases this
   cases b2 with
   | cons c S rd wr T hl e7 hn R =>
    have hz:¬ D (κ+i):=by
     intro b;have:=(u _ b).2 i rfl
     have F:i<d.size:=by rw [g.size];exact dj n
     rw [<- j9 F,m] at this;cases this
    refine Mv.sound T M ⟨κ+l.length,λx b=>(u x b).1⟩ hz n Q _ λc5 c6 a' w' f hv e3=>?_
    refine ih (d.setIfInBounds i true) a' w' _ f _ (U++a1) _ g' ?_ e3 (λx b=>?_)<|R c5 c6 hv
    ·rw [B] at A;simp only [List.length_append,List.length_cons] at A ⊢;omega
    ·have F:i<d.size:=by rw [g.size];exact dj n
     rcases b with b|b
     ·refine⟨(u x b).1,λj r=>?_⟩
      have:=(u x b).2 j r
      by_cases a3:i=j
      ·subst a3;simp [F]
      ·rw [getD_set_ne false a3];exact this
     ·subst b;refine⟨by have:=dj n;omega,λj r=>?_⟩
      have:i=j:=by omega
      subst this;simp [F]
def Yx (Γ:Ctx) (m:Nat) (Q:cn):FS->Prop:=λs=>∀ e a w,UY Γ (lo m) s e a w->∃ (b:Nat) (d:Sl) (f:Hp) (h:Env),J0 Γ b d f h a w/\Q b d f
def AA {id k:Nat} {L:Sl} {H:Hp} {Q:ey} (v:Γ.P.follows .mixedOrders=true) (z:ue l=true) (A:d8 l=true) (h:DR Γ l k (em 0 l) [] (Yx Γ (k+l.length) (Q .normal)) (L6 L H)):DW Γ (.region id l.toArray true) Q k L H:=by
 intro e a w m;refine wpIn_mono (wpIn_region_any v<|zj (ji (Γ:=Γ) (K:=Q .normal)) A _ _ _ _ ?_)<|sd<|λB f n p (⟨C,E⟩:ep (Q .normal) B f n p)=>C▸E;have F:=m.below (w':={ w with drawn:=w.drawn+1 })<|(W4.refl _ _ _).drew;have G:S8 l (Array.replicate l.length false) (em 0 l):=by
  refine⟨by simp,λj o r I=>?_,λq=>?_,yo l 0⟩
  ·have J:=dj r;simp [J] at I
  ·rw [fu l 0 q];simp only [Ai,Nat.sub_zero,true_and];constructor
   ·intro d;exact⟨d,by have:=dj d;simp [this]⟩
   ·exact λh=>h.1
 have M:(em 0 l).length=l.toArray.size:=by
  have:∀ (l:List Oper) b,(em b l).length=l.length:=by
   intro l;induction l with
   | nil=>intro b;rfl
   | cons o l ih=>intro b;simp [em,ih]
  simp [this]
 refine QW z (K:=Yx Γ (k+l.length)<|Q .normal) (Q:=ze Γ<|ep<|Q .normal) (λs e a w N O=>?_) _ _ a _ (L6 L H) e (lo k) (em 0 l) [] (by simpa using G) M ⟨L,H,F,rfl⟩ (λx u=>⟨As u (Nat.le_add_right _ _),λj r=>?_⟩) h
 ·obtain⟨f,n,p,R,T,d⟩:=N e a w O;exact .inl ⟨f,n,p,R,T,rfl,d⟩
 ·have:x<k:=u
  omega
end
end
end Go.Proofs.YtapciiffpnociabGreat
