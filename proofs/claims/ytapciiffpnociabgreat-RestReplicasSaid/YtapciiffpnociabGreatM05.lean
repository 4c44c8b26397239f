/- Several texts in one: GxDo GxCell GxNew GxRst GxTail GxSpl. Condition: none. -/
import Derived.Test.YtapciiffpnociabGreatM04
set_option linter.all false
open Array renaming toList_append→C3
open Bool renaming and_eq_true→Ae,false_or→Ci
open Int renaming toNat_of_nonneg→B9
open List renaming all_append→Du,all_eq_true→Cc,append_assoc→Bm,append_nil→Bn,cons_append→Dh,eq_nil_of_length_eq_zero→Bg,getElem_of_mem→G8,length_cons→Ba,length_map→Aa,length_take→Ap,mem_append_left→Ax,mem_cons_self→Ac
open Nat renaming add_assoc→Ew,add_zero→Hq,beq→Az,ble→Cj,blt→Av,eq_of_beq_eq_true→Ao,le_of_ble_eq_true→Ab,le_refl→Af,le_trans→Aw,lt_of_lt_of_le→As,ne_of_beq_eq_false→By,not_lt_zero→A2,zero_le→Ai
namespace Go.Proofs.YtapciiffpnociabGreat
section
open Go Go.RowKit
variable [Y0]
def XE (c:UInt8):0<=(c.toNat:Int)/\(c.toNat:Int)<=255:=by have:=c.toNat_lt;omega
def gY {c:UInt8}:SV.d (.str ⟨#[UInt8.ofNat (c.toNat:Int).toNat]⟩)=.d (.str ⟨#[c]⟩):=by simp
def KD {α:Type} {l:List α} {f:α->List D} {n:Int} {j:Nat} (b:n=(j:Int)) (h:j<(l.map f).length):SV.pd (q8 (l.map f) n.toNat)=.pd (f (l[j]'(by simpa using h))):=by
 have i:j<l.length:=by simpa using h
 subst b;simp [q8,List.getD,i]
def FO {α:Type} {f:α->List D} {l:List α} {n:Int} {j es:Nat} (b:n=(j:Int)):SV.d (.slice es (((l.map f).take n.toNat).drop (0:Int).toNat))=.d (.slice es ((l.take j).map f)):=by subst b;simp
def GO {α:Type} {f:α->List D} {l:List α} {n:Int} {j es:Nat} (b:n=(j:Int)):SV.d (.slice es (((l.map f).take (((l.map f).length:Nat):Int).toNat).drop n.toNat))=.d (.slice es ((l.drop j).map f)):=by subst b;have h:(l.map f).take (((l.map f).length:Nat):Int).toNat=l.map f:=List.take_of_length_le (by simp);rw [h,List.map_drop];simp
def fW {i es o:Nat} {n:Int} {j:Nat} (b:n=(j:Int)):SV.P3 i n.toNat es o=.P3 i j es o:=by subst b;rfl
def ZS {τ:List (Nat×TI)} {t:TypeId} {o j:Nat} {xs:List (List D)} {ds:List D} {p:Prop} {s:SV} (b:xs[j]?=some ds) (f:vq τ t (.pd (ds.drop o)) (λ_=>none)=some (p,s)):Jr τ t (q8 xs j) o=s:=by
 have h:q8 xs j=ds:=by simp [q8,List.getD,b]
 unfold Jr;rw [h,f]
def k0 {α:Type} {f:α->List D} {l:List α} {j:Nat} (h:j<(l.map f).length):(l.map f)[j]?=some (f (l[j]'(by simpa using h))):=by
 have b:j<l.length:=by simpa using h
 simp [b]
def eY {s:ByteArray} {n:Int} {j:Nat} (b:n=(j:Int)) (h:j<s.size):SV.d (.int .u8 (sat s n.toNat))=.d (.int .u8 ((s[j]'h).toNat:Int)):=by subst b;simp [dR h]
def fY {s:ByteArray} {n m:Int} {i j:Nat} (b:n=(i:Int)) (f:m=(j:Int)):SV.d (.str (s.extract n.toNat m.toNat))=.d (.str (s.extract i j)):=by subst b;subst f;rfl
mutual
def SV.eJ:∀ (s:SV),s.V2 id=s
 | .V1=>rfl
 | .d _=>rfl
 | .Q1=>rfl
 | .pd _=>rfl
 | .loc _ _=>rfl
 | .row _=>rfl
 | .mp _=>rfl
 | .md _ _=>rfl
 | .P3 _ _ _ _=>rfl
 | .sl _ _ _ _=>rfl
 | .R5 _ _ _ _=>rfl
 | .rg _ _ _=>rfl
 | .fn f h=>by simp only [SV.V2,SV.O4 h]
 | .agg b=>by simp only [SV.V2,SV.O4 b]
 | .M2 b=>by simp only [SV.V2,SV.O4 b]
 | .val _=>rfl
def SV.O4:∀ (ss:List SV),SV.T4 id ss=ss
 | []=>rfl
 | s::ss=>by simp only [SV.T4,SV.eJ s,SV.O4 ss]
end
def Kept (J:Nat) (R:Nat->SV->Hp->Prop) (_:Nat) (r:SV) (H:Hp):Prop:=
 ∃ b f,N4 id H f/\Hp.low b f=true/\a8 (f.map (·.1))=true/\Cj J b=true/\r.low b=true/\R b r f
def Xp:∀ J,nu id J=true
 | 0=>rfl
 | J+1=>by simp only [nu,Ae];exact⟨Nat.beq_refl J,Xp J⟩
def YO {m:Bool} {P:Program} {τ:List (Nat×TI)} {τok:c8 P τ} {f:FuncId} {i:Func} {c:Code} {args:List SV} {J k:Nat} {H:Hp} {R:Nat->SV->Hp->Prop} (N:Nat) (s:P.funcs[f]?=some i) (hb:i.body=some c)
  (u:args.length+(i.ntmps-args.length)=N) (z:eu P f=true)
  (h:∀ (O:Nat->Prop) (A:World) (C:Nat->Prop) (E:Nat->Nat×Value),DW ⟨P,τ,τok,O,A,C,N,J,E,none,da,true,m⟩ c (Cn τ i.results.toList (Kept J R)) k (n8 0 args) H):X1 m P τ τok f args J k H R:=by
 have n:=Ni (J:=J) (k:=k) (H:=H) N s hb u z (R:=Kept J R) h;refine⟨n.1,λO e w F G I=>(n.2 O e w F G I).mono ?_⟩
 rintro en w' ⟨k',r,H',M,v,⟨j,o,hK,hl,hd,hj,hrl,S⟩,rfl,hH',hrel⟩;obtain⟨T,U⟩:=hH'.V2 id j o hK hl hd hd hj<|Xp J;exact⟨j,r,o,M.V2 id j,v,S,rfl,T,Rel.N1 (Af _) (λ_ _ _=>rfl) (λb _ V=>U b V) _ _<|Rel.V2 id j r v hrl<|(SV.eJ r).symm▸hrel⟩
def pT {i:Bool} {P:Program} {τ:List (Nat×TI)} {τok:c8 P τ} {f:FuncId} {b:Func} {c:Code} {args:List SV} {J k:Nat} {H:Hp} {R:Nat->SV->Hp->Prop} {N:Nat} (j:P.funcs[f]?=some b) (h:∀ (O:Nat->Prop) (m:World) (n:Nat->Prop) (o:Nat->Nat×Value),DW ⟨P,τ,τok,O,m,n,N,J,o,none,da,true,i⟩ c (Cn τ b.results.toList (Kept J R)) k (n8 0 args) H) (hb:b.body=some c:=by exact rfl) (r:args.length+(b.ntmps-args.length)=N:=by exact rfl) (s:eu P f=true:=by kernel_rfl):X1 i P τ τok f args J k H R:=YO N j hb r s h
section
variable {Γ : Ctx} {k κ : Nat} {L : Sl} {H : Hp} {K : cn} {ops : List Oper} {rest : List Oper} {q : Bool}
def PT {d:Nat} {op:Op} {ty:TypeId} {pos:String} {af:Array Edge} {g:Option (Nat×Bool)} {p:Prop} {s b:SV} (f:Z7 Γ.τ (aj L) (Hp.get H) op=some (p,s)) (h:p) (i:s=b) (j:cx op=true)
  (m:ap ops L g=some true) (o:Av d Γ.n=true) (r:DS q Γ ops rest K k ((d,b)::L) H):DS q Γ ops (⟨some d,op,ty,pos,af,g⟩::rest) K k L H:=by
 subst i;exact iv (vz f h j) m o r
def zd:Hp->Nat->HB->(Hp->Option Hp)->Option Hp
 | [],_,_,k=>k []
 | (d,s)::H,i,b,k=>match Az d i with
  | true=>k ((d,b)::H)
  | false=>zd H i b λH'=>k ((d,s)::H')
def k9 (i:Nat) (b:HB):∀ (H:Hp) (k:Hp->Option Hp),zd H i b k=k (Hp.set H i b)
 | [],_=>rfl
 | (d,s)::H,k=>by
  simp only [zd,Hp.set]
  cases h:Az d i with
  | true=>rfl
  | false=>simp only [k9 i b H]
def zh:Hp->Nat->(Hp->Option Hp)->Option Hp
 | [],_,k=>k []
 | (d,s)::H,i,k=>match Az d i with
  | true=>k H
  | false=>zh H i λH'=>k ((d,s)::H')
def ny (i:Nat):∀ (H:Hp) (k:Hp->Option Hp),zh H i k=k (Hp.del H i)
 | [],_=>rfl
 | (d,s)::H,k=>by
  simp only [zh,Hp.del]
  cases h:Az d i with
  | true=>rfl
  | false=>simp only [ny i H]
def FW {d:Nat} {op:Op} {ty:TypeId} {pos:String} {af:Array Edge} {g:Option (Nat×Bool)} {p:Prop} {s:SV} {b:HB} (f:oe Γ.τ (aj L) (Hp.get H) k op=some (p,s,.new b)) (h:p) (i:cx op=true)
  (j:ap ops L g=some true) (m:Av d Γ.n=true) (o:DS false Γ ops rest K (k+1) ((d,s)::L) ((k,b)::H)):DS false Γ ops (⟨some d,op,ty,pos,af,g⟩::rest) K k L H:=
 Va j ((zu f h trivial i m<|ir k).cast<|gv k) o
def v8 [P7 Γ] {d j:Nat} {op:Op} {ty:TypeId} {pos:String} {af:Array Edge} {g:Option (Nat×Bool)} {p:Prop} {s:SV} {b:HB} {H':Hp} (f:oe Γ.τ (aj L) (Hp.get H) k op=some (p,s,.M5 j b)) (h:p) (i:cx op=true)
  (m:ap ops L g=some true) (o:Av d Γ.n=true) (hH:zh H j some=some H') (r:DS false Γ ops rest K (k+1) ((d,s)::L) ((k,b)::H')):DS false Γ ops (⟨some d,op,ty,pos,af,g⟩::rest) K k L H:=by
 rw [ny] at hH;cases hH;exact Va m ((zu f h (P7.no (Γ:=Γ)) i o<|ir k).cast<|gv k) r
def nF {te ty:TypeId} {x y:Operand} {pos:String} {af:Array Edge} {g:Option (Nat×Bool)} {s:SV} {j:Nat} {b:HB} {D:Nat->Prop} (h:sp Γ.τ te (aj L x) (aj L y) (Hp.get H)=some (True,s,.set j b)) (v:de y=true) :
  P6 Γ ⟨none,.store te x y,ty,pos,af,g⟩ D L H D L (Hp.set H j b):=by
 simp only [sp,il] at h;split at h
 ·rename_i i o r;split at h
  ·rename_i z S n;split at h
   ·rename_i f;simp only [Option.some.injEq,Prod.mk.injEq,Up.set.injEq] at h;obtain⟨_,_,rfl,rfl⟩:=h;simp only [Ae] at f;exact oG r n rfl v f.1 f.2.1 f.2.2.1 f.2.2.2
   ·cases h
  ·cases h
 ·rename_i i j es o r;split at h
  ·rename_i z T xs n;split at h
   ·rename_i x A;split at h
    ·rename_i f;simp only [Option.some.injEq,Prod.mk.injEq,Up.set.injEq] at h;obtain⟨m,_,rfl,rfl⟩:=h;have m:=of_eq_true m;simp only [Ae] at f;obtain⟨C,E,F,G,I⟩:=f;have J:=Ao F;have M:=Ao G;have N:=Ao I;have O:=Ao E;subst J;subst N;rw [M] at n;have P:xs[j].length=1:=m.2 _<|List.getElem_mem m.1;have R:jg xs[j] 0 [x]=[x]:=by
      unfold jg;match U:xs[j],P with
      | [u],_=>rfl
     have:=Pl (k:=D) (te:=te) (pos:=pos) (af:=af) (g:=g) (ty:=ty) (new:=[x]) r n m.1 A v rfl C (by rw [show Γ.cells te=1 from O];rfl) rfl
     rw [R] at this;exact this
    ·cases h
   ·cases h
  ·cases h
 ·cases h
def EW {te ty:TypeId} {x y:Operand} {pos:String} {af:Array Edge} {g:Option (Nat×Bool)} {s:SV} {j:Nat} {b:HB} {H':Hp} (f:sp Γ.τ te (aj L x) (aj L y) (Hp.get H)=some (True,s,.set j b)) (h:de y=true)
  (i:ap ops L g=some true) (hH:zd H j b some=some H') (m:DS false Γ ops rest K k L H'):DS false Γ ops (⟨none,.store te x y,ty,pos,af,g⟩::rest) K k L H:=by
 rw [k9] at hH;cases hH;exact Va i (nF f h) m
def IY {d:Nat} {t len:Nat} {ty:TypeId} {pos:String} {af:Array Edge} {g:Option (Nat×Bool)} {ps:Array (Nat×Operand)} {p:Prop} {s:SV} (b:dh Γ.τ (aj L) t len ps.toList=some (p,s,.no)) (f:cx (.buildSlice t len ps)=true)
  (h:ap ops L g=some true) (i:Av d Γ.n=true) (j:DS false Γ ops rest K k ((d,s)::L) H):DS false Γ ops (⟨some d,.buildSlice t len ps,ty,pos,af,g⟩::rest) K k L H:=
 Va h (lI b f i) j
mutual
def Rel.lower {X e w} (k:Nat):∀ (s:SV) (v:Value),s.low k=true->Rel X e w s v->Rel X ⟨e.β,e.η,lo k⟩ w s v
 | .V1,_,_,_=>trivial
 | .d _,_,_,h=>h
 | .Q1,_,_,h=>h
 | .pd _,_,_,h=>h
 | .loc _ _,_,b,h=>⟨Ab b,h.2⟩
 | .row _,_,b,h=>⟨Ab b,h.2⟩
 | .mp _,_,b,h=>⟨Ab b,h.2⟩
 | .md _ _,_,_,h=>h
 | .P3 _ _ _ _,_,b,h=>⟨Ab b,h.2⟩
 | .sl _ _ _ _,_,b,h=>⟨Ab b,h.2⟩
 | .R5 _ _ _ _,_,b,h=>⟨Ab b,h.2⟩
 | .rg _ _ _,_,_,h=>h
 | .fn _ n,_,b,⟨f,i,j⟩=>⟨f,i,O0.lower k n f b j⟩
 | .agg m,_,b,⟨f,i,j⟩=>⟨f,i,O0.lower k m f b j⟩
 | .M2 m,_,b,⟨f,i,j⟩=>⟨f,i,O0.lower k m f b j⟩
 | .val _,_,_,h=>h
def O0.lower {X e w} (k:Nat):∀ (ss:List SV) (vs:List Value),SV.U1 k ss=true->O0 X e w ss vs->O0 X ⟨e.β,e.η,lo k⟩ w ss vs
 | [],[],_,_=>trivial
 | [],_::_,_,h=>h.elim
 | _::_,[],_,h=>h.elim
 | s::ss,v::vs,b,h=>by
  simp only [SV.U1,Ae] at b
  exact⟨Rel.lower k s v b.1 h.1,O0.lower k ss vs b.2 h.2⟩
end
def Sl.ZL {k:Nat}:∀ (L:Sl),Sl.low k L=true->∀ t,(Sl.get L t).low k=true
 | [],_,_=>rfl
 | (d,s)::L,h,t=>by
  simp only [Sl.low,Ae] at h
  rw [Sl.C1]
  split
  ·exact h.1
  ·exact Sl.ZL L h.2 t
def J0.lower {k':Nat->Prop} {e:Env} {a:Act} {w:World} (m:J0 Γ k' L H e a w) (k:Nat) (r:Sl.low k L=true) (hH:Hp.low k H=true) (s:Cj Γ.J k=true):J0 Γ k L H ⟨e.β,e.η,lo k⟩ a w:=by
 have n:=Hp.I7 H hH;have F:ah ⟨e.β,e.η,lo k⟩ H=ah e H:=rfl;refine⟨⟨λ_=>Iff.rfl,λp f=>⟨(n p f).1,?_⟩,m.ids,m.nodup,m.M3,m.os,m.tape,m.output,m.drawn,m.size,m.block,m.T1,m.S4,λj u=>As u (Ab s),m.anchor⟩,m.defers,m.len,λt=>Rel.lower k _ _ (Sl.ZL L r t)<|m.slot t⟩
 have h:=(m.heap p f).2;have v:=(n p f).2;obtain⟨i,b⟩:=p;cases b with
 | M1 ty z =>
  obtain⟨o,A,C,E⟩:=h;exact⟨o,A,O0.lower k z o v C,E⟩
 | row ty es xs=>exact h
 | map G I=>exact h
def HB.force (b:HB) (k:HB->Prop):Prop:=match b with
 | .M1 ty f=>tc f λh=>k<|.M1 ty h
 | .row ty es xs=>k<|.row ty es xs
 | .map i j=>k<|.map i j
def HB.force_eq (b:HB) (k:HB->Prop):b.force k=k b:=by cases b<;>simp [HB.force,il]
def Pr:Hp->(Hp->Prop)->Prop
 | [],k=>k []
 | (i,b)::r,k=>b.force λf=>Pr r λh=>k ((i,f)::h)
def Ix:∀ (H:Hp) (k:Hp->Prop),Pr H k=k H
 | [],_=>rfl
 | (i,b)::r,k=>by simp only [Pr,HB.force_eq,Ix r]
def Gd (q:Bool) (Γ:Ctx) (ops rest:List Oper) (K:cn) (k m d:Nat) (r:SV) (L:Sl) (H:Hp):Prop:=
 rz r λb=>Pr H λH'=>match Sl.low k L&&(SV.low k b&&(Hp.low k H'&&Cj Γ.J k)) with
  | true=>DS q Γ ops rest K k ((d,b)::L) H'
  | false=>DS q Γ ops rest K m ((d,b)::L) H'
def Xz {m d:Nat} {r:SV} (h:Gd false Γ ops rest K k m d r L H):DS false Γ ops rest K m ((d,r)::L) H:=by
 unfold Gd at h;rw [mf,Ix] at h;split at h
 ·rename_i b;simp only [Ae] at b;intro e a w f;exact h _ a w<|f.lower k (by simp only [Sl.low,Ae];exact⟨b.2.1,b.1⟩) b.2.2.1 b.2.2.2
 ·exact h
def aw {f:FuncId} {xs:List Operand} {o:Array TypeId} {ty:TypeId} {pos:String} {af:Array Edge} {g:Option (Nat×Bool)} {d:Nat} {args:List SV} {J m:Nat} {b:Hp} {R:Nat->SV->Hp->Prop} (ρ:Nat->Nat)
  (hc:X1 Γ.dr Γ.P Γ.τ Γ.τok f args J m b R) (s:ap ops L g=some true) (u:mt L xs=SV.T4 ρ args) (v:dz xs=true) (z:SV.U1 m args=true) (A:N4 ρ H b) (C:Hp.low m b=true)
  (E:a8 (b.map λp=>ρ p.1)=true) (F:a8 (b.map (·.1))=true) (G:Cj J m=true) (I:Nb J (b.map (·.1))=true) (M:Av d Γ.n=true)
  (N:∀ j r i,R j r i->r.L4 J=true/\Hp.L4 J i=true)
  (O:∀ j r i,R j r i->Gd false Γ ops rest K k (k+j) d (r.V2 (sig ρ J k)) L ((i.map λp=>(sig ρ J k p.1,p.2.V2 (sig ρ J k)))++rl H (b.map λp=>ρ p.1))) :
  DS false Γ ops (⟨some d,.call { callee:=.value (.func f),args:=xs.toArray,argTypes:=o },ty,pos,af,g⟩::rest) K k L H:=
 tj ρ hc s u v z A C E F G I M N λj r i h=>Xz<|O j r i h
def m5 {f:FuncId} {x:Operand} {caps:List SV} {xs:List Operand} {o:Array TypeId} {ty:TypeId} {pos:String} {af:Array Edge} {g:Option (Nat×Bool)} {d:Nat} {args:List SV} {J m:Nat} {b:Hp} {R:Nat->SV->Hp->Prop} (ρ:Nat->Nat)
  (hc:X1 Γ.dr Γ.P Γ.τ Γ.τok f args J m b R) (s:aj L x=.fn f caps) (u:de x=true) (v:ap ops L g=some true) (z:mt L xs++caps=SV.T4 ρ args) (A:dz xs=true) (C:SV.U1 m args=true) (E:N4 ρ H b) (F:Hp.low m b=true)
  (G:a8 (b.map λp=>ρ p.1)=true) (I:a8 (b.map (·.1))=true) (M:Cj J m=true) (N:Nb J (b.map (·.1))=true) (O:Av d Γ.n=true)
  (S:∀ j r i,R j r i->r.L4 J=true/\Hp.L4 J i=true)
  (T:∀ j r i,R j r i->Gd false Γ ops rest K k (k+j) d (r.V2 (sig ρ J k)) L ((i.map λp=>(sig ρ J k p.1,p.2.V2 (sig ρ J k)))++rl H (b.map λp=>ρ p.1))) :
  DS false Γ ops (⟨some d,.call { callee:=.value x,args:=xs.toArray,argTypes:=o },ty,pos,af,g⟩::rest) K k L H:=
 eC ρ hc s u v z A C E F G I M N O S λj r i h=>Xz<|T j r i h
def dm {k':Nat} {L':Sl} {H':Hp} (b:X7 Γ k L H k' L' H') (h:DS false Γ ops rest K k' L' H'):DS false Γ ops rest K k L H:=λe a w m =>
 let ⟨f,i⟩:=b e a w m
 h f a w i
def DT (Γ:Ctx) (ops:List Oper) (κ:Nat) (rest:List (Nat×Oper)) (lg:Log) (K:FS->Prop) (L:Sl) (H:Hp):Prop:=DR Γ ops κ rest lg K<|L6 L H
variable {rem : List (Nat×Oper)} {lg : Log} {Kf : FS -> Prop}
def LG:List Oper->Nat->Nat->Prop
 | [],k,m=>k=m
 | _::l,k,m=>LG l (k+1) m
def Tf:∀ (l:List Oper) (k m:Nat),LG l k m->k+l.length=m
 | [],_,_,h=>h
 | _::l,k,m,h=>by have:=Tf l (k+1) m h;simp only [Ba];omega
def DY {id m:Nat} {l:List Oper} {Q:ey} (b:Γ.P.follows .mixedOrders=true) (f:ue l=true) (i:d8 l=true) (j:LG l k m) (h:DT Γ l k (em 0 l) [] (Yx Γ m (Q .normal)) L H):DW Γ (.region id l.toArray true) Q k L H:=
 AA b f i (Tf l k m j▸h)
def Cy {m:Nat} {Q:cn} (f:a8 (H.map (·.1))=true) (h:Q m L H):DT Γ ops κ [] lg (Yx Γ m Q) L H:=by
 refine .nil λe a w j=>?_
 obtain⟨n,o,r,b⟩:=j;have s:∀ t,Sl.get n t=Sl.get L t:=λt=>congrFun (congrArg FS.Hd b) t
 have u:∀ i,Hp.get o i=Hp.get H i:=λi=>congrFun (congrArg FS.η b) i
 exact⟨m,L,H,e,r.same s u (ed _ f),h⟩
def CW {m:Nat} {Q:cn} (f:a8 (H.map (·.1))=true) (j:Cj Γ.J κ=true) (n:Sl.low κ L=true) (hH:Hp.low κ H=true) (h:Q κ L H):DT Γ ops κ [] lg (Yx Γ m Q) L H:=by
 refine .nil λe a w o=>?_
 obtain⟨r,s,u,b⟩:=o;have v:∀ t,Sl.get r t=Sl.get L t:=λt=>congrFun (congrArg FS.Hd b) t
 have z:∀ i,Hp.get s i=Hp.get H i:=λi=>congrFun (congrArg FS.η b) i
 exact⟨κ,L,H,_,(u.same v z<|ed _ f).lower κ n hH j,h⟩
def BW {i:Nat} {op:Op} {ty:TypeId} {pos:String} {af:Array Edge} {g:Option (Nat×Bool)} {dst:Option Nat} (f:ap ops L g=some false) (h:dC Γ dst=true) (j:gx ops i [] [] lg=true)
  (m:DT Γ ops κ rem ((i,[],[])::lg) Kf (Mq dst (.M2 []) L) H):DT Γ ops κ ((i,⟨dst,op,ty,pos,af,g⟩)::rem) lg Kf L H:=by
 refine .cons false _ [] [] (.skip ((ki ops L g).trans f) h) j ⟨_,_,rfl,rfl⟩ (λv u b=>by rw [b.2];rfl) λv u b=>?_
 rw [b.1,b.2];have:(L6 L H).app (κ+i) dst (.M2 []) .no=L6 (Mq dst (.M2 []) L) H:=by rw [<- nv];cases dst<;>rfl
 show DR Γ ops κ rem _ Kf ((L6 L H).app (κ+i) dst (.M2 []) .no);rw [this];exact m
def Rc {i:Nat} {op:Op} {ty:TypeId} {pos:String} {af:Array Edge} {g:Option (Nat×Bool)} {dst:Option Nat} {p:Prop} {v v':SV} {u:Up} (j:ap ops L g=some true)
  (f:jv Γ.τ (aj L) (Hp.get H) (κ+i) dst op=some (p,v,u)) (m:p) (n:u.VZ Γ.dr) (b:v=v') (o:sy op=true) (r:dC Γ dst=true) (s:a8 (H.map (·.1))=true)
  (z:gx ops i (nk (aj L) op) (u.Z0 (κ+i)) lg=true) (A:DT Γ ops κ rem ((i,nk (aj L) op,u.Z0 (κ+i))::lg) Kf (Mq dst v' L) (u.lQ (κ+i) H)) :
  DT Γ ops κ ((i,⟨dst,op,ty,pos,af,g⟩)::rem) lg Kf L H:=by
 subst b;have C:jv Γ.τ (L6 L H).op (L6 L H).η (κ+i) dst op=some (p,v,u):=by rw [kz];exact f
 have h:nk (L6 L H).op op=nk (aj L) op:=by rw [kz]
 refine .cons false _ _ _ (.step p v u ((ki ops L g).trans j) C m n o r) (by rw [h];exact z) ⟨v,u,rfl,rfl⟩ (λv u b=>by rw [b.2]) λv' E b=>?_
 rw [b.1,b.2];show DR Γ ops κ rem ((i,nk (L6 L H).op op,u.Z0<|κ+i)::lg) Kf ((L6 L H).app (κ+i) dst v u);rw [h,<- nI (ed _ s) f];exact A
def MT {i:Nat} {op:Op} {ty:TypeId} {pos:String} {af:Array Edge} {g:Option (Nat×Bool)} {d:Nat} (b:ap ops L g=some false) (f:Av d Γ.n=true) (h:gx ops i [] [] lg=true)
  (j:DT Γ ops κ rem ((i,[],[])::lg) Kf ((d,.M2 [])::L) H):DT Γ ops κ ((i,⟨some d,op,ty,pos,af,g⟩)::rem) lg Kf L H:=BW (dst:=some d) b f h j
def dp {i:Nat} {op:Op} {ty:TypeId} {pos:String} {af:Array Edge} {g:Option (Nat×Bool)} {d:Nat} {p:Prop} {v v':SV} (b:ap ops L g=some true)
  (f:jv Γ.τ (aj L) (Hp.get H) (κ+i) (some d) op=some (p,v,.no)) (h:p) (j:v=v') (m:sy op=true) (o:Av d Γ.n=true) (r:a8 (H.map (·.1))=true)
  (s:gx ops i (nk (aj L) op) [] lg=true) (u:DT Γ ops κ rem ((i,nk (aj L) op,[])::lg) Kf ((d,v')::L) H) :
  DT Γ ops κ ((i,⟨some d,op,ty,pos,af,g⟩)::rem) lg Kf L H:=Rc b f h trivial j m o r s u
def Fy {i z:Nat} {op:Op} {ty:TypeId} {pos:String} {af:Array Edge} {g:Option (Nat×Bool)} {d:Nat} {p:Prop} {v v':SV} {b:HB} (f:ap ops L g=some true) (h:κ+i=z)
  (j:jv Γ.τ (aj L) (Hp.get H) z (some d) op=some (p,v,.new b)) (m:p) (o:v=v') (r:sy op=true) (s:Av d Γ.n=true) (u:a8 (H.map (·.1))=true)
  (A:gx ops i (nk (aj L) op) [z] lg=true) (C:DT Γ ops κ rem ((i,nk (aj L) op,[z])::lg) Kf ((d,v')::L) ((z,b)::H)) :
  DT Γ ops κ ((i,⟨some d,op,ty,pos,af,g⟩)::rem) lg Kf L H:=by subst h;exact Rc f j m trivial o r s u A C
def EY {i j:Nat} {op:Op} {ty:TypeId} {pos:String} {af:Array Edge} {g:Option (Nat×Bool)} {p:Prop} {v:SV} {b:HB} {H':Hp} (f:ap ops L g=some true)
  (h:jv Γ.τ (aj L) (Hp.get H) (κ+i) none op=some (p,v,.set j b)) (m:p) (n:sy op=true) (o:a8 (H.map (·.1))=true) (hH:zd H j b some=some H')
  (r:gx ops i (nk (aj L) op) [j] lg=true) (s:DT Γ ops κ rem ((i,nk (aj L) op,[j])::lg) Kf L H') :
  DT Γ ops κ ((i,⟨none,op,ty,pos,af,g⟩)::rem) lg Kf L H:=by rw [k9] at hH;cases hH;exact Rc (dst:=none) (v':=v) f h m trivial rfl n rfl o r s
def FY {i j:Nat} {op:Op} {ty:TypeId} {pos:String} {af:Array Edge} {g:Option (Nat×Bool)} {d:Nat} {p:Prop} {v v':SV} (b:ap ops L g=some true)
  (f:jv Γ.τ (aj L) (Hp.get H) (κ+i) (some d) op=some (p,v,.del j)) (h:p) (m:v=v') (o:sy op=true) (r:Av d Γ.n=true) (s:a8 (H.map (·.1))=true)
  (u:gx ops i (nk (aj L) op) [j] lg=true) {H':Hp} (hH:zh H j some=some H') (z:DT Γ ops κ rem ((i,nk (aj L) op,[j])::lg) Kf ((d,v')::L) H') :
  DT Γ ops κ ((i,⟨some d,op,ty,pos,af,g⟩)::rem) lg Kf L H:=by rw [ny] at hH;cases hH;exact Rc b f h trivial m o r s u z
def Wi [P7 Γ] {i j z:Nat} {op:Op} {ty:TypeId} {pos:String} {af:Array Edge} {g:Option (Nat×Bool)} {d:Nat} {p:Prop} {v v':SV} {b:HB} (f:ap ops L g=some true) (h:κ+i=z)
  (m:jv Γ.τ (aj L) (Hp.get H) z (some d) op=some (p,v,.M5 j b)) (o:p) (r:v=v') (s:sy op=true) (u:Av d Γ.n=true) (A:a8 (H.map (·.1))=true)
  (C:gx ops i (nk (aj L) op) [j,z] lg=true) {H':Hp} (hH:zh H j some=some H') (E:DT Γ ops κ rem ((i,nk (aj L) op,[j,z])::lg) Kf ((d,v')::L) ((z,b)::H')) :
  DT Γ ops κ ((i,⟨some d,op,ty,pos,af,g⟩)::rem) lg Kf L H:=by rw [ny] at hH;cases hH;subst h;exact Rc f m o (P7.no (Γ:=Γ)) r s u A C E
def qE {i:Nat} {f:FuncId} {xs:List Operand} {j:Array TypeId} {ty:TypeId} {pos:String} {af:Array Edge} {g:Option (Nat×Bool)} {d:Nat} {args:List SV} {R:SV->Prop} (o:ap ops L g=some true)
  (s:mt L xs=args) (hc:I3 Γ.dr Γ.P Γ.τ Γ.τok f args R) (z:dz xs=true) (A:SV.U1 0 args=true) (C:Av d Γ.n=true) (E:gx ops i [] [] lg=true) (F:∃ r,R r)
  (G:∀ r,R r->DT Γ ops κ rem ((i,[],[])::lg) Kf ((d,r)::L) H) :
  DT Γ ops κ ((i,⟨some d,.call { callee:=.value (.func f),args:=xs.toArray,argTypes:=j },ty,pos,af,g⟩)::rem) lg Kf L H:=by
 have m:xs.map (L6 L H).op++[]=args:=by rw [kz,Bn,<- kq,s]
 have I:cx (.call { callee:=.value (.func f),args:=xs.toArray,argTypes:=j })=true:=by
  unfold cx;simp only [Op.operands,Call.operands,C3,Du,Ae];refine⟨rfl,?_⟩
  have:∀ (xs:List Operand),dz xs=true->xs.all de=true:=by
   intro xs;induction xs with
   | nil=>intro _;rfl
   | cons x xs ih=>intro h;simp only [dz,Ae] at h;simp [h.1,ih h.2]
  exact this xs z
 refine .cons true _ [] [] (.call d f (.func f) [] xs j R ((ki ops L g).trans o) rfl rfl rfl (m▸hc) (m▸A) I C) E (F.imp λr h=>⟨.no,h,rfl⟩) (λv u b=>by rw [b.2];rfl) λv u b=>?_
 rw [b.2];have:(L6 L H).app (κ+i) (some d) v .no=L6 ((d,v)::L) H:=(nv L H (some d) v)
 show DR Γ ops κ rem _ Kf ((L6 L H).app (κ+i) (some d) v .no);rw [this];exact G v b.1
def Iy {i:Nat} {f:FuncId} {xs:List Operand} {b:Array TypeId} {ty:TypeId} {pos:String} {af:Array Edge} {g:Option (Nat×Bool)} {d:Nat} {args:List SV} {te:TypeId} {es:Nat} {R:List (List D)->Prop} (o:ap ops L g=some true)
  (r:mt L xs=args) (hc:CC Γ.dr Γ.P Γ.τ Γ.τok f args te es R) (s:dz xs=true) (z:SV.U1 0 args=true) (A:Av d Γ.n=true) (C:gx ops i [] [κ+i] lg=true) (E:∃ ys,R ys)
  (F:∀ ys,R ys->DT Γ ops κ rem ((i,[],[κ+i])::lg) Kf ((d,.row (κ+i))::L) ((κ+i,.row te es ys)::H)) :
  DT Γ ops κ ((i,⟨some d,.call { callee:=.value (.func f),args:=xs.toArray,argTypes:=b },ty,pos,af,g⟩)::rem) lg Kf L H:=by
 have m:xs.map (L6 L H).op++[]=args:=by rw [kz,Bn,<- kq,r]
 have G:cx (.call { callee:=.value (.func f),args:=xs.toArray,argTypes:=b })=true:=by
  unfold cx;simp only [Op.operands,Call.operands,C3,Du,Ae];refine⟨rfl,?_⟩
  have:∀ (xs:List Operand),dz xs=true->xs.all de=true:=by
   intro xs;induction xs with
   | nil=>intro _;rfl
   | cons x xs ih=>intro h;simp only [dz,Ae] at h;simp [h.1,ih h.2]
  exact this xs s
 refine .cons true _ [] [κ+i] (.Zy d f (.func f) [] xs b te es R ((ki ops L g).trans o) rfl rfl rfl (m▸hc) (m▸z) G A) C (by obtain⟨ys,h⟩:=E;exact⟨_,_,ys,h,rfl,rfl⟩) (λv u j=>by obtain⟨ys,_,_,h⟩:=j;rw [h];rfl) λv u j=>?_
 obtain⟨ys,I,rfl,rfl⟩:=j;show DR Γ ops κ rem _ Kf ((L6 L H).app (κ+i) (some d) (.row<|κ+i)<|.new<|.row te es ys);rw [<- Dr];exact F ys I
def v7 [P7 Γ] (j:Nat) {i:Nat} {f:FuncId} {xs:List Operand} {b:Array TypeId} {ty:TypeId} {pos:String} {af:Array Edge} {g:Option (Nat×Bool)} {d:Nat} {args:List SV} {m te:TypeId} {o es:Nat} {ds:List (List D)} {R:List (List D)->Prop} {H':Hp} (hc:Ln Γ.dr Γ.P Γ.τ Γ.τok f args m o ds te es R)
  (z:ap ops L g=some true) (A:mt L xs=SV.T4 (λ_=>j) args) (hH:Hp.get H j=some (.row m o ds)) (C:dz xs=true) (E:SV.U1 1 args=true) (F:Av d Γ.n=true) (G:gx ops i [j] [j,κ+i] lg=true) (I:∃ ys,R ys) (s:zh H j some=some H') (J:a8 (H.map (·.1))=true)
  (M:∀ ys,R ys->DT Γ ops κ rem ((i,[j],[j,κ+i])::lg) Kf ((d,.row (κ+i))::L) ((κ+i,.row te es ys)::H')) :
  DT Γ ops κ ((i,⟨some d,.call { callee:=.value (.func f),args:=xs.toArray,argTypes:=b },ty,pos,af,g⟩)::rem) lg Kf L H:=by
 rw [ny] at s;cases s;have N:xs.map (L6 L H).op=SV.T4 (λ_=>j) args:=by rw [kz,<- kq,A]
 have O:cx (.call { callee:=.value (.func f),args:=xs.toArray,argTypes:=b })=true:=by
  unfold cx;simp only [Op.operands,Call.operands,C3,Du,Ae];refine⟨rfl,?_⟩
  have:∀ (xs:List Operand),dz xs=true->xs.all de=true:=by
   intro xs;induction xs with
   | nil=>intro _;rfl
   | cons x xs ih=>intro h;simp only [dz,Ae] at h;simp [h.1,ih h.2]
  exact this xs C
 refine .cons true _ [j] [j,κ+i] (.Cz d f xs b j args m te o es ds R ((ki ops L g).trans z) rfl rfl hc N E hH O F P7.no) G (by obtain⟨ys,h⟩:=I;exact⟨_,_,ys,h,rfl,rfl⟩) (λv u r=>by obtain⟨ys,_,_,h⟩:=r;rw [h];rfl) λv u r=>?_
 obtain⟨ys,S,rfl,rfl⟩:=r;show DR Γ ops κ rem _ Kf ((L6 L H).app (κ+i) (some d) (.row<|κ+i)<|.M5 j<|.row te es ys);rw [<- yB _ _ _ _ _ _ _ (ed _ J)];exact M ys S
def kb {i:Nat} {f:FuncId} {x:Operand} {caps:List SV} {xs:List Operand} {j:Array TypeId} {ty:TypeId} {pos:String} {af:Array Edge} {g:Option (Nat×Bool)} {d:Nat} {args:List SV} {R:SV->Prop} (o:aj L x=.fn f caps) (s:de x=true) (z:ap ops L g=some true)
  (A:mt L xs++caps=args) (hc:I3 Γ.dr Γ.P Γ.τ Γ.τok f args R) (C:dz xs=true) (E:SV.U1 0 args=true) (F:Av d Γ.n=true) (G:gx ops i [] [] lg=true) (I:∃ r,R r)
  (J:∀ r,R r->DT Γ ops κ rem ((i,[],[])::lg) Kf ((d,r)::L) H) :
  DT Γ ops κ ((i,⟨some d,.call { callee:=.value x,args:=xs.toArray,argTypes:=j },ty,pos,af,g⟩)::rem) lg Kf L H:=by
 have m:xs.map (L6 L H).op++caps=args:=by rw [kz,<- kq,A]
 have M:cx (.call { callee:=.value x,args:=xs.toArray,argTypes:=j })=true:=by
  unfold cx;simp only [Op.operands,Call.operands,C3,Du,Ae];refine⟨by simp [s],?_⟩
  have:∀ (xs:List Operand),dz xs=true->xs.all de=true:=by
   intro xs;induction xs with
   | nil=>intro _;rfl
   | cons x xs ih=>intro h;simp only [dz,Ae] at h;simp [h.1,ih h.2]
  exact this xs C
 refine .cons true _ [] [] (.call d f x caps xs j R ((ki ops L g).trans z) rfl rfl (by rw [kz];exact o) (m▸hc) (m▸E) M F) G (I.imp λr h=>⟨.no,h,rfl⟩) (λv u b=>by rw [b.2];rfl) λv u b=>?_
 rw [b.2];have:(L6 L H).app (κ+i) (some d) v .no=L6 ((d,v)::L) H:=(nv L H (some d) v)
 show DR Γ ops κ rem _ Kf ((L6 L H).app (κ+i) (some d) v .no);rw [this];exact J v b.1
def rh {i:Nat} {f:FuncId} {xs:List Operand} {m:Array TypeId} {ty:TypeId} {pos:String} {af:Array Edge} {g:Option (Nat×Bool)} {d:Nat} {args:List SV} {J:Nat} {b:Hp} {R:SV->Prop} (ρ:Nat->Nat)
  (hc:X1 Γ.dr Γ.P Γ.τ Γ.τok f args J J b (λ_ r o=>R r/\o=b)) (s:∀ r,R r->r.low 0=true/\r.L4 J=true) (u:∃ r,R r) (z:ap ops L g=some true) (A:mt L xs=SV.T4 ρ args) (C:dz xs=true) (E:SV.U1 J args=true) (F:N4 ρ H b) (G:Hp.low J b=true)
  (I:a8 (b.map λp=>ρ p.1)=true) (M:a8 (b.map (·.1))=true) (N:Nb J (b.map (·.1))=true) (O:Ob J b=true) (S:Hp.L4 J b=true) (T:Av d Γ.n=true) {rd:List Nat} (U:b.map (λp=>ρ p.1)=rd) (V:gx ops i rd [] lg=true)
  (W:∀ r,R r->DT Γ ops κ rem ((i,rd,[])::lg) Kf ((d,r)::L) H) :
  DT Γ ops κ ((i,⟨some d,.call { callee:=.value (.func f),args:=xs.toArray,argTypes:=m },ty,pos,af,g⟩)::rem) lg Kf L H:=by
 subst U;have Z:xs.map (L6 L H).op++[]=SV.T4 ρ args:=by rw [kz,Bn,<- kq,A]
 have a0:cx (.call { callee:=.value (.func f),args:=xs.toArray,argTypes:=m })=true:=by
  unfold cx;simp only [Op.operands,Call.operands,C3,Du,Ae];refine⟨rfl,?_⟩
  have:∀ (xs:List Operand),dz xs=true->xs.all de=true:=by
   intro xs;induction xs with
   | nil=>intro _;rfl
   | cons x xs ih=>intro h;simp only [dz,Ae] at h;simp [h.1,ih h.2]
  exact this xs C
 refine .cons true _ _ [] (.Iz d f (.func f) [] xs m ρ args J b R ((ki ops L g).trans z) rfl rfl rfl hc Z E ((Wl ρ H b).2 F) G I M N O s S a0 T) V (u.imp λr h=>⟨.no,h,rfl⟩) (λv a1 j=>by rw [j.2];rfl) λv a1 j=>?_
 rw [j.2];have:(L6 L H).app (κ+i) (some d) v .no=L6 ((d,v)::L) H:=(nv L H (some d) v)
 show DR Γ ops κ rem _ Kf ((L6 L H).app (κ+i) (some d) v .no);rw [this];exact W v j.1
def Jy {i z:Nat} {t te:TypeId} {es:Nat} {ty:TypeId} {pos:String} {af:Array Edge} {g:Option (Nat×Bool)} {d:Nat} (f:ap ops L g=some true) (h:κ+i=z)
  (j:(ai Γ.τ t).sh=.slice te) (m:(ai Γ.τ te).sh.known=true) (o:(ai Γ.τ te).cells=es) (r:Av 0 es=true) (s:gp (ai Γ.τ te).zero=true) (A:Az (ai Γ.τ te).zero.length (ai Γ.τ te).cells=true) (C:Av d Γ.n=true)
  (E:gx ops i [] [z] lg=true) (F:DT Γ ops κ rem ((i,[],[z])::lg) Kf ((d,.row z)::L) ((z,.row te es [])::H)) :
  DT Γ ops κ ((i,⟨some d,.buildSlice t 0 #[],ty,pos,af,g⟩)::rem) lg Kf L H:=by
 subst h;refine .cons false _ _ _ (.gU d t te es ((ki ops L g).trans f) rfl rfl j m o r s A C) E ⟨_,_,rfl,rfl⟩ (λv u b=>by rw [b.2];rfl) λv u b=>?_
 obtain⟨rfl,rfl⟩:=b;have:=Dr L H d (.row<|κ+i) (κ+i)<|.row te es []
 show DR Γ ops κ rem _ Kf ((L6 L H).app (κ+i) (some d) (.row<|κ+i)<|.new<|.row te es []);rw [<- this];exact F
def pG {t:Nat} {b:Bool} (hb:L.get t=.d (.bool b)):L6 ((t,.d (.bool b))::L) H=L6 L H:=by
 unfold L6;congr 1;funext t';rw [Sl.C1];split
 ·rename_i h;subst h;exact hb.symm
 ·rfl
def KT {t:Nat} {b:Bool} (hb:L.get t=.d (.bool b)) (f:b=true->DT Γ ops κ rem lg Kf ((t,.d (.bool true))::L) H) (h:b=false->DT Γ ops κ rem lg Kf ((t,.d (.bool false))::L) H):DT Γ ops κ rem lg Kf L H:=by
 unfold DT at *;cases b with
 | true=>exact pG (H:=H) hb▸f rfl
 | false=>exact pG (H:=H) hb▸h rfl
def NT {i:Nat} {op:Op} {ty:TypeId} {pos:String} {af:Array Edge} {g:Option (Nat×Bool)} {dst:Option Nat} {b:Bool} (_:ap ops L g=some b) (h:DT Γ ops κ ((i,⟨dst,op,ty,pos,af,g⟩)::rem) lg Kf L H) :
  DT Γ ops κ ((i,⟨dst,op,ty,pos,af,g⟩)::rem) lg Kf L H:=h
def LH {op:Op} {ty:TypeId} {pos:String} {af:Array Edge} {g:Option (Nat×Bool)} {dst:Option Nat} {b:Bool} (_:ap ops L g=some b) (h:DS q Γ ops (⟨dst,op,ty,pos,af,g⟩::rest) K k L H) :
  DS q Γ ops (⟨dst,op,ty,pos,af,g⟩::rest) K k L H:=h
def AP {i:Nat} {op:Op} {ty:TypeId} {pos:String} {af:Array Edge} {j:Nat} {b:Bool} {p:Prop} {_:Decidable p} {dst:Option Nat} {f:Oper} {t:Nat} (_:pz ops j=some f) (_:f.dst=some t) (hb:L.get t=.d (.bool (decide p)))
  (m:p->DT Γ ops κ ((i,⟨dst,op,ty,pos,af,some (j,b)⟩)::rem) lg Kf ((t,.d (.bool true))::L) H) (n:¬ p->DT Γ ops κ ((i,⟨dst,op,ty,pos,af,some (j,b)⟩)::rem) lg Kf ((t,.d (.bool false))::L) H) :
  DT Γ ops κ ((i,⟨dst,op,ty,pos,af,some (j,b)⟩)::rem) lg Kf L H:=KT hb (λh=>m<|of_decide_eq_true h)<|λh=>n<|of_decide_eq_false h
def FP {op:Op} {ty:TypeId} {pos:String} {af:Array Edge} {j:Nat} {f b:Bool} {dst:Option Nat} {h:Oper} {t:Nat} (_:pz ops j=some h) (_:h.dst=some t) (hb:L.get t=.d (.bool b))
  (i:b=true->DS q Γ ops (⟨dst,op,ty,pos,af,some (j,f)⟩::rest) K k ((t,.d (.bool true))::L) H) (m:b=false->DS q Γ ops (⟨dst,op,ty,pos,af,some (j,f)⟩::rest) K k ((t,.d (.bool false))::L) H) :
  DS q Γ ops (⟨dst,op,ty,pos,af,some (j,f)⟩::rest) K k L H:=JH hb i m
def EP {op:Op} {ty:TypeId} {pos:String} {af:Array Edge} {j:Nat} {b:Bool} {p:Prop} {_:Decidable p} {dst:Option Nat} {f:Oper} {t:Nat} (_:pz ops j=some f) (_:f.dst=some t) (hb:L.get t=.d (.bool (decide p)))
  (i:p->DS q Γ ops (⟨dst,op,ty,pos,af,some (j,b)⟩::rest) K k ((t,.d (.bool true))::L) H) (m:¬ p->DS q Γ ops (⟨dst,op,ty,pos,af,some (j,b)⟩::rest) K k ((t,.d (.bool false))::L) H) :
  DS q Γ ops (⟨dst,op,ty,pos,af,some (j,b)⟩::rest) K k L H:=JH hb (λh=>i<|of_decide_eq_true h)<|λh=>m<|of_decide_eq_false h
end
section
variable {Γ : Ctx} {k κ : Nat} {L : Sl} {H : Hp} {K : cn} {ops : List Oper} {rest : List Oper} {q : Bool} {rem : List (Nat×Oper)} {lg : Log} {Kf : FS -> Prop}
def zp {p:Prop} (h:p:=by (first|(with_reducible exact trivial)|(with_reducible exact XE _)|(with_reducible exact sat_range _ _)|omega|(with_reducible assumption)|(with_reducible exact bytesOk_one)|(constructor<;>omega)|(simp only [List.length_map];omega)|(unfold maxLen at *;omega)|(simp<;>omega)|(unfold maxLen;simp<;>omega))):p:=h
def zv {v w:SV} (h:v=w:=by (first|(with_reducible exact gY)|((with_reducible apply fW);(first|exact ez _|exact kw _|exact qj _|exact qh|exact nat_lit_1|exact rfl|exact (Int.toNat_of_nonneg<|by omega).symm))|((with_reducible apply FO);(first|exact ez _|exact kw _|exact qj _|exact qh|exact nat_lit_1|exact rfl|exact (Int.toNat_of_nonneg<|by omega).symm))|((with_reducible apply GO);(first|exact ez _|exact kw _|exact qj _|exact qh|exact nat_lit_1|exact rfl|exact (Int.toNat_of_nonneg<|by omega).symm))|((with_reducible apply ZS);(apply k0;(first|(with_reducible exact trivial)|(with_reducible exact XE _)|(with_reducible exact sat_range _ _)|omega|(with_reducible assumption)|(with_reducible exact bytesOk_one)|(constructor<;>omega)|(simp only [List.length_map];omega)|(unfold maxLen at *;omega)|(simp<;>omega)|(unfold maxLen;simp<;>omega)));exact rfl)|((with_reducible apply KD);(first|exact ez _|exact kw _|exact qj _|exact qh|exact nat_lit_1|exact rfl|exact (Int.toNat_of_nonneg<|by omega).symm);(first|omega|(rw [List.length_map];omega)))|((with_reducible apply eY);(first|exact ez _|exact kw _|exact qj _|exact qh|exact nat_lit_1|exact rfl|exact (Int.toNat_of_nonneg<|by omega).symm);omega)|((with_reducible apply fY);(first|exact ez _|exact kw _|exact qj _|exact qh|exact nat_lit_1|exact rfl|exact (Int.toNat_of_nonneg<|by omega).symm);(first|exact ez _|exact kw _|exact qj _|exact qh|exact nat_lit_1|exact rfl|exact (Int.toNat_of_nonneg<|by omega).symm))|(with_reducible exact rfl))):v=w:=h
def y0 {d:Nat} {op:Op} {ty:TypeId} {pos:String} {af:Array Edge} {g:Option (Nat×Bool)} {p:Prop} {s b:SV} (f:Z7 Γ.τ (aj L) (Hp.get H) op=some (p,s):=by exact rfl) (h:p:=by exact zp) (i:s=b:=by exact zv) (j:cx op=true:=by exact rfl) (m:ap ops L g=some true:=by exact rfl) (o:Nat.blt d Γ.n=true:=by exact rfl):(DS q Γ ops rest K k ((d,b)::L) H)->(DS q Γ ops (⟨some d,op,ty,pos,af,g⟩::rest) K k L H):=λr=>PT f h i j m o r
def z0 {d:Nat} {op:Op} {ty:TypeId} {pos:String} {af:Array Edge} {g:Option (Nat×Bool)} {p:Prop} {s b:SV} (f:DS q Γ ops rest K k ((d,b)::L) H) (h:Z7 Γ.τ (aj L) (Hp.get H) op=some (p,s):=by exact rfl) (i:p:=by exact zp) (j:s=b:=by exact zv) (m:cx op=true:=by exact rfl) (o:ap ops L g=some true:=by exact rfl) (r:Nat.blt d Γ.n=true:=by exact rfl):DS q Γ ops (⟨some d,op,ty,pos,af,g⟩::rest) K k L H:=PT h i j m o r f
def y1 {d:Nat} {op:Op} {ty:TypeId} {pos:String} {af:Array Edge} {g:Option (Nat×Bool)} {p:Prop} {s:SV} {b:HB} (f:oe Γ.τ (aj L) (Hp.get H) k op=some (p,s,.new b):=by exact rfl) (h:p:=by exact zp) (i:cx op=true:=by exact rfl) (j:ap ops L g=some true:=by exact rfl) (m:Nat.blt d Γ.n=true:=by exact rfl):(DS false Γ ops rest K (k+1) ((d,s)::L) ((k,b)::H))->(DS false Γ ops (⟨some d,op,ty,pos,af,g⟩::rest) K k L H):=λo=>FW f h i j m o
def y2 [P7 Γ] {d j:Nat} {op:Op} {ty:TypeId} {pos:String} {af:Array Edge} {g:Option (Nat×Bool)} {p:Prop} {s:SV} {b:HB} {H':Hp} (f:oe Γ.τ (aj L) (Hp.get H) k op=some (p,s,.M5 j b):=by exact rfl) (h:p:=by exact zp) (i:cx op=true:=by exact rfl) (m:ap ops L g=some true:=by exact rfl) (o:Nat.blt d Γ.n=true:=by exact rfl) (hH:zh H j some=some H':=by exact rfl):(DS false Γ ops rest K (k+1) ((d,s)::L) ((k,b)::H'))->(DS false Γ ops (⟨some d,op,ty,pos,af,g⟩::rest) K k L H):=λr=>v8 f h i m o hH r
def y3 {te ty:TypeId} {x y:Operand} {pos:String} {af:Array Edge} {g:Option (Nat×Bool)} {s:SV} {j:Nat} {b:HB} {H':Hp} (f:sp Γ.τ te (aj L x) (aj L y) (Hp.get H)=some (True,s,.set j b):=by exact rfl) (h:de y=true:=by exact rfl) (i:ap ops L g=some true:=by exact rfl) (hH:zd H j b some=some H':=by exact rfl):(DS false Γ ops rest K k L H')->(DS false Γ ops (⟨none,.store te x y,ty,pos,af,g⟩::rest) K k L H):=λm=>EW f h i hH m
def y4 {d:Nat} {t len:Nat} {ty:TypeId} {pos:String} {af:Array Edge} {g:Option (Nat×Bool)} {ps:Array (Nat×Operand)} {p:Prop} {s:SV} (b:dh Γ.τ (aj L) t len ps.toList=some (p,s,.no):=by exact rfl) (f:cx (.buildSlice t len ps)=true:=by exact rfl) (h:ap ops L g=some true:=by exact rfl) (i:Nat.blt d Γ.n=true:=by exact rfl):(DS false Γ ops rest K k ((d,s)::L) H)->(DS false Γ ops (⟨some d,.buildSlice t len ps,ty,pos,af,g⟩::rest) K k L H):=λj=>IY b f h i j
def y5 {i:Nat} {op:Op} {ty:TypeId} {pos:String} {af:Array Edge} {g:Option (Nat×Bool)} {d:Nat} {p:Prop} {v v':SV} (b:ap ops L g=some true:=by exact rfl) (f:jv Γ.τ (aj L) (Hp.get H) (κ+i) (some d) op=some (p,v,.no):=by exact rfl) (h:p:=by exact zp) (j:v=v':=by exact zv) (m:sy op=true:=by exact rfl) (o:Nat.blt d Γ.n=true:=by exact rfl) (r:a8 (H.map (·.1))=true:=by exact rfl) (s:gx ops i (nk (aj L) op) [] lg=true:=by exact rfl):(DT Γ ops κ rem ((i,nk (aj L) op,[])::lg) Kf ((d,v')::L) H)->(DT Γ ops κ ((i,⟨some d,op,ty,pos,af,g⟩)::rem) lg Kf L H):=λu=>dp b f h j m o r s u
def z5 {i:Nat} {op:Op} {ty:TypeId} {pos:String} {af:Array Edge} {g:Option (Nat×Bool)} {d:Nat} {p:Prop} {v v':SV} (b:DT Γ ops κ rem ((i,nk (aj L) op,[])::lg) Kf ((d,v')::L) H) (f:ap ops L g=some true:=by exact rfl) (h:jv Γ.τ (aj L) (Hp.get H) (κ+i) (some d) op=some (p,v,.no):=by exact rfl) (j:p:=by exact zp) (m:v=v':=by exact zv) (o:sy op=true:=by exact rfl) (r:Nat.blt d Γ.n=true:=by exact rfl) (s:a8 (H.map (·.1))=true:=by exact rfl) (u:gx ops i (nk (aj L) op) [] lg=true:=by exact rfl):DT Γ ops κ ((i,⟨some d,op,ty,pos,af,g⟩)::rem) lg Kf L H:=dp f h j m o r s u b
def y6 {i j:Nat} {op:Op} {ty:TypeId} {pos:String} {af:Array Edge} {g:Option (Nat×Bool)} {p:Prop} {v:SV} {b:HB} {H':Hp} (f:ap ops L g=some true:=by exact rfl) (h:jv Γ.τ (aj L) (Hp.get H) (κ+i) none op=some (p,v,.set j b):=by exact rfl) (m:p:=by exact zp) (n:sy op=true:=by exact rfl) (o:a8 (H.map (·.1))=true:=by exact rfl) (hH:zd H j b some=some H':=by exact rfl) (r:gx ops i (nk (aj L) op) [j] lg=true:=by exact rfl):(DT Γ ops κ rem ((i,nk (aj L) op,[j])::lg) Kf L H')->(DT Γ ops κ ((i,⟨none,op,ty,pos,af,g⟩)::rem) lg Kf L H):=λs=>EY f h m n o hH r s
def y7 {i z:Nat} {op:Op} {ty:TypeId} {pos:String} {af:Array Edge} {g:Option (Nat×Bool)} {d:Nat} {p:Prop} {v v':SV} {b:HB} (f:ap ops L g=some true:=by exact rfl) (h:κ+i=z:=by exact rfl) (j:jv Γ.τ (aj L) (Hp.get H) z (some d) op=some (p,v,.new b):=by exact rfl) (m:p:=by exact zp) (o:v=v':=by exact rfl) (r:sy op=true:=by exact rfl) (s:Nat.blt d Γ.n=true:=by exact rfl) (u:a8 (H.map (·.1))=true:=by exact rfl) (A:gx ops i (nk (aj L) op) [z] lg=true:=by exact rfl):(DT Γ ops κ rem ((i,nk (aj L) op,[z])::lg) Kf ((d,v')::L) ((z,b)::H))->(DT Γ ops κ ((i,⟨some d,op,ty,pos,af,g⟩)::rem) lg Kf L H):=λC=>Fy f h j m o r s u A C
def y8 {i j:Nat} {op:Op} {ty:TypeId} {pos:String} {af:Array Edge} {g:Option (Nat×Bool)} {d:Nat} {p:Prop} {v v':SV} {H':Hp} (b:ap ops L g=some true:=by exact rfl) (f:jv Γ.τ (aj L) (Hp.get H) (κ+i) (some d) op=some (p,v,.del j):=by exact rfl) (h:p:=by exact zp) (m:v=v':=by exact rfl) (o:sy op=true:=by exact rfl) (r:Nat.blt d Γ.n=true:=by exact rfl) (s:a8 (H.map (·.1))=true:=by exact rfl) (u:gx ops i (nk (aj L) op) [j] lg=true:=by exact rfl) (hH:zh H j some=some H':=by exact rfl):(DT Γ ops κ rem ((i,nk (aj L) op,[j])::lg) Kf ((d,v')::L) H')->(DT Γ ops κ ((i,⟨some d,op,ty,pos,af,g⟩)::rem) lg Kf L H):=λz=>FY b f h m o r s u hH z
def y9 [P7 Γ] {i j z:Nat} {op:Op} {ty:TypeId} {pos:String} {af:Array Edge} {g:Option (Nat×Bool)} {d:Nat} {p:Prop} {v v':SV} {b:HB} {H':Hp} (f:ap ops L g=some true:=by exact rfl) (h:κ+i=z:=by exact rfl) (m:jv Γ.τ (aj L) (Hp.get H) z (some d) op=some (p,v,.M5 j b):=by exact rfl) (o:p:=by exact zp) (r:v=v':=by exact rfl) (s:sy op=true:=by exact rfl) (u:Nat.blt d Γ.n=true:=by exact rfl) (A:a8 (H.map (·.1))=true:=by exact rfl) (C:gx ops i (nk (aj L) op) [j,z] lg=true:=by exact rfl) (hH:zh H j some=some H':=by exact rfl):(DT Γ ops κ rem ((i,nk (aj L) op,[j,z])::lg) Kf ((d,v')::L) ((z,b)::H'))->(DT Γ ops κ ((i,⟨some d,op,ty,pos,af,g⟩)::rem) lg Kf L H):=λE=>Wi f h m o r s u A C hH E
def y10 {m:Nat} {Q:cn} (b:a8 (H.map (·.1))=true:=by exact rfl) (f:Nat.ble Γ.J κ=true:=by exact rfl) (i:Sl.low κ L=true:=by exact rfl) (hH:Hp.low κ H=true:=by exact rfl):(Q κ L H)->(DT Γ ops κ [] lg (Yx Γ m Q) L H):=λh=>CW b f i hH h
def y11 {m:Nat} {Q:cn} (b:a8 (H.map (·.1))=true:=by exact rfl):(Q m L H)->(DT Γ ops κ [] lg (Yx Γ m Q) L H):=λh=>Cy b h
def z11 {m:Nat} {Q:cn} (h:Q m L H) (b:a8 (H.map (·.1))=true:=by exact rfl):DT Γ ops κ [] lg (Yx Γ m Q) L H:=Cy b h
def y12 {op:Op} {ty:TypeId} {pos:String} {af:Array Edge} {g:Option (Nat×Bool)} {d:Nat} (b:ap ops L g=some false:=by exact rfl) (f:Nat.blt d Γ.n=true:=by exact rfl):(DS q Γ ops rest K k ((d,.M2 [])::L) H)->(DS q Γ ops (⟨some d,op,ty,pos,af,g⟩::rest) K k L H):=λh=>GM b f h
def z12 {op:Op} {ty:TypeId} {pos:String} {af:Array Edge} {g:Option (Nat×Bool)} {d:Nat} (h:DS q Γ ops rest K k ((d,.M2 [])::L) H) (b:ap ops L g=some false:=by exact rfl) (f:Nat.blt d Γ.n=true:=by exact rfl):DS q Γ ops (⟨some d,op,ty,pos,af,g⟩::rest) K k L H:=GM b f h
def y14 {i:Nat} {op:Op} {ty:TypeId} {pos:String} {af:Array Edge} {g:Option (Nat×Bool)} {d:Nat} (b:ap ops L g=some false:=by exact rfl) (f:Nat.blt d Γ.n=true:=by exact rfl) (h:gx ops i [] [] lg=true:=by exact rfl):(DT Γ ops κ rem ((i,[],[])::lg) Kf ((d,.M2 [])::L) H)->(DT Γ ops κ ((i,⟨some d,op,ty,pos,af,g⟩)::rem) lg Kf L H):=λj=>MT b f h j
def y16 {id:Nat} {l:List Oper} {Q:ey} (b:d8 l=true:=by exact rfl):(DS false Γ l l (Q .normal) k L H)->(DW Γ (.region id l.toArray false) Q k L H):=λh=>Qm b h
def y17 {id i:Nat} {Q:ey} (hb:Nat.beq i id=true:=by exact rfl):(Q .normal k L H)->(bl id Q (.exit i) k L H):=λh=>PB hb h
def y18 {Γ:Ctx} {k:Nat} {L:Sl} {H:Hp} {Q:ey} {c:Operand} {x y:Code} (hc:aj L c=.d (.bool true):=by exact rfl):(DW Γ x Q k L H)->(DW Γ (.cond c x y) Q k L H):=λh=>IT hc h
def y19 {Γ:Ctx} {k:Nat} {L:Sl} {H:Hp} {Q:ey} {c:Operand} {x y:Code} (hc:aj L c=.d (.bool false):=by exact rfl):(DW Γ y Q k L H)->(DW Γ (.cond c x y) Q k L H):=λh=>JT hc h
def y20 {id m:Nat} {l:List Oper} {Q:ey} (b:Γ.P.follows .mixedOrders=true:=by kernel_rfl) (f:ue l=true:=by kernel_rfl) (i:d8 l=true:=by exact rfl) (j:LG l k m:=by exact rfl):(DT Γ l k (em 0 l) [] (Yx Γ m<|Q .normal) L H)->(DW Γ (.region id l.toArray true) Q k L H):=λh=>DY b f i j h
def z21 {f:FuncId} {xs:List Operand} {h:Array TypeId} {ty:TypeId} {pos:String} {af:Array Edge} {g:Option (Nat×Bool)} {d:Nat} {args:List SV} {b:SV} (i:DS false Γ ops rest K k ((d,b)::L) H) (hc:I3 Γ.dr Γ.P Γ.τ Γ.τok f args (λr=>r=b)) (j:ap ops L g=some true:=by exact rfl) (m:mt L xs=args:=by exact rfl) (o:dz xs=true:=by exact rfl) (s:SV.U1 0 args=true:=by (first|exact rfl|assumption)) (u:Nat.blt d Γ.n=true:=by exact rfl):DS false Γ ops (⟨some d,.call { callee:=.value (.func f),args:=xs.toArray,argTypes:=h },ty,pos,af,g⟩::rest) K k L H:=yq j m hc o s u<|by rintro _ rfl;exact i
def z31 {f:FuncId} {xs:List Operand} {h:Array TypeId} {ty:TypeId} {pos:String} {af:Array Edge} {g:Option (Nat×Bool)} {d:Nat} {args:List SV} {b:SV} (i:DS false Γ ops rest K k ((d,b)::L) H) (j:ap ops L g=some true:=by exact rfl) (m:mt L xs=args:=by exact rfl) (hc:I3 Γ.dr Γ.P Γ.τ Γ.τok f args (λr=>r=b)) (o:dz xs=true:=by exact rfl) (s:SV.U1 0 args=true:=by (first|exact rfl|assumption)) (u:Nat.blt d Γ.n=true:=by exact rfl):DS false Γ ops (⟨some d,.call { callee:=.value (.func f),args:=xs.toArray,argTypes:=h },ty,pos,af,g⟩::rest) K k L H:=yq j m hc o s u<|by rintro _ rfl;exact i
def z22 {i:Nat} {f:FuncId} {xs:List Operand} {h:Array TypeId} {ty:TypeId} {pos:String} {af:Array Edge} {g:Option (Nat×Bool)} {d:Nat} {args:List SV} {b:SV} (j:DT Γ ops κ rem ((i,[],[])::lg) Kf ((d,b)::L) H) (hc:I3 Γ.dr Γ.P Γ.τ Γ.τok f args (λr=>r=b)) (m:ap ops L g=some true:=by exact rfl) (o:mt L xs=args:=by exact rfl) (s:dz xs=true:=by exact rfl) (u:SV.U1 0 args=true:=by (first|exact rfl|assumption)) (v:Nat.blt d Γ.n=true:=by exact rfl) (z:gx ops i [] [] lg=true:=by exact rfl):DT Γ ops κ ((i,⟨some d,.call { callee:=.value (.func f),args:=xs.toArray,argTypes:=h },ty,pos,af,g⟩)::rem) lg Kf L H:=qE m o hc s u v z ⟨_,rfl⟩<|by rintro _ rfl;exact j
def z32 {i:Nat} {f:FuncId} {xs:List Operand} {h:Array TypeId} {ty:TypeId} {pos:String} {af:Array Edge} {g:Option (Nat×Bool)} {d:Nat} {args:List SV} {b:SV} (j:DT Γ ops κ rem ((i,[],[])::lg) Kf ((d,b)::L) H) (m:ap ops L g=some true:=by exact rfl) (o:mt L xs=args:=by exact rfl) (hc:I3 Γ.dr Γ.P Γ.τ Γ.τok f args (λr=>r=b)) (s:dz xs=true:=by exact rfl) (u:SV.U1 0 args=true:=by (first|exact rfl|assumption)) (v:Nat.blt d Γ.n=true:=by exact rfl) (z:gx ops i [] [] lg=true:=by exact rfl):DT Γ ops κ ((i,⟨some d,.call { callee:=.value (.func f),args:=xs.toArray,argTypes:=h },ty,pos,af,g⟩)::rem) lg Kf L H:=qE m o hc s u v z ⟨_,rfl⟩<|by rintro _ rfl;exact j
def z23 {Γ:Ctx} {k:Nat} {L:Sl} {H:Hp} {Q:ey} {c:Operand} {x y:Code} {p:Prop} {_:Decidable p} (b:p->DW Γ x Q k L H) (f:¬ p->DW Γ y Q k L H) (hc:aj L c=.d (.bool (decide p)):=by exact rfl):DW Γ (.cond c x y) Q k L H:=a6 hc b f
def zs {G A:Prop} (h:A) (s:A->G:=by (first|exact y0|exact y12|exact i7|exact y5|exact y14|exact y6|exact y7|exact y8|exact y9|exact y10|exact y11|exact CM|exact y16|exact y20|exact HH|exact BM|exact DM|exact y18|exact y19|exact ix|exact xd|exact jL|exact Uw|exact oX|exact y17|exact y1|exact y3|exact y4|exact y2|fail)):G:=s h
def zr {G A:Prop} (h:A) (s:A->G:=by (first|exact y0|exact cr|exact y12|exact i7|exact y5|exact y14|exact y6|exact y7|exact y8|exact y9|exact y10|exact y11|exact CM|exact y16|exact y20|exact HH|exact BM|exact DM|exact y18|exact y19|exact ix|exact xd|exact jL|exact Uw|exact oX|exact y17|exact y1|exact y3|exact y4|exact y2|fail)):G:=s h
structure Wr (A:Prop):Prop where
 o:A
def zS {G A:Prop} (h:A) (s:Wr A->G:=by (intro h;(repeat' (first|refine zs ?_|fail));exact h.o)):G:=s ⟨h⟩
def zR {G A:Prop} (h:A) (s:Wr A->G:=by (intro h;(repeat' (first|refine zr ?_|fail));exact h.o)):G:=s ⟨h⟩
def y23 {Γ:Ctx} {k:Nat} {L:Sl} {H:Hp} {c:Operand} {x y:Code} {Q:ey} {p:Prop} {_:Decidable p} (hc:aj L c=.d (.bool (decide p)):=by exact rfl):(p->DW Γ x Q k L H)->(¬ p->DW Γ y Q k L H)->DW Γ (.cond c x y) Q k L H:=λu v=>a6 hc u v
def y24 {Γ:Ctx} {k:Nat} {L:Sl} {H:Hp} {c:Operand} {x y:Code} {Q:ey} {b:Bool} (hc:aj L c=.d (.bool b):=by exact rfl):(b=true->DW Γ x Q k L H)->(b=false->DW Γ y Q k L H)->DW Γ (.cond c x y) Q k L H:=λu v=>ee hc u v
def y25  {op:Op} {ty:TypeId} {pos:String} {af:Array Edge} {j:Nat} {b:Bool} {p:Prop} {_:Decidable p} {dst:Option Nat} {f:Oper} {t:Nat} (h1:pz ops j=some f:=by exact rfl) (h:f.dst=some t:=by exact rfl) (hb:L.get t=.d (.bool<|decide p):=by exact rfl):(p->DS q Γ ops (⟨dst,op,ty,pos,af,some (j,b)⟩::rest) K k ((t,.d<|.bool true)::L) H)->(¬ p->DS q Γ ops (⟨dst,op,ty,pos,af,some (j,b)⟩::rest) K k ((t,.d<|.bool false)::L) H)->DS q Γ ops (⟨dst,op,ty,pos,af,some (j,b)⟩::rest) K k L H:=λu v=>EP h1 h hb u v
def y26  {op:Op} {ty:TypeId} {pos:String} {af:Array Edge} {j:Nat} {f b:Bool} {dst:Option Nat} {h:Oper} {t:Nat} (h1:pz ops j=some h:=by exact rfl) (i:h.dst=some t:=by exact rfl) (hb:L.get t=.d (.bool<|b):=by exact rfl):(b=true->DS q Γ ops (⟨dst,op,ty,pos,af,some (j,f)⟩::rest) K k ((t,.d<|.bool true)::L) H)->(b=false->DS q Γ ops (⟨dst,op,ty,pos,af,some (j,f)⟩::rest) K k ((t,.d<|.bool false)::L) H)->DS q Γ ops (⟨dst,op,ty,pos,af,some (j,f)⟩::rest) K k L H:=λu v=>FP h1 i hb u v
def y27 {i:Nat} {op:Op} {ty:TypeId} {pos:String} {af:Array Edge} {j:Nat} {b:Bool} {p:Prop} {_:Decidable p} {dst:Option Nat} {f:Oper} {t:Nat} (h1:pz ops j=some f:=by exact rfl) (h:f.dst=some t:=by exact rfl) (hb:L.get t=.d (.bool<|decide p):=by exact rfl):(p->DT Γ ops κ ((i,⟨dst,op,ty,pos,af,some (j,b)⟩)::rem) lg Kf ((t,.d<|.bool true)::L) H)->(¬ p->DT Γ ops κ ((i,⟨dst,op,ty,pos,af,some (j,b)⟩)::rem) lg Kf ((t,.d<|.bool false)::L) H)->DT Γ ops κ ((i,⟨dst,op,ty,pos,af,some (j,b)⟩)::rem) lg Kf L H:=λu v=>AP h1 h hb u v
def zm {G A B:Prop} (h:A) (u:B) (s:A->B->G:=by (first|exact y23|exact y24|((fail_if_success (refine λ_ _=>?_;apply LH;exact rfl));exact y25)|((fail_if_success (refine λ_ _=>?_;apply LH;exact rfl));exact y26)|((fail_if_success (refine λ_ _=>?_;apply NT;exact rfl));exact y27)|fail)):G:=s h u
end
end
section
open Go Go.RowKit
variable [Y0]
def QM (J:Nat) (R:Nat->SV->Hp->Prop) (_:Nat) (r:SV) (H:Hp):Prop:=
 ∃ (f:Nat->Nat) (h:Nat) (i:SV) (b:Hp),r=i.V2 f/\N4 f H b/\Hp.low h b=true/\a8 (b.map λp=>f p.1)=true/\a8 (b.map (·.1))=true/\Cj J h=true/\nu f J=true/\i.low h=true/\R h i b
def kp {J:Nat} {R:Nat->SV->Hp->Prop} {k:Nat} {r:SV} {H:Hp} (ρ:Nat->Nat) (f:Nat) (h:SV) (b:Hp) (i:R f h b) (h1:r=h.V2 ρ:=by exact rfl) (j:N4 ρ H b:=by (repeat' (first | exact trivial | refine ⟨rfl, ?_⟩))) (m:Hp.low f b=true:=by exact rfl) (n:a8 (b.map λp=>ρ p.1)=true:=by exact rfl) (o:a8 (b.map (·.1))=true:=by exact rfl) (s:Nat.ble J f=true:=by exact rfl) (u:nu ρ J=true:=by exact rfl) (v:h.low f=true:=by exact rfl):QM J R k r H:=⟨ρ,f,h,b,h1,j,m,n,o,s,u,v,i⟩
def XO {j:Bool} {P:Program} {τ:List (Nat×TI)} {τok:c8 P τ} {f:FuncId} {i:Func} {c:Code} {args:List SV} {J k:Nat} {H:Hp} {R:Nat->SV->Hp->Prop} (N:Nat) (n:P.funcs[f]?=some i) (hb:i.body=some c)
  (o:args.length+(i.ntmps-args.length)=N) (s:eu P f=true)
  (h:∀ (O:Nat->Prop) (u:World) (z:Nat->Prop) (A:Nat->Nat×Value),DW ⟨P,τ,τok,O,u,z,N,J,A,none,da,true,j⟩ c (Cn τ i.results.toList (QM J R)) k (n8 0 args) H):X1 j P τ τok f args J k H R:=by
 have m:=Ni (J:=J) (k:=k) (H:=H) N n hb o s (R:=QM J R) h;refine⟨m.1,λO e w C E F=>(m.2 O e w C E F).mono ?_⟩
 rintro en w' ⟨k',r,H',e',v,⟨ρ,k2,r2,H2,rfl,hK,hl,hd,hd',hj,ha,hrl,hR⟩,rfl,hH',hrel⟩;obtain⟨G,I⟩:=hH'.V2 ρ k2 H2 hK hl hd hd' hj ha;exact⟨k2,r2,H2,e'.V2 ρ k2,v,hR,rfl,G,Rel.N1 (Af _) (λ_ _ _=>rfl) (λb _ M=>I b M) _ _<|Rel.V2 ρ k2 r2 v hrl hrel⟩
def T8 {i:Bool} {P:Program} {τ:List (Nat×TI)} {τok:c8 P τ} {f:FuncId} {b:Func} {c:Code} {args:List SV} {J k:Nat} {H:Hp} {R:Nat->SV->Hp->Prop} {N:Nat} (j:P.funcs[f]?=some b) (h:∀ (O:Nat->Prop) (m:World) (n:Nat->Prop) (o:Nat->Nat×Value),DW ⟨P,τ,τok,O,m,n,N,J,o,none,da,true,i⟩ c (Cn τ b.results.toList (QM J R)) k (n8 0 args) H) (hb:b.body=some c:=by exact rfl) (r:args.length+(b.ntmps-args.length)=N:=by exact rfl) (s:eu P f=true:=by kernel_rfl):X1 i P τ τok f args J k H R:=XO N j hb r s h
def u7 {α:Type} {l:List α} {i:Nat} {v:α} (h:l[i]?=some v):l.set i v=l:=by
 apply List.ext_getElem?;intro j;rw [List.getElem?_set];split
 ·rename_i b;subst b;obtain⟨f,m⟩:=List.getElem?_eq_some_iff.1 h;rw [if_pos f,h]
 ·rfl
section
variable {Γ : Ctx} {k : Nat} {L : Sl} {H H' : Hp} {Q : ey} {c : Code}
def gh (i o:Nat) (te:TypeId) (es:Nat) {tb:TypeId} {cs:List SV} (hH:Hp.get H i=some (.M1 tb cs)) (hc:cs[o]?=some .Q1) (s:zd ((k,.row te es [])::H) i (.M1 tb (cs.set o (.row k))) some=some H'):X7 Γ k L H (k+1) L H':=by
 rw [k9] at s;cases s;intro e a w m;have j:(e.Q2 k<|.slice none 0 0).η k=.slice none 0 0:=if_pos rfl;have n:=(m.new (ir k) (hb:=.row te es []) (e':=e.Q2 k<|.slice none 0 0) (w':=w) (λi=>or_congr (m.top i) Iff.rfl) (e.N3 _ _<|λh=>ir k<|(m.top k).1 h) (W4.refl _ _ _)
  (λb u=>by simp [HB.owned,j,Value.ownBlock] at u) (λ_=>⟨[],by rw [j];exact World.ownsRow_nil w 0 te es,by simp,by simp,by simp⟩)).cast<|gv k
 have G:i<k:=(m.top i).1 (m.heap _<|Hp.mem_of hH).1;have z:Hp.get ((k,.row te es [])::H) i=some (.M1 tb cs):=by
  rw [Hp.C1,if_neg<|by omega];exact hH
 refine⟨_,n.Ck z (Af _) rfl rfl rfl (λ_=>Af _) (λ_ _ _=>rfl) rfl ?_⟩
 obtain⟨r,C,A,E⟩:=(n.heap _<|Hp.mem_of z).2;refine⟨r,C,?_,E⟩
 obtain⟨v,F,f⟩:=O0.get cs r A o .Q1 hc;have f:v=.slice none 0 0:=f;have:=O0.set cs r A o (.row k) v ⟨(n.top k).2 (Nat.lt_succ_self k),by rw [j,f],by rw [f];rfl⟩
 rwa [u7 F] at this
def r5 (i o j:Nat) {es:Nat} {te tb:TypeId} {cs:List SV} {xs:List (List D)} {b:Hp} (u:Hp.get H j=some (.row te es xs)) (h:zh H j some=some b) (hH:Hp.get b i=some (.M1 tb cs)) (hc:cs[o]?=some (.row j))
  (n:zd b i (.M1 tb (cs.set o (.d (.slice es xs)))) some=some H'):X7 Γ k L H k L H':=by
 rw [ny] at h;cases h;rw [k9] at n;cases n;intro e a w m;obtain⟨r,_⟩:=m.del j;have z:=qz m u;refine⟨_,r.Ck hH (Af _) rfl rfl rfl (λ_=>Af _) (λ_ _ _=>rfl) rfl ?_⟩
 obtain⟨f,A,s,C⟩:=(r.heap _<|Hp.mem_of hH).2;refine⟨f,A,?_,C⟩
 obtain⟨v,E,F⟩:=O0.get cs f s o (.row j) hc;have:=O0.set cs f s o (.d<|.slice es xs) v<|by rw [F.2.1];exact z
 rwa [u7 E] at this
def pE (i o:Nat) {tb:TypeId} {cs:List SV} {es:Nat} {xs:List (List D)} (hH:Hp.get H i=some (.M1 tb cs)) (hc:cs[o]?=some (.d (.slice es xs))) (b:xs.length<=9223372036854775807->DW Γ c Q k L H):DW Γ c Q k L H:=by intro e a w m;obtain⟨v,_,f⟩:=I4.Lz (m.heap _<|Hp.mem_of hH).2 hc;obtain⟨j,n,_,r,h,_⟩:=f.R4;exact b (by unfold maxLen at h;omega) e a w m
def d9 (i o es:Nat) {tb:TypeId} {cs:List SV} (hH:Hp.get H i=some (.M1 tb cs)) (hc:cs[o]?=some .Q1) (h:zd H i (.M1 tb (cs.set o (.d (.slice es [])))) some=some H'):X7 Γ k L H k L H':=by
 rw [k9] at h;cases h;intro e a w m;refine⟨_,m.Ck hH (Af _) rfl rfl rfl (λ_=>Af _) (λ_ _ _=>rfl) rfl ?_⟩
 obtain⟨b,n,j,r⟩:=(m.heap _<|Hp.mem_of hH).2;refine⟨b,n,?_,r⟩
 obtain⟨v,s,f⟩:=O0.get cs b j o .Q1 hc;have f:v=.slice none 0 0:=f;have:=O0.set cs b j o (.d<|.slice es []) v<|by rw [f];exact .nil
 rwa [u7 s] at this
def ce {t:Nat} (te:TypeId) (es:Nat) (h:L.get t=.Q1):X7 Γ k L H (k+1) ((t,.row k)::L) ((k,.row te es [])::H):=by
 intro e a w m;have n:(e.Q2 k<|.slice none 0 0).η k=.slice none 0 0:=if_pos rfl;have j:=(m.new (ir k) (hb:=.row te es []) (e':=e.Q2 k<|.slice none 0 0) (w':=w) (λi=>or_congr (m.top i) Iff.rfl) (e.N3 _ _<|λh=>ir k<|(m.top k).1 h) (W4.refl _ _ _)
  (λb o=>by simp [HB.owned,n,Value.ownBlock] at o) (λ_=>⟨[],by rw [n];exact World.ownsRow_nil w 0 te es,by simp,by simp,by simp⟩)).cast<|gv k
 refine⟨_,⟨j.toHeap,j.defers,j.len,λt'=>?_⟩⟩
 rw [Sl.C1];split
 ·rename_i r;subst r;have f:=m.slot t;rw [h] at f;refine⟨.inr rfl,?_⟩
  have f:a.tmps.getD t undef=.slice none 0 0:=f;exact⟨f.trans n.symm,by rw [f];rfl⟩
 ·exact j.slot t'
def ck {i es:Nat} {te:TypeId} {xs:List (List D)} (t:Nat) (j:L.get t=.row i) (hH:Hp.get H i=some (.row te es xs)) (f:zh H i some=some H'):X7 Γ k L H k ((t,.d (.slice es xs))::L) H':=by
 rw [ny] at f;cases f;intro e a w m;obtain⟨b,_⟩:=m.del i;refine⟨e,⟨b.toHeap,b.defers,b.len,λt'=>?_⟩⟩
 rw [Sl.C1];split
 ·rename_i n;subst n;have h:=m.slot t;rw [j] at h;rw [h.2.1];exact qz m hH
 ·exact b.slot t'
def ff (t es:Nat) (f:L.get t=.Q1):X7 Γ k L H k ((t,.d (.slice es []))::L) H:=by
 intro e a w m;refine⟨e,⟨m.toHeap,m.defers,m.len,λt'=>?_⟩⟩
 rw [Sl.C1];split
 ·rename_i h;subst h;have b:=m.slot t;rw [f] at b;rw [b];exact .nil
 ·exact m.slot t'
end
end
section
open Go Go.RowKit
variable [Y0]
def D.flat:D->Bool
 | .int _ _=>true
 | .bool _=>true
 | .str _=>true
 | _=>false
def N7:List D->List D->Prop
 | [],[]=>True
 | b::f,d::r=>(b=.own Y0.B d∨(b=d/\d.flat=true))/\N7 f r
 | _,_=>False
def N7.len:∀ {a b:List D},N7 a b->a.length=b.length
 | [],[],_=>rfl
 | [],_::_,h=>h.elim
 | _::_,[],h=>h.elim
 | _::a,_::b,h=>by simp [N7.len h.2]
def N7.get:∀ {a b:List D},N7 a b->∀ j (h1:j<a.length) (f:j<b.length),a[j]=.own Y0.B b[j]∨(a[j]=b[j]/\(b[j]).flat=true)
 | [],[],_,_,h,_=>nomatch h
 | [],_::_,h,_,_,_=>h.elim
 | _::_,[],h,_,_,_=>h.elim
 | _::a,_::b,h,0,_,_=>h.1
 | _::a,_::b,h,j+1,h1,f=>by simpa using N7.get h.2 j (by simpa using h1) (by simpa using f)
def Q0.Z5 {X:Nat->Prop} {w:World} {v:Value} {B:Nat} {x:D} (h:Q0 X w v (.own B x)):Q0 (lim X B 1) w v x:=by cases h with|own h=>exact h
def Q0.YR {X Y:Nat->Prop} {w:World} {v:Value} {x:D} (b:x.flat=true) (h:Q0 X w v x):Q0 Y w v x:=by
 cases x with
 | int=>cases h with|int h=>exact .int h
 | bool=>cases h;exact .bool
 | str=>cases h with|str h=>exact .str h
 | _=>cases b
def Q0.XR {X:Nat->Prop} {w:World} {v:Value} {b d:D} (f:b=.own Y0.B d∨(b=d/\d.flat=true)) (h:Q0 X w v b):Q0 (lim X Y0.B 1) w v d:=by
 rcases f with rfl|⟨rfl,i⟩
 ·exact h.Z5
 ·exact h.YR i
def tt (a b:List (List D)):Prop:=a.length=b.length/\∀ i (f:i<a.length) (h:i<b.length),N7 a[i] b[i]
def bm {α:Type} {b f:α->List D} (h:∀ x,N7 (b x) (f x)) (l:List α):tt (l.map b) (l.map f):=⟨by simp,λi j m=>by simpa using h _⟩
def Q0.owned {X:Nat->Prop} {w:World} {v:Value} {es:Nat} {s xs:List (List D)} (r:tt s xs) (u:∀ b,v.ownBlock=some b->Y0.B<=b) (h:Q0 X w v (.slice es s)):Q0 X w v (.own Y0.B (.slice es xs)):=by
 obtain⟨f,r⟩:=r;cases h with
 | nil =>
  have:xs=[]:=Bg f.symm
  subst this;exact .own .nil
 | zero =>
  have:xs=[]:=Bg f.symm
  subst this;exact .own .zero
 | slice c z A C E F G I J M =>
  rename_i b off n R;have N:Y0.B<=b:=u b rfl;have o:∀ i (h:i<xs.length),(xs[i]'h).length=(s[i]'(f▸h)).length:=λi h=>((r i (f▸h) h).len).symm
  refine .own<|.slice c (z.trans f) A C (λO=>O.elim E λh=>Nat.not_lt.2 N h) F (λi h=>(o i h).trans<|G i<|f▸h) (λi h j m=>I i (f▸h) j<|o i h▸m) (λi h j m=>?_)<|λP i h j m=>M P i (f▸h) j<|o i h▸m;exact Q0.XR ((r i (f▸h) h).get j (o i h▸m) m)<|J i (f▸h) j<|o i h▸m
section
variable {Γ : Ctx} {k : Nat} {L : Sl} {H H' : Hp}
def ka {i es:Nat} {te:TypeId} {o xs:List (List D)} (t:Nat) (s:tt o xs) (r:L.get t=.row i) (hH:Hp.get H i=some (.row te es o)) (u:zh H i some=some H'):X7 Γ k L H k ((t,.d (.own Y0.B (.slice es xs)))::L) H':=by
 intro e a w m;have v:Rel (Γ.X e H) e w (.row i) (a.tmps.getD t undef):=by have:=m.slot t;rw [r] at this;exact this
 have z:∀ b,(e.η i).ownBlock=some b->Y0.B<=b:=λb j=>m.wU b<|List.mem_filterMap.2 ⟨_,Hp.mem_of hH,j⟩
 obtain⟨A,h⟩:=ck t r hH u e a w m;refine⟨A,⟨h.toHeap,h.defers,h.len,λt'=>?_⟩⟩
 have f:=h.slot t';rw [Sl.C1] at f ⊢;split
 ·rename_i n;subst n;rw [if_pos rfl] at f;exact Q0.owned s (λb j=>z b<|by rw [<- v.2.1];exact j) f
 ·rename_i n;rw [if_neg n] at f;exact f
def ea (t es:Nat) (b:L.get t=.Q1):X7 Γ k L H k ((t,.d (.own Y0.B (.slice es [])))::L) H:=by
 intro e a w m;refine⟨e,⟨m.toHeap,m.defers,m.len,λt'=>?_⟩⟩
 rw [Sl.C1];split
 ·rename_i f;subst f;have:=m.slot t
  rw [b] at this;have h:a.tmps.getD t undef=.slice none 0 0:=this;rw [h];exact Q0.own .nil
 ·exact m.slot t'
end
mutual
def SV.Ks {k:Nat}:∀ {s:SV},s.low k=true->s.X6.low k=true
 | .rg _ 0 _,_=>rfl
 | .rg _ 1 _,_=>rfl
 | .rg _ (_+2) _,_=>rfl
 | .d (.own _ _),_=>rfl
 | .d (.int _ _),_=>rfl
 | .d (.bool _),_=>rfl
 | .d (.str _),_=>rfl
 | .d (.slice _ _),_=>rfl
 | .d (.ptr _),_=>rfl
 | .agg b,h=>SV.Yj (ss:=b) h
 | .M2 b,h=>SV.Yj (ss:=b) h
 | .V1,h=>h
 | .Q1,h=>h
 | .pd _,h=>h
 | .loc _ _,h=>h
 | .row _,h=>h
 | .mp _,h=>h
 | .md _ _,h=>h
 | .P3 _ _ _ _,h=>h
 | .sl _ _ _ _,h=>h
 | .R5 _ _ _ _,h=>h
 | .fn _ _,h=>h
 | .val _,h=>h
def SV.Yj {k:Nat}:∀ {ss:List SV},SV.U1 k ss=true->SV.U1 k (SV.Q8 ss)=true
 | [],_=>rfl
 | s::ss,h=>by
  simp only [SV.U1,Ae] at h
  simp only [SV.Q8,SV.U1,Ae]
  exact⟨SV.Ks h.1,SV.Yj h.2⟩
end
def I3.Y6 {b:Bool} {P:Program} {τ:List (Nat×TI)} {τok:c8 P τ} {f:FuncId} {args:List SV} {R:SV->Prop} (ss:List SV) (hc:I3 b P τ τok f args R) (h:SV.Q8 ss=args):I3 b P τ τok f ss R:=
 ⟨hc.1,λO e w i j m=>hc.2 O e w i j<|h▸O0.X6 _ _ m⟩
def I3.pZ {b:Bool} {P:Program} {τ:List (Nat×TI)} {τok:c8 P τ} {f:FuncId} {x:D} {r:List SV} {R:SV->Prop} (h:I3 b P τ τok f (.d x::r) R) (i:SV.Q8 r=r):I3 b P τ τok f (.d (.own Y0.B x)::r) R:=
 I3.Y6 _ h (by simp only [SV.Q8,SV.X6,i])
def I3.own2 {b:Bool} {P:Program} {τ:List (Nat×TI)} {τok:c8 P τ} {f:FuncId} {a:SV} {x:D} {r:List SV} {R:SV->Prop} (h:I3 b P τ τok f (a::.d x::r) R) (i:a.X6=a) (j:SV.Q8 r=r):I3 b P τ τok f (a::.d (.own Y0.B x)::r) R:=
 I3.Y6 _ h (by simp only [SV.Q8,SV.X6,j,i])
def I3.wk {j:Bool} {P:Program} {τ:List (Nat×TI)} {τok:c8 P τ} {f:FuncId} {args:List SV} {R:SV->Prop} (h:I3 j P τ τok f args R):I3 j P τ τok f args (λr=>∃ m,R m/\r=m.X6):=
 ⟨h.1,λO e w n o s=>(h.2 O e w n o s).mono λ_ _ ⟨u,r,H',e',v,⟨a,b,c⟩,d,g,i⟩=>⟨u,r.X6,H',e',v,⟨a,SV.Ks b,r,c,rfl⟩,d,g,Rel.X6 _ _ i⟩⟩
def I3.Z5 {j:Bool} {P:Program} {τ:List (Nat×TI)} {τok:c8 P τ} {f:FuncId} {args:List SV} {s:SV} (h:I3 j P τ τok f args (λr=>r=s)):I3 j P τ τok f args (λr=>r=s.X6):=
 ⟨h.1,λO e w m n o=>(h.2 O e w m n o).mono λ_ _ ⟨u,r,H',e',v,⟨a,b,c⟩,d,g,i⟩=>⟨u,s.X6,H',e',v,⟨a,SV.Ks (c▸b),rfl⟩,d,g,Rel.X6 _ _<|c▸i⟩⟩
end
section
open Go Go.RowKit
variable [Y0]
def rI (v v':Value):Prop:=v'=v∨(∃ k n m,v=.int k n/\v'=.int k m/\(Lit.int k m).wf=true)∨(∃ s t,v=.string s/\v'=.string t/\t.size<=maxLen)
structure Uq (w w':World):Prop where
 size:w.heap.size<=w'.heap.size
 cell:∀ b o v,w.cell? ⟨b,o,none⟩=some v->(∃ v',w'.cell? ⟨b,o,none⟩=some v'/\rI v v')/\w'.frozen? ⟨b,o,none⟩=w.frozen? ⟨b,o,none⟩
def U3.Wq {X:Nat->Prop} {w w':World} (r:Uq w w') {v:Value} {x:D} (h:U3 X w v x):∀ v',rI v v'->U3 X w' v' x:=by
 induction h with
 | int h =>
  rintro v' (rfl|⟨_,_,_,f,rfl,o⟩|⟨_,_,f,_⟩)
  ·exact .int h
  ·cases f;exact .int o
  ·cases f
 | bool =>
  rintro v' (rfl|⟨_,_,_,f,_⟩|⟨_,_,f,_⟩)
  ·exact .bool
  ·cases f
  ·cases f
 | str h =>
  rintro v' (rfl|⟨_,_,_,f,_⟩|⟨_,_,f,rfl,o⟩)
  ·exact .str h
  ·cases f
  ·exact .str o
 | nil =>
  rintro v' (rfl|⟨_,_,_,f,_⟩|⟨_,_,f,_⟩)
  ·exact .nil
  ·cases f
  ·cases f
 | zero =>
  rintro v' (rfl|⟨_,_,_,f,_⟩|⟨_,_,f,_⟩)
  ·exact .zero
  ·cases f
  ·cases f
 | slice c G I J A C M s N E ih =>
  rename_i b off n P es xs;rintro v' (rfl|⟨_,_,_,f,_⟩|⟨_,_,f,_⟩)
  ·refine .slice (λi j=>(w'.cell? ⟨b,off+i*es+j,none⟩).getD undef) G I J A (As C r.size) M (λi h j m=>?_) (λi h j m=>?_)<|λF i h j m=>?_
   ·obtain⟨⟨u,f,z⟩,o⟩:=r.cell _ _ _<|s i h j m;rw [f];rfl
   ·obtain⟨⟨u,f,z⟩,o⟩:=r.cell _ _ _<|s i h j m;rw [f];exact ih i h j m u z
   ·obtain⟨⟨u,f,z⟩,o⟩:=r.cell _ _ _<|s i h j m;rw [o];exact E F i h j m
  ·cases f
  ·cases f
 | ptr c A C s N E ih =>
  rename_i b off R;rintro v' (rfl|⟨_,_,_,f,_⟩|⟨_,_,f,_⟩)
  ·refine .ptr (λj=>(w'.cell? ⟨b,off+j,none⟩).getD undef) A (As C r.size) (λj m=>?_) (λj m=>?_)<|λF j m=>?_
   ·obtain⟨⟨u,f,z⟩,o⟩:=r.cell _ _ _<|s j m;rw [f];rfl
   ·obtain⟨⟨u,f,z⟩,o⟩:=r.cell _ _ _<|s j m;rw [f];exact ih j m u z
   ·obtain⟨⟨u,f,z⟩,o⟩:=r.cell _ _ _<|s j m;rw [o];exact E F j m
  ·cases f
  ·cases f
 | own h ih=>exact λv' O=>.own<|ih v' O
mutual
def SV.safe (B:Nat):SV->Prop
 | .d (.int _ _)=>True
 | .d (.bool _)=>True
 | .d (.str _)=>True
 | .d (.slice _ _)=>False
 | .d (.ptr _)=>False
 | .d (.own _ _)=>False
 | .pd _=>False
 | .md _ _=>False
 | .rg f 0 _=>f<=B
 | .rg _ 2 _=>True
 | .rg _ _ _=>False
 | .fn _ h=>SV.Zt B h
 | .agg b=>SV.Zt B b
 | .M2 b=>SV.Zt B b
 | .V1=>True
 | .Q1=>True
 | .loc _ _=>True
 | .row _=>True
 | .mp _=>True
 | .P3 _ _ _ _=>True
 | .sl _ _ _ _=>True
 | .R5 _ _ _ _=>True
 | .val _=>True
def SV.Zt (B:Nat):List SV->Prop
 | []=>True
 | s::b=>SV.safe B s/\SV.Zt B b
end
def Sl.safe (B:Nat):Sl->Prop
 | []=>True
 | (_,s)::r=>SV.safe B s/\Sl.safe B r
def Hp.safe (B:Nat):Hp->Prop
 | []=>True
 | (_,.M1 _ b)::r=>SV.Zt B b/\Hp.safe B r
 | (_,.row _ _ _)::_=>False
 | (_,.map _ _)::_=>False
def Hp.Yt {B:Nat}:∀ {H:Hp},Hp.safe B H->∀ p∈H,∃ i ty cs,p=(i,.M1 ty cs)/\SV.Zt B cs
 | [],_,_,b=>nomatch b
 | (i,.M1 ty cs)::r,h,p,b=>by
  rcases List.mem_cons.1 b with rfl|b
  ·exact⟨_,_,_,rfl,h.1⟩
  ·exact Hp.Yt h.2 p b
 | (_,.row _ _ _)::_,h,_,_=>h.elim
 | (_,.map _ _)::_,h,_,_=>h.elim
def Sl.Y8 {B:Nat}:∀ {L:Sl},Sl.safe B L->∀ t,(L.get t).safe B
 | [],_,_=>trivial
 | (d,s)::r,h,t=>by
  rw [Sl.C1]
  split
  ·exact h.1
  ·exact Sl.Y8 h.2 t
section
variable {X : Nat -> Prop} {e : Env} {w w' : World} {B : Nat}
mutual
def Rel.Wq (j:Uq w w') (hb:∀ b,b<B->w'.heap[b]?=w.heap[b]?):∀ (s:SV) (v:Value),s.safe B->Rel X e w s v->Rel X e w' s v
 | .V1,_,_,_=>trivial
 | .d (.int _ _),_,_,h=>by
  have h:Q0 _ _ _ _:=h
  cases h with
  | int o=>exact Q0.int o
 | .d (.bool _),_,_,h=>by
  have h:Q0 _ _ _ _:=h
  cases h
  exact Q0.bool
 | .d (.str _),_,_,h=>by
  have h:Q0 _ _ _ _:=h
  cases h with
  | str o=>exact Q0.str o
 | .d (.slice _ _),_,f,_=>f.elim
 | .d (.ptr _),_,f,_=>f.elim
 | .d (.own _ _),_,f,_=>f.elim
 | .Q1,_,_,h=>h
 | .pd _,_,f,_=>f.elim
 | .loc _ _,_,_,h=>h
 | .row _,_,_,h=>h
 | .mp _,_,_,h=>h
 | .md _ _,_,f,_=>f.elim
 | .P3 _ _ _ _,_,_,h=>h
 | .sl _ _ _ _,_,_,h=>h
 | .R5 _ _ _ _,_,_,h=>h
 | .rg C 0 _,_,f,h=>⟨Aw h.1 j.size,Q0.N1 j.size (λb _ z=>hb b<|As (Nat.lt_of_not_le λr=>z<|.inr r) f) (λ_ _ r=>r) h.2⟩
 | .rg _ 1 _,_,f,_=>f.elim
 | .rg _ 2 _,v,_,h=>⟨Aw h.1 j.size,U3.Wq j h.2 v<|.inl rfl⟩
 | .rg _ (_+3) _,_,f,_=>f.elim
 | .fn _ A,_,f,⟨i,m,n⟩=>⟨i,m,O0.Wq j hb A i f n⟩
 | .agg u,_,f,⟨i,m,n⟩=>⟨i,m,O0.Wq j hb u i f n⟩
 | .M2 u,_,f,⟨i,m,n⟩=>⟨i,m,O0.Wq j hb u i f n⟩
 | .val _,_,_,h=>h
def O0.Wq (f:Uq w w') (hb:∀ b,b<B->w'.heap[b]?=w.heap[b]?):∀ (ss:List SV) (vs:List Value),SV.Zt B ss->O0 X e w ss vs->O0 X e w' ss vs
 | [],[],_,_=>trivial
 | [],_::_,_,h=>h.elim
 | _::_,[],_,h=>h.elim
 | s::ss,v::vs,i,⟨j,m⟩=>⟨Rel.Wq f hb s v i.1 j,O0.Wq f hb ss vs i.2 m⟩
end
end
def vF {w:World} {b o:Nat} {u v:Value} (hc:w.cell? ⟨b,o,none⟩=some v) (E:rI v u):∃ w',w.setCell ⟨b,o,none⟩ u=w'/\Uq w w'/\(∀ b',b'≠b->w'.heap[b']?=w.heap[b']?)/\(∃ c t p,w.heap[b]?=some (.cells c t p)) /\
  w'.heap.size=w.heap.size/\w'.os=w.os/\w'.tape=w.tape/\w'.output=w.output/\w'.drawn=w.drawn:=by
 have F:∃ c t p,w.heap[b]?=some (.cells c t p)/\c[o]?=some v:=by
  unfold World.cell? at hc;split at hc
  ·rename_i c t p h;exact⟨c,t,p,h,by simpa using hc⟩
  ·cases hc
 obtain⟨c,t,p,f,s⟩:=F;refine⟨_,rfl,?_⟩
 rw [setCell_eq_setRow w b o c t p u f];have z:(w.setRow b<|c.setIfInBounds o u).heap[b]?=some (.cells (c.setIfInBounds o u) t p):=setRow_heap w b c _ t p f;have i:∀ b',b'≠b->(w.setRow b<|c.setIfInBounds o u).heap[b']?=w.heap[b']?:=λb' h=>setRow_other w b b' _ h
 refine⟨⟨by simp [World.setRow],λb' A j m=>?_⟩,i,⟨c,t,p,f⟩,by simp [World.setRow],rfl,rfl,rfl,rfl⟩
 by_cases n:b'=b
 ·subst n;refine⟨?_,by simp only [World.frozen?,z,f]⟩
  have r:c[A]?=some j:=by
   simp only [World.cell?,f] at m;simpa using m
  simp only [World.cell?,z];by_cases C:o=A
  ·subst C;rw [s] at r;cases r;have G:o<c.size:=(Array.getElem?_eq_some_iff.1 s).1;exact⟨u,by simp [G],E⟩
  ·exact⟨j,by simp [C,r],.inl rfl⟩
 ·exact⟨⟨j,(World.cell?_of_block (w:=w)<|i b' n).trans m,.inl rfl⟩,jc<|i b' n⟩
def JB:D->D->Bool
 | .int k _,.int b _=>Wn k b
 | .str _,.str _=>true
 | _,_=>false
def IB {X Y:Nat->Prop} {w:World} {v u:Value} {x y:D} (h:JB x y=true) (f:U3 X w v x) (i:Q0 Y w u y):rI v u:=by
 unfold JB at h;split at h
 ·cases f;cases i with
  | int b=>have:=qa h;subst this;exact .inr<|.inl ⟨_,_,_,rfl,rfl,b⟩
 ·cases f;cases i with
  | str b=>exact .inr<|.inr ⟨_,_,rfl,rfl,b⟩
 ·cases h
def Zm.XQ {X:Nat->Prop} {w:World} {B q:Nat} {v:Value} {x:D} (h:Zm X w B q v x):U3 (lim X B q) w v x:=by
 have b:=h.2;split at b
 ·exact b
 ·exact Q0.XQ b
section
variable {Γ : Ctx} {k : Nat -> Prop} {L : Sl} {H : Hp} {K : cn} {ops : List Oper} {rest : List Oper} {a : Act} {w : World} {e : Env} {t t' ty : TypeId} {x y : Operand}
def TR {te ty:TypeId} {pos:String} {af:Array Edge} {g:Option (Nat×Bool)} {B:Nat} {d0 y0:D} {ds:List D} (E:aj L x=.rg B 2 (.ptr (d0::ds))) (F:aj L y=.d y0) (G:de y=true) (I:JB d0 y0=true)
  (J:(Γ.sh te).known=true) (M:Az 1 (Γ.cells te)=true) (N:Γ.w0.heap.size<=B) (O:Sl.safe B L) (hH:Hp.safe B H):P6 Γ ⟨none,.store te x y,ty,pos,af,g⟩ k L H k L H:=by
 intro e a w Q m;obtain⟨b5,b6,R,_,S,_⟩:=Ctx.info<|Sh.Y1 J;have f:Zm (Γ.X e H) w B 2 (a.eval x) (.ptr (d0::ds)):=by
  have:=Q5 m E (Pg · _ _ _)
  exact this
 have f:=f.XQ;have j:Q0 (Γ.X e H) w (a.eval y) y0:=by
  have:=m.op y<|cd G
  rw [F] at this;exact this
 have T:=Ao M;generalize U:a.eval x=b7 at f;cases f with
 | ptr c u hb V W Z =>
  rename_i b off;have n:=V 0 (by simp);have a0:=IB I (W 0<|by simp) j;have a1:B<=b:=Nat.le_of_not_lt λa2=>u<|.inr a2
  have v:=Z (Aw m.S4.2.1<|Aw N a1) 0 (by simp);rw [Hq] at n v;obtain⟨w',a3,z,i,⟨c1,t1,p1,A⟩,h4,h5,h6,h7,h8⟩:=vF n a0;have C:(a.eval y).oneCell'=true/\(a.eval y).cells = #[a.eval y]:=Q0.one j;have a4:(execOp a.eval ⟨none,.store te x y,ty,pos,af,g⟩).run Γ.P w=.ok .skip w':=by
   have a5:(store (⟨b,off,none⟩:Addr)<|a.eval y).run Γ.P w=.ok () w':=by
    rw [run_store Γ.P w _ _ _ C.1,n];simp [v,a3]
   have a9:(⟨b,off,none⟩:Addr).add 0=⟨b,off,none⟩:=by rw [Addr.Y3,Hq]
   simp only [execOp,Instr.storeAt,U,Instr.sureAddr];simp [storeVar,c9 R,S,<- T,C.2,storeCells,a9,a5]
  unfold Oper.wp;rw [a4];have b0:∀ c∈ah e H,c≠b:=λc hc o=>u<|.inl<|.inr<|o▸hc
  have b1:∀ p∈H,e.U4 p.1/\I4 (Γ.X e H) e w' p:=by
   intro p f;obtain⟨r,b2⟩:=m.heap p f;refine⟨r,?_⟩
   obtain⟨c0,c2,cs,rfl,b3⟩:=Hp.Yt hH p f;obtain⟨vs,g1,g2,g3⟩:=b2;exact⟨vs,(i _<|b0 _<|List.mem_filterMap.2 ⟨_,f,rfl⟩).trans g1,O0.Wq z (λh s=>i h<|by omega) _ _ b3 g2,g3⟩
  refine⟨e,⟨⟨m.top,b1,m.ids,m.nodup,m.M3,h5.trans m.os,h6.trans m.tape,h7.trans m.output,λr=>h8▸m.drawn r,h4▸m.size,λh s hE=>(i h<|by omega).trans (m.block h s hE),m.T1,m.S4,m.L8,m.anchor⟩,
   m.defers.N1 λb4 j=>i b4 λo=>?_,m.len,λt=>Rel.Wq z (λh s=>i h<|by omega) _ _ (Sl.Y8 O t)<|m.slot t⟩⟩
  subst o;rw [j] at A;cases A
def XB {B q es:Nat} {xs:List (List D)} (i:Γ.sh t=.slice t') (j:aj L x=.rg B q (.slice es xs)):Ev Γ k L H (.call { callee:=.builtin .len,args:=#[x],argTypes:=#[t] }) ty (.d (.int .i64 xs.length)):=by
 intro e a w m;have b:Zm (Γ.X e H) w B q (a.eval x) (.slice es xs):=by
  have:=Q5 m j (Pg · _ _ _)
  exact this
 have b:=b.XQ;obtain⟨h,f,n,z,o⟩:∃ h f,a.eval x=.slice h xs.length f/\xs.length<=f/\f<=maxLen:=by
  generalize a.eval x=v at b;cases b with
  | nil=>exact⟨none,0,rfl,by simp,Ai _⟩
  | zero=>exact⟨_,0,rfl,by simp,Ai _⟩
  | slice c r s u=>subst r;exact⟨_,_,rfl,s,u⟩
 refine⟨.int .i64 xs.length,λ_ _ _ _ w' _=>?_,.int<|WalkArith.wf_i64<|by unfold maxLen at o;omega⟩
 simp [execOp,resolve,invoke,builtin,n,Builtin.len_,goInt,run_underlying<|Ctx.slice i]
def wH {B es:Nat} {xs:List (List D)} {n:Int} {j:Nat} (i:Γ.sh t=.slice t') (hc:Γ.cells t'=es) (o:(Γ.sh t').known=true) (r:aj L x=.rg B 2 (.slice es xs)) (s:aj L y=.d (.int .i64 n))
  (h:n=j) (h1:j<xs.length):Ev Γ k L H (.indexAddr t x y) ty (.rg B 2 (.ptr (xs[j]'h1))):=by
 subst h;intro e a w m;have u:=Sh.Y1 o;have f:=Q5 m r (Pg · _ _ _);obtain⟨A,f⟩:=f;generalize C:a.eval x=v at f;have f:U3 (lim (Γ.X e H) B 2) w v (.slice es xs):=f;obtain⟨S,z,E,_,F,_⟩:=Ctx.info u;cases f with
 | nil=>simp at h1
 | zero=>simp at h1
 | slice c h T U G I V J M N =>
  rename_i b off O W;refine⟨.pointer (some ⟨b,off+j*es,none⟩),λ_ _ _ _ w' _=>?_,A,.ptr (c j) G I (J j h1) (M j h1)<|λP=>N P j h1⟩
  have R:j<O:=by omega
  simp [execOp,Instr.indexAt,C,R8 m s,asIntOf,run_underlying (Ctx.slice i),R,c9 E,F,hc,Addr.Y3]
def Qp {s:TypeId} {f off J G B:Nat} {l} {ds:List D} (M:Γ.sh s=.struct l) (b:l[f]?=some (off,J,G)) (u:Az G 0=false)
  (N:aj L x=.rg B 2 (.ptr ds)):Ev Γ k L H (.fieldAddr s x f) ty (.rg B 2 (.ptr (ds.drop off))):=by
 obtain⟨I,O,R⟩:=Ctx.struct M;subst R;rw [List.getElem?_map] at b;cases E:I.toList[f]? with
 | none=>rw [E] at b;cases b
 | some F =>
  rw [E] at b;simp only [Option.map_some,Option.some.injEq,Prod.mk.injEq] at b;obtain⟨S,h2,z⟩:=b;have T:I[f]?=some F:=by rw [<- Array.getElem?_toList];exact E
  have U:∃ n,Γ.P.info? F.type=some n/\n.size≠0:=by
   cases C:Γ.P.info? F.type with
   | none=>rw [C] at z;exact absurd z.symm<|By u
   | some n=>rw [C] at z;exact⟨n,rfl,λh=>By u<|by rw [<- z,<- h];rfl⟩
  obtain⟨n,C,V⟩:=U;intro e A w m;have i:=Q5 m N (Pg · _ _ _);obtain⟨W,i⟩:=i;generalize Z:A.eval x=v at i;have i:U3 (lim (Γ.X e H) B 2) w v (.ptr ds):=i;cases i with
  | ptr c hX hb a0 a1 u =>
   rename_i a2 a3;refine⟨.pointer (some ⟨a2,a3+off,none⟩),λ_ _ _ _ w' _=>?_,W,.ptr (λj=>c<|off+j) hX hb (λj o=>?_) (λj o=>?_)<|λhF j o=>?_⟩
   ·simp [execOp,Instr.fieldAt,Z,run_underlying O,T,Instr.sureAddr,fieldPlace,c9 C,V,S,Addr.Y3]
   ·have r:off+j<ds.length:=by simp at o;omega
    rw [Ew];exact a0 (off+j) r
   ·have r:off+j<ds.length:=by simp at o;omega
    simpa using a1 (off+j) r
   ·have r:off+j<ds.length:=by simp at o;omega
    rw [Ew];exact u hF (off+j) r
def Ux {B:Nat} {d0:D} {ds:List D} (h:(Γ.sh t).known=true) (i:(Γ.sh t).isAgg=false) (j:aj L x=.rg B 2 (.ptr (d0::ds))):Ev Γ k L H (.load t x) ty (.rg B 2 d0):=by
 intro e a w m;have n:=Sh.Y1 h;have b:=Q5 m j (Pg · _ _ _);obtain⟨o,b⟩:=b;generalize r:a.eval x=v at b;have b:U3 (lim (Γ.X e H) B 2) w v (.ptr (d0::ds)):=b;cases b with
 | ptr c A C s u E =>
  have f:=s 0 (by simp);rw [Hq] at f;exact⟨c 0,λ_ _ _ _ w' z=>vc n i r (jp z f) _ _ _ _,o,u 0<|by simp⟩
end
mutual
def SV.fresh (B:Nat):SV->SV
 | .d (.slice es xs)=>.rg B 1 (.slice es xs)
 | .d (.ptr f)=>.rg B 1 (.ptr f)
 | .agg b=>.agg (SV.Hx B b)
 | .M2 b=>.M2 (SV.Hx B b)
 | s=>s
def SV.Hx (B:Nat):List SV->List SV
 | []=>[]
 | s::b=>SV.fresh B s::SV.Hx B b
end
mutual
def SV.qQ (B:Nat):SV->SV
 | .d (.slice es xs)=>.rg B 0 (.slice es xs)
 | .d (.ptr f)=>.rg B 0 (.ptr f)
 | .agg b=>.agg (SV.JV B b)
 | .M2 b=>.M2 (SV.JV B b)
 | s=>s
def SV.JV (B:Nat):List SV->List SV
 | []=>[]
 | s::b=>SV.qQ B s::SV.JV B b
end
mutual
def SV.Ay:SV->SV
 | .rg B 1 x=>.rg B 2 x
 | .agg b=>.agg (SV.EM b)
 | .M2 b=>.M2 (SV.EM b)
 | s=>s
def SV.EM:List SV->List SV
 | []=>[]
 | s::b=>SV.Ay s::SV.EM b
end
section
variable {X Y : Nat -> Prop} {e : Env} {w : World} {B : Nat}
mutual
def Rel.fresh (j:B<=w.heap.size) (h1:∀ b,b<w.heap.size->X b->Y b) (m:∀ b,b<B->Y b):∀ (s:SV) (v:Value),Rel Y e w s v->Rel X e w (s.fresh B) v
 | .d (.slice _ _),_,h=>⟨j,Q0.Rg (λb n o=>o.elim (h1 b n) (m b)) h⟩
 | .d (.ptr _),_,h=>⟨j,Q0.Rg (λb n o=>o.elim (h1 b n) (m b)) h⟩
 | .agg r,_,⟨i,u,z⟩=>⟨i,u,O0.fresh j h1 m r i z⟩
 | .M2 r,_,⟨i,u,z⟩=>⟨i,u,O0.fresh j h1 m r i z⟩
 | .V1,_,h=>h
 | .d (.int _ _),_,h=>Q0.Rg h1 h
 | .d (.bool _),_,h=>Q0.Rg h1 h
 | .d (.str _),_,h=>Q0.Rg h1 h
 | .d (.own _ _),_,h=>Q0.Rg h1 h
 | .Q1,_,h=>h
 | .pd A,v,h=>Rel.N1 (Af _) (λ_ _ _=>rfl) h1 (.pd A) v h
 | .loc _ _,_,h=>h
 | .row _,_,h=>h
 | .mp _,_,h=>h
 | .md C E,v,h=>Rel.N1 (Af _) (λ_ _ _=>rfl) h1 (.md C E) v h
 | .P3 _ _ _ _,_,h=>h
 | .sl _ _ _ _,_,h=>h
 | .R5 _ _ _ _,_,h=>h
 | .rg b q x,v,h=>Rel.N1 (Af _) (λ_ _ _=>rfl) h1 (.rg b q x) v h
 | .fn f F,v,h=>Rel.N1 (Af _) (λ_ _ _=>rfl) h1 (.fn f F) v h
 | .val _,_,h=>h
def O0.fresh (f:B<=w.heap.size) (h1:∀ b,b<w.heap.size->X b->Y b) (i:∀ b,b<B->Y b):∀ (ss:List SV) (vs:List Value),O0 Y e w ss vs->O0 X e w (SV.Hx B ss) vs
 | [],[],_=>trivial
 | [],_::_,h=>h.elim
 | _::_,[],h=>h.elim
 | s::ss,v::vs,h=>⟨Rel.fresh f h1 i s v h.1,O0.fresh f h1 i ss vs h.2⟩
end
mutual
def Rel.qQ (i:B=w.heap.size):∀ (s:SV) (v:Value),Rel X e w s v->Rel X e w (s.qQ B) v
 | .d (.slice _ _),_,h=>⟨Nat.le_of_eq i,Q0.Rg (λb j m=>m.elim id λ(u:B<=b)=>absurd j (by omega)) h⟩
 | .d (.ptr _),_,h=>⟨Nat.le_of_eq i,Q0.Rg (λb j m=>m.elim id λ(u:B<=b)=>absurd j (by omega)) h⟩
 | .agg n,_,⟨f,o,r⟩=>⟨f,o,O0.qQ i n f r⟩
 | .M2 n,_,⟨f,o,r⟩=>⟨f,o,O0.qQ i n f r⟩
 | .V1,_,h=>h
 | .d (.int _ _),_,h=>h
 | .d (.bool _),_,h=>h
 | .d (.str _),_,h=>h
 | .d (.own _ _),_,h=>h
 | .Q1,_,h=>h
 | .pd _,_,h=>h
 | .loc _ _,_,h=>h
 | .row _,_,h=>h
 | .mp _,_,h=>h
 | .md _ _,_,h=>h
 | .P3 _ _ _ _,_,h=>h
 | .sl _ _ _ _,_,h=>h
 | .R5 _ _ _ _,_,h=>h
 | .rg _ _ _,_,h=>h
 | .fn _ _,_,h=>h
 | .val _,_,h=>h
def O0.qQ (b:B=w.heap.size):∀ (ss:List SV) (vs:List Value),O0 X e w ss vs->O0 X e w (SV.JV B ss) vs
 | [],[],_=>trivial
 | [],_::_,h=>h.elim
 | _::_,[],h=>h.elim
 | s::ss,v::vs,h=>⟨Rel.qQ b s v h.1,O0.qQ b ss vs h.2⟩
end
mutual
def Rel.Ay:∀ (s:SV) (v:Value),Rel X e w s v->Rel X e w s.Ay v
 | .rg _ 0 _,_,h=>h
 | .rg _ 1 _,_,h=>⟨h.1,Q0.XQ h.2⟩
 | .rg _ (_+2) _,_,h=>h
 | .agg f,_,⟨b,i,j⟩=>⟨b,i,O0.Ay f b j⟩
 | .M2 f,_,⟨b,i,j⟩=>⟨b,i,O0.Ay f b j⟩
 | .V1,_,h=>h
 | .d _,_,h=>h
 | .Q1,_,h=>h
 | .pd _,_,h=>h
 | .loc _ _,_,h=>h
 | .row _,_,h=>h
 | .mp _,_,h=>h
 | .md _ _,_,h=>h
 | .P3 _ _ _ _,_,h=>h
 | .sl _ _ _ _,_,h=>h
 | .R5 _ _ _ _,_,h=>h
 | .fn _ _,_,h=>h
 | .val _,_,h=>h
def O0.Ay:∀ (ss:List SV) (vs:List Value),O0 X e w ss vs->O0 X e w (SV.EM ss) vs
 | [],[],_=>trivial
 | [],_::_,h=>h.elim
 | _::_,[],h=>h.elim
 | s::ss,v::vs,h=>⟨Rel.Ay s v h.1,O0.Ay ss vs h.2⟩
end
end
def eB:List SV->Bool
 | []=>true
 | .d (.int _ _)::r=>eB r
 | .d (.bool _)::r=>eB r
 | .d (.str _)::r=>eB r
 | _=>false
def Ub {X Y:Nat->Prop} {e:Env} {w:World}:∀ (ss:List SV) (vs:List Value),eB ss=true->O0 X e w ss vs->O0 Y e w ss vs
 | [],[],_,_=>trivial
 | [],_::_,_,h=>h.elim
 | _::_,[],_,h=>h.elim
 | .d (.int _ _)::r,v::vs,b,h=>⟨by
   have f:Q0 _ _ _ _:=h.1
   cases f with|int i=>exact Q0.int i,Ub r vs b h.2⟩
 | .d (.bool _)::r,v::vs,b,h=>⟨by
   have f:Q0 _ _ _ _:=h.1
   cases f
   exact Q0.bool,Ub r vs b h.2⟩
 | .d (.str _)::r,v::vs,b,h=>⟨by
   have f:Q0 _ _ _ _:=h.1
   cases f with|str i=>exact Q0.str i,Ub r vs b h.2⟩
def I3.EX {h:Bool} {Γ:Ctx} {τ:List (Nat×TI)} {τok:c8 Γ.P τ} {f:FuncId} {args:List SV} {R:SV->Prop} (hc:I3 h Γ.P τ τok f args R) {k:Nat->Prop} {L:Sl} {H:Hp} {e:Env} {w:World} {a:Act} (m:J0 Γ k L H e a w) (u:SV.U1 0 args=true) (z:eB args=true)
  (vs:List Value) (A:O0 (Γ.X e H) e w args vs) :
  Calls Γ.P f vs.toArray w (λs w'=>∃ r v,R r/\s=.returned v/\W4 h w.heap.size w w'/\r.low 0=true/\Rel (λb=>b<w.heap.size) e w' r v):=by
 have C:∀ i b,Ctx.X ⟨Γ.P,τ,τok,λb=>b<w.heap.size,w,λb=>b∈ah (e.V2 id 0) [],0,0,(e.V2 id 0).an,none,da,true,h⟩ i [] b↔b<w.heap.size:=by
  intro i b;unfold Ctx.X;simp [ah]
 refine (hc.2 (λb=>b<w.heap.size) (e.V2 id 0) w vs ⟨λ_=>Iff.rfl,by simp,by simp,by simp [ah],by simp [ah],rfl,rfl,rfl,λ_=>Af _,Af _,λ_ _ _=>rfl,λb n=>⟨n,by simp [ah]⟩,m.U6.sub (by simp [ah]),λj o=>absurd o (A2 j),λj o=>absurd o<|A2 j⟩ ?_).mono ?_
 ·exact Ub _ _ z<|O0.env _ _ u A
 ·rintro s w' ⟨k',r,H',i,v,⟨rfl,hlr,hR⟩,rfl,hH,hrel⟩;refine⟨r,v,hR,rfl,⟨⟨hH.os,hH.tape,hH.output,hH.size,λb n=>hH.block b n<|by simp [ah]⟩,hH.drawn⟩,hlr,?_⟩
  exact Rel.N1 (Af _) (λ_ _ _=>rfl) (λb _ E=>(C _ b).2 E) _ _<|Rel.env _ _ hlr hrel
section
variable {Γ : Ctx} {k : Nat} {L : Sl} {H : Hp} {K : cn} {Q : ey} {ops : List Oper} {rest : List Oper}
inductive CU (B:Nat) (L:Sl) (H:Hp):Prop
 | slot (t q:Nat) (x:D) (h:L.get t=.rg B q x)
 | cell (i j q:Nat) (T:TypeId) (cs:List SV) (x:D) (h:Hp.get H i=some (.M1 T cs)) (hj:cs[j]?=some (.rg B q x))
def CU.le {k:Nat->Prop} {e:Env} {a:Act} {w:World} {B:Nat} (h:CU B L H) (m:J0 Γ k L H e a w):B<=w.heap.size:=by
 cases h with
 | slot t q x h =>
  have b:=m.slot t;rw [h] at b;exact b.1
 | cell i j q T r x h f =>
  obtain⟨s,u,n,z⟩:=(m.heap _<|Hp.mem_of h).2;obtain⟨v,_,o⟩:=O0.get _ _ n j _ f;exact o.1
def BK {f:FuncId} {xs:List Operand} {o:Array TypeId} {ty:TypeId} {pos:String} {af:Array Edge} {g:Option (Nat×Bool)} {d:Nat} {args:List SV} {R:SV->Prop} {B:Nat} (s:ap ops L g=some true)
  (u:mt L xs=args) (z:CU B L H) (hc:I3 Γ.dr Γ.P Γ.τ Γ.τok f args R) (A:dz xs=true) (C:SV.U1 0 args=true) (E:eB args=true) (F:Av d Γ.n=true)
  (G:∀ r,R r->DS false Γ ops rest K k ((d,r.fresh B)::L) H) :
  DS false Γ ops (⟨some d,.call { callee:=.value (.func f),args:=xs.toArray,argTypes:=o },ty,pos,af,g⟩::rest) K k L H:=by
 refine gj s λe a w m=>?_
 unfold Oper.wp;rw [io hc.1];rw [Oper.upon_enter];have j:B<=w.heap.size:=z.le m;have I:∀ b,Γ.X e H b->b<w.heap.size:=λb i=>i.elim (λh=>As (m.T1 b h).1 m.size)<|m.lt b
 refine (hc.EX (τ:=Γ.τ) (τok:=Γ.τok) (Γ:=Γ) m C E _<|u▸ga m xs A).mono ?_;rintro N w' ⟨r,v,J,rfl,i,O,M⟩;exact⟨k,_,H,e,(m.below i).put (Ab F) (Rel.fresh (Aw j i.size) (λb _=>I b) (λb h=>As h j) _ _ M),G r J⟩
def OT {te ty:TypeId} {x y:Operand} {pos:String} {af:Array Edge} {g:Option (Nat×Bool)} {B:Nat} {d0 y0:D} {ds:List D} (b:ap ops L g=some true) (f:aj L x=.rg B 2 (.ptr (d0::ds))) (h:aj L y=.d y0) (i:de y=true) (j:JB d0 y0=true)
  (m:(Γ.sh te).known=true) (n:Az 1 (Γ.cells te)=true) (o:Γ.w0.heap.size<=B) (r:Sl.safe B L) (hH:Hp.safe B H) (s:DS false Γ ops rest K k L H):DS false Γ ops (⟨none,.store te x y,ty,pos,af,g⟩::rest) K k L H:=
 Va b (TR f h i j m n o r hH) s
end
section
variable {Γ : Ctx} {q : Bool} {k : Nat} {L : Sl} {H : Hp} {K : cn} {Q : ey} {ops : List Oper} {rest : List Oper} {t t' ty : TypeId} {pos : String} {af : Array Edge} {g : Option (Nat×Bool)} {d : Nat} {B p es : Nat} {x y : Operand}
def Ri {α:Type} {f:α->List D} {l:List α} {n:Int} {j:Nat} (b:Γ.sh t=.slice t') (hc:Γ.cells t'=es) (h:(Γ.sh t').known=true) (i:aj L x=.rg B 2 (.slice es (l.map f))) (m:aj L y=.d (.int .i64 n))
  (o:n=j) (h1:j<l.length):Ev Γ k L H (.indexAddr t x y) ty (.rg B 2 (.ptr (f (l[j]'h1)))):=by
 have:=wH (Γ:=Γ) (k:=k) (H:=H) (ty:=ty) b hc h i m o<|by simpa using h1
 simpa using this
def rE {xs:List (List D)} (b:DS q Γ ops rest K k ((d,.d (.int .i64 xs.length))::L) H) (f:Γ.sh t=.slice t':=by exact rfl) (h:aj L x=.rg B p (.slice es xs):=by exact rfl) (i:ap ops L g=some true:=by exact rfl) (j:Av d Γ.n=true:=by exact rfl) :
  DS q Γ ops (⟨some d,.call { callee:=.builtin .len,args:=#[x],argTypes:=#[t] },ty,pos,af,g⟩::rest) K k L H:=iv (XB f h) i j b
def Sc {α:Type} {f:α->List D} {l:List α} {n:Int} {j:Nat} {h1:j<l.length} (b:DS q Γ ops rest K k ((d,.rg B 2 (.ptr (f (l[j]'h1))))::L) H) (h:Γ.sh t=.slice t':=by exact rfl) (hc:Γ.cells t'=es:=by exact rfl) (i:(Γ.sh t').known=true:=by exact rfl)
  (m:aj L x=.rg B 2 (.slice es<|l.map f):=by exact rfl) (o:aj L y=.d (.int .i64 n):=by exact rfl) (r:n=j:=by exact rfl) (s:ap ops L g=some true:=by exact rfl) (u:Av d Γ.n=true:=by exact rfl) :
  DS q Γ ops (⟨some d,.indexAddr t x y,ty,pos,af,g⟩::rest) K k L H:=iv (Ri h hc i m o r h1) s u b
def Pm {s:TypeId} {f off h b:Nat} {l} {ds:List D} (i:DS q Γ ops rest K k ((d,.rg B 2 (.ptr (ds.drop off)))::L) H) (j:Γ.sh s=.struct l:=by exact rfl) (m:l[f]?=some (off,h,b):=by exact rfl) (o:Az b 0=false:=by exact rfl)
  (r:aj L x=.rg B 2 (.ptr ds):=by exact rfl) (u:ap ops L g=some true:=by exact rfl) (v:Av d Γ.n=true:=by exact rfl):DS q Γ ops (⟨some d,.fieldAddr s x f,ty,pos,af,g⟩::rest) K k L H:=iv (Qp j m o r) u v i
def Ky {d0:D} {ds:List D} (b:DS q Γ ops rest K k ((d,.rg B 2 d0)::L) H) (f:(Γ.sh t).known=true:=by exact rfl) (h:(Γ.sh t).isAgg=false:=by exact rfl) (i:aj L x=.rg B 2 (.ptr (d0::ds)):=by exact rfl) (j:ap ops L g=some true:=by exact rfl) (m:Av d Γ.n=true:=by exact rfl) :
  DS q Γ ops (⟨some d,.load t x,ty,pos,af,g⟩::rest) K k L H:=iv (Ux f h i) j m b
def BP {te:TypeId} {d0 y0:D} {ds:List D} (b:DS false Γ ops rest K k L H) (f:Γ.w0.heap.size<=B:=by assumption) (h:ap ops L g=some true:=by exact rfl) (i:aj L x=.rg B 2 (.ptr (d0::ds)):=by exact rfl) (j:aj L y=.d y0:=by exact rfl) (m:de y=true:=by exact rfl) (n:JB d0 y0=true:=by exact rfl)
  (o:(Γ.sh te).known=true:=by exact rfl) (r:Az 1 (Γ.cells te)=true:=by exact rfl) (s:Sl.safe B L:=by (repeat' (first|exact trivial|exact Af _|refine⟨?_,?_⟩))) (hH:Hp.safe B H:=by (repeat' (first|exact trivial|exact Af _|refine⟨?_,?_⟩))) :
  DS false Γ ops (⟨none,.store te x y,ty,pos,af,g⟩::rest) K k L H:=OT h i j m n o r f s hH b
end
def VY (xs:List (List D)):Prop:=xs.length<=9223372036854775807/\∀ r∈xs,∀ d∈r,∀ es b,d=.slice es b->b.length<=9223372036854775807
def U3.HS {X:Nat->Prop} {w:World} {v:Value} {es:Nat} {xs:List (List D)} (h:U3 X w v (.slice es xs)):xs.length<=9223372036854775807:=by
 cases h with
 | nil=>simp
 | zero=>simp
 | slice c f i b=>unfold maxLen at b;omega
def U3.lens {X:Nat->Prop} {w:World} {v:Value} {es:Nat} {xs:List (List D)} (h:U3 X w v (.slice es xs)):VY xs:=by
 refine⟨h.HS,?_⟩
 rintro r b d hd es' ys rfl;cases h with
 | nil=>cases b
 | zero=>cases b
 | slice c s u z A C E F f G =>
  obtain⟨i,m,rfl⟩:=G8 b;obtain⟨j,n,o⟩:=G8 hd;have:=f i m j n
  rw [o] at this;exact this.HS
section
variable {Γ : Ctx} {k : Nat} {L : Sl} {H : Hp} {Q : ey} {B q es : Nat} {xs : List (List D)}
def oE {c:Code} (t:Nat) (f:L.get t=.rg B q (.slice es xs)) (h:VY xs->DW Γ c Q k L H):DW Γ c Q k L H:=λe a w m=>by
 have b:=m.slot t
 rw [f] at b
 have b:Zm _ _ _ _ _ _:=b
 exact h b.XQ.lens e a w m
end
end
section
open Go Go.RowKit
variable [Y0]
section
variable {Γ : Ctx} {l : List Oper} {κ c : Nat}
def lF (l:List Oper) (c:Nat):Bool:=(em 0 l).all λq=>Av q.1 c||(List.range q.1).all λi=>Ll l l.length q.1 i
def Zs (h:lF l c=true) {j i:Nat} {o:Oper} (f:l[j]?=some o) (hc:c<=j) (hi:i<j):Ll l l.length j i=true:=by
 unfold lF at h;rw [Cc] at h;have b:=h (j,o) ((fu l 0 (j,o)).2 ⟨Ai _,by simpa using f⟩);rw [Bool.or_eq_true] at b;rcases b with b|b
 ·have:j<c:=Ab b
  omega
 ·exact List.all_eq_true.1 b i<|List.mem_range.2 hi
def YB:∀ (a b:List Oper) (n:Nat),em n (a++b)=em n a++em (n+a.length) b
 | [],b,n=>rfl
 | o::a,b,n=>by
  rw [Dh,em,em,YB a b (n+1),Dh,Ba,show n+1+a.length=n+(a.length+1) by omega]
def Sm (b:l8 l=true):∀ j o,l[j]?=some o->∀ e∈o.after,Region.binds .any e=true->e.on<j:=by intro j o i e m n;unfold l8 at b;rw [Cc] at b;have f:=b (j,o) ((fu l 0 (j,o)).2 ⟨Ai _,by simpa using i⟩);rw [Cc] at f;have h:=f e (by simpa using m);simp only [n,Bool.not_true,Ci] at h;exact Ab h
def Kp (m:l8 l=true) {f:Array Bool} {q:Nat×Oper} {n:List (Nat×Oper)} (g:S8 l f (q::n)):q.1∈Region.ready .any l.toArray f:=by
 obtain⟨i,o⟩:=(g.left q).1<|Ac ..;refine mem_ready.2 ⟨o,q.2,by simpa using i,λb r s=>?_⟩;have C:=Sm m q.1 q.2 i b r s;have j:b.on<f.size:=by rw [g.size];have:=dj i;omega
 cases u:f.getD b.on false with
 | true=>rfl
 | false =>
  exfalso;have v:f.getD b.on true=false:=(j9 j).trans u;have z:b.on<l.length:=by rw [<- g.size];exact j
  have A:=(g.left (b.on,l[b.on])).2 ⟨by simp [z],v⟩;rcases List.mem_cons.1 A with h|h
  ·have:b.on=q.1:=by rw [<- h]
   omega
  ·have:=(List.pairwise_cons.1 g.sorted).1 _ h
   simp at this;omega
def Ys (n:l8 l=true) (r:lF l c=true) {Q:Exit->Act->World->Prop}:∀ (m:Nat) (f:Array Bool) (a:Act) (w:World),S8 l f (em (l.length-m) (l.drop (l.length-m)))->m<=l.length-c->wpList Γ.P l.toArray Q (l.drop (l.length-m)) a w->wpAny Γ.P .any l.toArray Q m f a w
 | 0,f,a,w,g,_,h=>by
  have I:l.drop (l.length-0)=[]:=List.drop_eq_nil_of_le (by omega);rw [I] at g h;refine⟨?_,h⟩
  apply List.eq_nil_iff_forall_not_mem.2;intro j b;obtain⟨s,o,u,_⟩:=mem_ready.1 b;have:=(g.left (j,o)).2 ⟨by simpa using u,s⟩
  simp [em] at this
 | m+1,f,a,w,g,hm,h=>by
  have b:l.length-(m+1)<l.length:=by omega
  have A:l.drop (l.length-(m+1))=l[l.length-(m+1)]::l.drop (l.length-m):=by
   rw [List.drop_eq_getElem_cons b];congr 2;omega
  have M:em (l.length-(m+1)) (l.drop<|l.length-(m+1))=(l.length-(m+1),l[l.length-(m+1)])::em (l.length-m) (l.drop<|l.length-m):=by
   rw [A,em];congr 2;omega
  rw [M] at g;rw [A] at h;generalize hJ:l.length-(m+1)=J at *;have C:=Kp n g;refine⟨λN=>?_,λi E=>?_⟩
  ·rw [N] at C;simp at C
  ·obtain⟨s,o,u,O⟩:=mem_ready.1 E;have v:l[i]?=some o:=by simpa using u
   have R:i=J:=by
    have S:=(g.left (i,o)).2 ⟨v,s⟩;rcases List.mem_cons.1 S with h|h
    ·exact congrArg Prod.fst h
    ·exfalso;have T:J<i:=by simpa using (List.pairwise_cons.1 g.sorted).1 _ h
     have:=xo g l.length i o (Zs r v (by omega) T) v O
     have F:=((g.left (J,l[J])).1<|Ac ..).2;have U:J<f.size:=by rw [g.size];exact b
     rw [j9 U] at F;rw [F] at this;cases this
   subst R;have G:=S8.rest (pre:=[]) (i:=i) (o:=l[i]) (post:=em (l.length-m)<|l.drop<|l.length-m) g E rfl (by rw [List.getElem?_eq_getElem b]);unfold wpOp;have V:l.toArray[i]?=some l[i]:=by simp [b]
   rw [V];unfold wpList at h;split at h
   ·rename_i z;simp only [z,if_true];exact h.imp (λh=>Oper.wp_mono (λW w' Z=>Ys n r m _ W w' G (by omega) Z) h) id
   ·rename_i z;simp only [z];exact Ys n r m _ _ w G (by omega) h
def MQ (Z:ue l=true) (hT:lF l c=true) (e4:c<=l.length) {K:FS->Prop} {Q:Exit->Act->World->Prop} (hQ:∀ s e a w,K s->UY Γ (lo (κ+c)) s e a w->wpList Γ.P l.toArray Q (l.drop c) a w) :
  ∀ (n:Nat) (f:Array Bool) (a:Act) (w:World) (s:FS) (e:Env) (D:Nat->Prop) (rem:List (Nat×Oper)) (lg:Log),S8 l f (rem++em c (l.drop c))->(∀ q∈rem,q.1<c)->rem.length=n->UY Γ D s e a w ->
   (∀ x,D x->x<κ+c/\∀ j,x=κ+j->f.getD j false=true)->DR Γ l κ rem lg K s->wpAny Γ.P .any l.toArray Q (n+(l.length-c)) f a w:=by
 simp only [ue,Ae] at Z;obtain⟨I,J,a4⟩:=Z;intro n;induction n with
 | zero =>
  intro f a w s e D rem lg g M z N u O;have a5:rem=[]:=Bg z;subst a5;rw [Nat.zero_add];have a0:l.length-(l.length-c)=c:=by omega
  refine Ys I hT (l.length-c) f a w (by rw [a0];exact g) (Af _) ?_;rw [a0];cases O with
  | nil R =>
   obtain⟨L,H,a9,v⟩:=N;obtain⟨A,m'⟩:=a9.Vq (k':=lo<|κ+c) λx b=>(u x b).1
   exact hQ s A a w R ⟨L,H,m',v⟩
 | succ n ih =>
  intro f a w s e D rem lg g M z N u O;rw [show n+1+(l.length-c)=(n+(l.length-c))+1 by omega];obtain⟨C,e5,S⟩:∃ q r,rem=q::r:=by
   cases rem with
   | nil=>simp at z
   | cons q r=>exact⟨q,r,rfl⟩
  refine⟨λh0=>?_,λi hi=>?_⟩
  ·exfalso;have hg:=g;rw [S,Dh] at hg;have:=Kp I hg
   rw [h0] at this;simp at this
  ·obtain⟨h1,o,ho,T⟩:=mem_ready.1 hi;have m:l[i]?=some o:=by simpa using ho
   have e6:i<c:=by
    apply Classical.byContradiction;intro hn;have e7:C.1<c:=M C (by rw [S];exact Ac ..);have b0:=xo g l.length i o (Zs hT m (by omega)<|show C.1<i by omega) m T;have h3:=(g.left C).1 (Ax _<|by rw [S];exact Ac ..);have v:C.1<f.size:=by rw [g.size];exact dj h3.1
    have h4:=h3.2;rw [j9 v,b0] at h4;cases h4
   have b1:(i,o)∈rem:=by
    rcases List.mem_append.1 ((g.left (i,o)).2 ⟨m,h1⟩) with h|h
    ·exact h
    ·exfalso;have:=((fu _ _ _).1 h).1
     simp only at this;omega
   obtain⟨U,a1,E⟩:=List.append_of_mem b1;have V:=g;rw [E,Bm,Dh] at V;have g':=V.rest hi rfl m;rw [<- Bm] at g';have b2:DR Γ l κ ((i,o)::(U++a1)) lg K s:=by
    refine DR.pull U lg s (λq F=>?_)<|E▸O;have b3:q∈rem++em c (l.drop c):=Ax _ (by rw [E];exact Ax _ F);obtain⟨W,b4⟩:=(g.left q).1 b3;have b5:q.1<i:=by
     have v:=V.sorted;rw [List.pairwise_append] at v;have:=v.2.2 q F (i,o)<|Ac ..
     simpa using this
    have b6:q.1<f.size:=by rw [g.size];exact dj W
    have a2:f.getD q.1 false=false:=(j9 b6).symm.trans b4;have e0:xv l i q.1=false:=Co m T g.closed a2;have e1:=Zu e0;have e2:rt l q.1 i=false:=by
     cases b:rt l q.1 i with
     | false=>rfl
     | true =>
      obtain⟨o',b7,A,c0,c1,e9⟩:=O8.1 b;have:=Sm I q.1 o' b7 A c0 c1
      omega
    refine⟨e0,e2,?_,λc2=>?_⟩
    ·unfold Pu at J;rw [Cc] at J;have p1:=J (i,o) ((fu l 0 (i,o)).2 ⟨Ai _,by simpa using m⟩);rw [Cc] at p1;have p2:=p1 q ((fu l 0 q).2 ⟨Ai _,by simpa using W⟩);have c3:Cj i q.1=false:=by
      cases hb:Cj i q.1 with
      | false=>rfl
      | true=>have:=Ab hb;omega
     simp only [c3,Ci,e1] at p2;exact p2
    ·cases c4:X5 o with
     | false=>rfl
     | true =>
      have:=Yy g a4 W c2 i o m c4 b5 T
      rw [a2] at this;cases this
   cases b2 with
   | cons cc g1 rd wr hm hl g2 hn R =>
    have hz:¬ D (κ+i):=by
     intro b;have:=(u _ b).2 i rfl
     have G:i<f.size:=by rw [g.size];exact dj m
     rw [<- j9 G,h1] at this;cases this
    refine Mv.sound hm N ⟨κ+c,λx b=>(u x b).1⟩ hz m Q _ λc5 c6 a' w' A hv e3=>?_
    refine ih (f.setIfInBounds i true) a' w' _ A _ (U++a1) _ g' (λq F=>M q ?_) ?_ e3 (λx b=>?_)<|R c5 c6 hv
    ·rw [E];rcases List.mem_append.1 F with h|h<;>simp [h]
    ·rw [E] at z;simp only [List.length_append,Ba] at z ⊢;omega
    ·have G:i<f.size:=by rw [g.size];exact dj m
     rcases b with b|b
     ·refine⟨(u x b).1,λj hj=>?_⟩
      have:=(u x b).2 j hj
      by_cases a3:i=j
      ·subst a3;simp [G]
      ·rw [getD_set_ne false a3];exact this
     ·subst b;refine⟨by omega,λj hj=>?_⟩
      have:i=j:=by omega
      subst this;simp [G]
def lz {id k m:Nat} {L:Sl} {H:Hp} {Q:ey} (c:Nat) (A:Γ.P.follows .mixedOrders=true) (C:ue l=true) (E:lF l c=true) (i:Cj c l.length=true) (F:d8 l=true) (n:LG (l.take c) k m)
  (h:DT Γ l k (em 0 (l.take c)) [] (Yx Γ m (λk' L' H'=>DS false Γ l (l.drop c) (Q .normal) k' L' H')) L H):DW Γ (.region id l.toArray true) Q k L H:=by
 have i:=Ab i;have G:k+c=m:=by
  have:=Tf (l.take c) k m n
  rw [Ap] at this;omega
 subst G;intro e a w I;refine wpIn_mono (wpIn_region_any A<|zj (ji (Γ:=Γ) (K:=Q .normal)) F _ _ _ _ ?_)<|sd<|λJ k' L' H' (⟨M,r⟩:ep (Q .normal) J k' L' H')=>M▸r;have N:=I.below (w':={ w with drawn:=w.drawn+1 })<|(W4.refl _ _ _).drew;have O:em 0 (l.take c)++em c (l.drop c)=em 0 l:=by
  have:=YB (l.take c) (l.drop c) 0
  rw [List.take_append_drop,Ap,Nat.zero_add,Nat.min_eq_left i] at this;exact this.symm
 have R:S8 l (Array.replicate l.length false) (em 0 l):=by
  refine⟨by simp,λj o u n=>?_,λq=>?_,yo l 0⟩
  ·have S:=dj u;simp [S] at n
  ·rw [fu l 0 q];simp only [Ai,Nat.sub_zero,true_and];constructor
   ·intro f;exact⟨f,by have:=dj f;simp [this]⟩
   ·exact λh=>h.1
 have T:∀ (l:List Oper) b,(em b l).length=l.length:=by
  intro l;induction l with
  | nil=>intro b;rfl
  | cons o l ih=>intro b;simp [em,ih]
 have v:l.toArray.size=c+(l.length-c):=by simp;omega
 rw [v];refine MQ C E i (K:=Yx Γ (k+c)<|λk' L' H'=>DS false Γ l (l.drop c) (Q .normal) k' L' H') (Q:=ze Γ<|ep<|Q .normal) (λs e a w U V=>?_) c _ a _ (L6 L H) e (lo k) (em 0<|l.take c) [] (by rw [O,<- v];simpa using R) (λq f=>?_) (by rw [T,Ap];omega) ⟨L,H,N,rfl⟩ (λx z=>⟨As z (Nat.le_add_right _ _),λj u=>?_⟩) h
 ·obtain⟨k',L',H',W,Z,f⟩:=U e a w V;exact f W a w Z
 ·have r:=((fu _ _ _).1 f).2;have:=dj r
  rw [Ap] at this;omega
 ·have:x<k:=z
  omega
def br (id:Nat) {k:Nat} {L:Sl} {H:Hp} {ops:Array Oper} {b:Bool} {Q:ey} (h:DW Γ (.region id ops b) Q k L H):DW Γ (.region id ops b) Q k L H:=h
end
end
section
open Go Go.RowKit
variable [Y0]
section
variable {Γ : Ctx} {l : List Oper} {κ c : Nat}
end
end
end Go.Proofs.YtapciiffpnociabGreat
