/- Several texts in one: GxSr1 RuI RuJ RuF ScoG ScoH TokL ScoI RuL RelL GxRng GxItr RelV. Condition: none. -/
import Derived.Test.YtapciiffpnociabGreatM10
set_option linter.all false
set_option maxHeartbeats 8000000
open Array renaming getD_eq_getD_getElem?→Da,getElem?_eq_getElem→D5,getElem?_modify→Em,getElem?_toList→Bt,getElem_toList→G2,length_toList→A5
open Bool renaming and_eq_true→Ae,false_eq_true→B3,not_eq_true→C5
open List renaming append_nil→Bn,drop_eq_getElem_cons→An,drop_of_length_le→Ar,getD→A4,getElem?_eq_getElem→Ad,getElem?_map→Bh,getElem?_replicate→Eb,getElem_map→Dp,getElem_mem→Ah,length_map→Aa,length_replicate→Cb,map_append→Au,map_replicate→D2,map_set→Db,mem_cons_self→Ac,nil_append→Ii,replicate→Aq,take_of_length_le→Aj,take_succ_eq_append_getElem→Am
open Nat renaming le_refl→Af,le_trans→Aw,lt_of_lt_of_le→As,ne_of_beq_eq_false→By,not_lt_zero→A2,succ_pos→Hw,zero_add→C4,zero_le→Ai
namespace Go.Proofs.YtapciiffpnociabGreat
open Tryz
open Go Go.RowKit
variable {pos:String} {af:Array Edge}
section
open Go Go.RowKit Go.Sort Go.Shelf
variable [Y0]
section
variable {β : Type}
def V4.val {X:Nat->Prop} {w:World} {enc:β->List D} (h:V4 X w 1 enc):Value:=h.vs.headD undef
def V4.QZ {X:Nat->Prop} {w:World} {enc:β->List D} (h:V4 X w 1 enc):h.vs=[h.val]:=by
 have:=h.len
 unfold V4.val;match a:h.vs,this with
 | [v],_=>rfl
def LI {α:Type} [Inhabited α] {w:World} {g n:Nat} {c:Array Obj} {a:Array Value} {e:TypeId} {b:Nat×Nat} (enc:α->Value) (d:Array α) (hb:w.heap[g]?=some (.cells a e b)) :
  (sortWorld enc w g 0 n d c).heap[g]?=some (.cells (putCells enc 0 d a) e b):=by
 have f:g<w.heap.size:=(Array.getElem?_eq_some_iff.1 hb).1;unfold sortWorld;rw [heap_grow_old _ _<|by simpa using f];simp [putRow,mapBlock,Sort.ahead,Em,hb,onCells]
def zy {α:Type} [Inhabited α] {w:World} {g n:Nat} {a:Array Obj} (enc:α->Value) (d:Array α) {b:Nat} (hb:b<w.heap.size) (c:b≠g) :
  (sortWorld enc w g 0 n d a).heap[b]?=w.heap[b]?:=by
 unfold sortWorld;rw [heap_grow_old _ _<|by simpa using hb];have:g≠b:=λh=>c h.symm
 simp [putRow,mapBlock,Sort.ahead,Em,this]
def Te {α:Type} [Inhabited α] {w:World} {g n:Nat} {a:Array Obj} (enc:α->Value) (d:Array α):w.heap.size<=(sortWorld enc w g 0 n d a).heap.size:=by unfold sortWorld;simp
def Xs {α:Type} [Inhabited α] (enc:α->Value) (a:Array Value) (d:Array α) (h:d.size<=a.size):(putCells enc 0 d a).toList.take d.size=d.toList.map enc:=by
 apply List.ext_getElem?;intro j;by_cases b:j<d.size
 ·rw [List.getElem?_take_of_lt b,Bt,Bh,Bt,D5 b];simp [putCells,b,show j<a.size by omega]
 ·rw [List.getElem?_take_eq_none (by omega),List.getElem?_eq_none<|by simp;omega]
variable {P : Program} {τ : List (Nat×TI)} {τok : c8 P τ} {ρ : Ren}
def iN (L:SlLaysF.n6 P ρ) (enc:β->List D) (G:∀ x,(enc x).length=1) (A:β->β->Int) (T:SWO (ltOf A)) (g:Nat)
  (hc:∀ a b,I3 true P τ τok g ((enc a++enc b).map .d) (λr=>r=.d (.int .i64 (A a b)))) (te:TypeId) (l:List β) (hl:l.length<4611686018427387904)
  {X:Nat->Prop} {e:Env} {w:World} {i:Nat} (b7:∀ c,HB.owned e (i,.row te 1 (l.map enc))=some c->X c) (c0:∀ b,X b->b<w.heap.size) (c1:I4 X e w (i,.row te 1 (l.map enc))) (c2:S7 P (λ_=>False) w) :
  Calls P (ρ.f 6) #[e.η i,.func (.func g) #[] #[]] w λI w'=>I=.returned (.tuple #[])/\w.heap.size<=w'.heap.size/\w'.os=w.os/\w'.tape=w.tape/\w'.output=w.output /\
   (∀ c,c<w.heap.size->HB.owned e (i,.row te 1 (l.map enc))≠some c->w'.heap[c]?=w.heap[c]?)/\∃ U:List β,U.Perm l/\U.Pairwise (λa b=>A b a ≥ 0)/\I4 X e w' (i,.row te 1 (U.map enc)):=by
 obtain⟨J,V,c3,a2,a3⟩:=c1;by_cases M:l=[]
 ·subst M;obtain⟨p,B,s⟩:∃ p B,e.η i=.slice p 0 B:=by
   rcases V.2 with ⟨s,_⟩|⟨o,B,a4,s,_⟩
   ·exact⟨_,_,s⟩
   ·exact⟨_,_,s⟩
  rw [s];refine (AnyF.slices_SortFunc_none { L with } p B _ w).mono ?_;rintro I w' ⟨rfl,rfl⟩;exact⟨rfl,Af _,rfl,rfl,rfl,λ_ _ _=>rfl,[],.refl _,.nil,J,V,c3,a2,a3⟩
 ·have a5:0<l.length:=List.length_pos_iff.2 M;have lm:(l.map enc).length=l.length:=Aa _;obtain⟨a9,b0⟩:=V;rw [lm] at a9 b0;rcases b0 with ⟨_,h⟩|⟨o,B,a4,s,_,Q,c4,c5,b1,c6⟩
  ·omega
  have e1:o<w.heap.size:=(Array.getElem?_eq_some_iff.1 Q).1;have b2:∀ (m:List (List D)),HB.owned e (i,.row te 1 m)=some o:=λm=>by simp [HB.owned,s,Value.ownBlock]
  have b3:X o:=b7 o<|b2 _;obtain⟨d,d1,d2⟩:=LD (X:=X) (w:=w) (enc:=enc) G l J a9 a2 (λi Y j n=>by
   obtain⟨v,C,F⟩:=a3 i (by rw [lm];exact Y) j (by simpa using n);exact⟨v,C,by simpa using F⟩)
  have Z:d.length=l.length:=by rw [<- d1,Aa]
  haveI:Inhabited (V4 X w 1 enc):=⟨d[0]'(by omega)⟩
  have e2:∀ (q:List (V4 X w 1 enc)),(q.map V4.vs).flatten=q.map V4.val:=by
   intro q;induction q with
   | nil=>rfl
   | cons x q ih=>rw [List.map_cons,List.flatten_cons,ih,x.QZ];rfl
  have hF:d.map V4.val=J:=by rw [<- e2,d2]
  have e3:Holds (V4.val (X:=X) (w:=w) (enc:=enc)) w o 0 d.toArray:=by
   intro t ht;have g8:t<l.length:=by simpa [Z] using ht
   have e4:a4[t]?=J[t]?:=by
    rw [<- c6,List.getElem?_take,if_pos (by omega),Bt]
   refine⟨?_,by simp [World.frozen?,Q]⟩
   simp only [World.cell?,Q,C4];simp only [Option.isSome_none,B3,if_false];rw [e4,<- hF,Bh,getElem!_pos _ t ht];have:d[t]?=some d[t]:=Ad<|by omega
   rw [this];simp
  have e5:CmpLays1 P g #[] (V4.val (X:=X) (w:=w) (enc:=enc)) (λx y=>A x.x y.x) o 0 d.toArray.size w:=by
   intro m os dk g9 x y;generalize hW:sortWorld V4.val w o 0 m dk os=W;have a0:w.heap.size<=W.heap.size:=hW▸Te _ _;have e6:∀ b,b<w.heap.size->¬ X b->W.heap[b]?=w.heap[b]?:=λb u hx=>hW▸zy _ _ u λh=>hx<|h▸b3
   have e7:∀ b,X b->b<W.heap.size:=λb u=>As (c0 b u) a0
   have b4:∀ z:V4 X w 1 enc,O0 X e W ((enc z.x).map .d) [z.val]:=λz=>by
    have:=gJ (X:=X) (e:=e) (w:=W) (enc z.x) z.vs (by rw [z.len,G]) λj n=>by
     obtain⟨v,C,F⟩:=z.UZ j n;exact⟨v,C,Q0.N1 a0 e6 (λ_ _ h=>h) F⟩
    rw [z.QZ] at this;exact this
   have hk:=(hc x.x y.x).2 X (e.V2 id 0) W [x.val,y.val] ⟨λ_=>Iff.rfl,by simp,by simp,by simp [ah],by simp [ah],rfl,rfl,rfl,λ_=>Af _,Af _,λ_ _ _=>rfl,λb u=>⟨e7 b u,by simp [ah]⟩,(c2.grow a0).sub (by simp [ah]),λj n=>absurd n (A2 j),λj n=>absurd n<|A2 j⟩ ?_
   ·refine hk.mono ?_;rintro I w' ⟨k',r,H',e',v,⟨rfl,hlr,rfl⟩,rfl,hH2,e9⟩;refine⟨?_,eH hH2.os hH2.tape hH2.output (hH2.drawn rfl) hH2.size λb u=>hH2.block b u<|by simp [ah]⟩
    cases e9;rfl
   ·have g0:∀ b,Ctx.X ⟨P,τ,τok,X,W,λb=>b∈ah (e.V2 id 0) [],0,0,(e.V2 id 0).an,none,da,true,true⟩ (e.V2 id 0) [] b↔X b:=λb=>by unfold Ctx.X;simp [ah]
    refine O0.N1 (Af _) (λ_ _ _=>rfl) (λb _ h=>(g0 b).1 h) _ _ (X:=X) (w:=W) ?_;rw [Au];exact O0.append _ _ _ _ (O0.env _ _ (Jw _)<|b4 x)<|O0.env _ _ (Jw _)<|b4 y
  have g1:SWO (ltOf λx y:V4 X w 1 enc=>A x.x y.x):=⟨λx=>T.irrefl x.x,λx y z=>T.trans x.x y.x z.x,λx y z=>T.ntrans x.x y.x z.x⟩
  have eg:∀ b5 w,(callFunc g b5).run P w=.ok (.enter g b5) w:=I9 ((if h:l.length=0 then by omega else (hc (l[0]'a5)<|l[0]'a5).1));have b6:OneCell (V4.val (X:=X) (w:=w) (enc:=enc)):=λx=>x.one _<|by rw [x.QZ];simp
  have hs:=Any.slices_SortFunc L (V4.val (X:=X) (w:=w) (enc:=enc)) b6 (λx y=>A x.x y.x) g1 g #[] o 0 B d.toArray w eg e5 e3 e1 (by simpa [Z] using hl);have a1:d.toArray.size=l.length:=by simpa using Z
  rw [a1] at hs;rw [s];refine hs.mono ?_;rintro I w' ⟨rfl,d',m,os,hp,hso,rfl⟩;have E:d'.size=l.length:=hp.1.trans a1;have g2:d'.toList.Perm d:=by
   have:=hp.2.2
   rwa [show d'.extract 0 l.length=d' by rw [<- E];simp,show d.toArray.extract 0 l.length=d.toArray by rw [<- a1];simp] at this
  refine⟨rfl,Te _ _,rfl,rfl,rfl,λc hc M=>zy _ _ hc λh=>M (by rw [b2,h]),d'.toList.map V4.x,d1▸g2.map _,?_,?_⟩
  ·rw [List.pairwise_map,List.pairwise_iff_getElem];intro i j Y n g3;have h1:=hso i j (Ai _) g3 (by simpa [E] using n);rw [getElem!_pos d' i (by simpa using Y),getElem!_pos d' j<|by simpa using n] at h1;have h2:¬ A d'[j].x d'[i].x<0:=of_decide_eq_false h1;simp only [G2];omega
  ·have g4:(d'.toList.map V4.x).length=l.length:=by simp [E]
   refine⟨d'.toList.map V4.val,⟨?_,.inr ⟨o,B,_,s▸?_,Ai _,LI _ _ Q,?_,c5,by simp [putCells,b1],?_⟩⟩,?_,?_,?_⟩
   ·simp
   ·simp [E]
   ·simp [E];exact c4
   ·have:(d'.toList.map V4.x).length*1=d'.size:=by simp
    rw [Aa,this];exact Xs _ _ _<|by rw [E,b1];omega
   ·intro j n;rw [Dp];exact G _
   ·intro v g5;obtain⟨z,_,rfl⟩:=List.mem_map.1 g5;exact b6 z
   ·intro S g6 j n;rw [Aa,g4] at g6;have hz:S<d'.size:=by omega
    simp only [Dp,G2] at n ⊢;have g7:j=0:=by have:=G<|d'[S].x;omega
    subst g7;obtain⟨v,C,F⟩:=d'[S].UZ 0 (by simpa using n);refine⟨v,?_,Q0.N1 (Te _ _) (λb u hx=>zy _ _ u λh=>hx<|h▸b3) (λb _ h=>h) F⟩
    rw [Bh,Bt,Nat.mul_one,Nat.add_zero,D5 hz];rw [d'[S].QZ] at C;simpa using C
end
open Go Go.RowKit Go.Sort
def G':Go.Sort.SWO (ltOf dy) where
 irrefl x:=by unfold ltOf;rw [Ol];rfl
 trans x y z h g:=decide_eq_true<|xy (of_decide_eq_true h)<|of_decide_eq_true g
 ntrans x y z h g:=by
  have h:=of_decide_eq_false h;have g:=of_decide_eq_false g;refine decide_eq_false ?_;have:=uv (a:=z) (b:=y) (c:=x) (by rw [ms];omega)<|by rw [ms];omega
  rw [ms] at this;omega
def rF:yU prog 141 142 22 1 Yd dy:=λl c _ _ _ _ d e f g =>
 iN (ρ:=Yg) VQ Yd (λ_=>rfl) dy G' 142 (λa b=>(zc true a b).Y6 _ rfl) 22 l c d e f g
attribute [local irreducible] DW DS DL DQ Ev X1 I3 du bl DT
def Om (a b:List Int):Fn 144 [.s 1 (a.map aq),.s 1 (b.map aq)] (λr=>r=.b (decide (a=b))):=by
 refine J2 func144 ?_;intro O m n o;have g:(a.map aq).length=a.length:=Aa _;have p:(b.map aq).length=b.length:=Aa _;refine po (t:=0) rfl<|λq=>?_;by_cases j:a.length=b.length
 ·repeat' (first|refine zr ?_|(refine zm ?_ ?_<;>intro c)|omega)
  refine ae (ι:=Nat) (λi=>⟨0,[(0,.s 1<|a.map aq),(1,.s 1<|b.map aq),(12,.i a.length),(13,.i i)],[]⟩)
   (λi=>i<=a.length/\a.take i=b.take i) (λi=>a.length-i) 0 ⟨Ai _,rfl⟩ (er id ⟨rfl,rfl,by rw [<- g];rfl,rfl,trivial⟩) ?_
  rintro i ⟨g1,g2⟩;dsimp only at g1 g2 ⊢;by_cases f:i<a.length
  ·have l:i<b.length:=by omega
   by_cases d:a[i]=b[i]
   ·repeat' (first|refine zr ?_|(refine zm ?_ ?_<;>intro c)|omega)
    all_goals try (exfalso;exact c d)
    exact⟨i+1,⟨f,by rw [Am f,Am l,g2,d]⟩,er id,by omega⟩
   ·have e:a≠b:=λh=>d (by subst h;rfl)
    rw [decide_eq_false e];repeat' (first|refine zr ?_|(refine zm ?_ ?_<;>intro c)|omega)
    all_goals exact⟨.inl rfl,_,rfl,rfl,rfl⟩
  ·rw [Aj (by omega),Aj<|by omega] at g2;rw [decide_eq_true g2];repeat' (first|refine zr ?_|(refine zm ?_ ?_<;>intro c)|omega)
   all_goals exact⟨.inl rfl,_,rfl,rfl,rfl⟩
 ·have e:a≠b:=λh=>j (by rw [h])
  rw [decide_eq_false e];repeat' (first|refine zr ?_|(refine zm ?_ ?_<;>intro c)|omega)
  all_goals exact⟨.inl rfl,_,rfl,rfl,rfl⟩
def xE (l:List (List Int)) (c:l.Nodup) (j:l.length<=1000000):X1 false prog U5 bt 143 [.row 0,.fn 144 []] 0 1 [(0,.row 22 1 (l.map Yd))] (λ_ r H=>r=.d (.own Y0.B (.slice 1 (l.map gk)))/\H=[]):=by
 refine pT func143 ?_;intro O m n o;have p:(l.map Yd).length=l.length:=Aa _;by_cases q:l.length<2
 ·repeat' (first|refine zs ?_|(refine zm ?_ ?_<;>intro a)|omega)
  refine ag (ka (xs:=l.map gk) 4 (bm iG _) rfl rfl rfl) ?_;refine zR ?_;exact⟨.inl rfl,_,rfl,0,[],trivial,rfl,rfl,rfl,rfl,rfl,rfl⟩
 ·repeat' (first|refine zs ?_|(refine zm ?_ ?_<;>intro a)|omega)
  refine ae (ι:=Nat) (λi=>⟨1,[(0,.row 0),(1,.fn 144 []),(5,.i i)],[(0,.row 22 1<|l.map Yd)]⟩)
   (λi=>1<=i/\i<=l.length) (λi=>l.length-i) 1 ⟨by omega,by omega⟩ (er id) ?_
  rintro i ⟨g0,g1⟩;by_cases s:i<l.length
  ·have f:l[i]≠l[i-1]'(by omega):=λh=>by
    have:=(List.getElem_inj c).1 h
    omega
   have g:Fn 144 [.d (.own Y0.B<|.slice 1<|(l[i]).map aq),.d<|.own Y0.B<|.slice 1<|(l[((i:Int)-1).toNat]'(by omega)).map aq] (λr=>r=.b false):=by
    have e:((i:Int)-1).toNat=i-1:=by omega
    simp only [e];have h:=Om l[i] (l[i-1]'(by omega));rw [decide_eq_false f] at h;exact h.Y6 _ rfl
   repeat' (first|refine zs ?_|(apply kb;(iterate 4 exact rfl);apply g;exact rfl;(exact rfl);exact rfl;exact rfl;exact⟨_,rfl⟩;rintro _ rfl)|(refine zm ?_ ?_<;>intro a)|omega)
   exact⟨i+1,⟨by omega,by omega⟩,er id,by show l.length-(i+1)<l.length-i;omega⟩
  ·repeat' (first|refine zs ?_|(refine zm ?_ ?_<;>intro a)|omega)
   refine ag (ka (xs:=l.map gk) 4 (bm iG _) rfl rfl rfl) ?_;repeat' (apply cr)
   exact⟨.inl rfl,_,rfl,0,[],trivial,rfl,rfl,rfl,rfl,rfl,rfl⟩
open Go Go.RowKit
def J3 (S:List U0) (r:O3):Bool:=decide ((ua S r.vars.toNat r.body).length<=2000)
def gw (S:List U0) (r:O3):List (List Int):=if J3 S r then ua S r.vars.toNat r.body else []
structure XW (S:List U0) (r:O3):Prop where
 ok:okB S r.vars.toNat r.body
 bd:Bd r.body (Aq r.vars.toNat false)
 vars:0<=r.vars/\r.vars<=8
def yV (S:List U0) (r:O3) (n:N2 S) (v:S.length<=4398046511104) (a:XW S r):Fn 96 [th r,.s 2 (S.map aa)] (λc=>c=.M2 [.d (.own Y0.B (.slice 1 ((gw S r).map gk))),.b (J3 S r)]):=by
 refine J2 func96 ?_;intro O X Y Z;have o:=a.vars;have z:S.Nodup:=n.imp λh A=>by subst A;exact lt_irrefl h
 obtain⟨e,p,C⟩:=oc z a.ok.lit a.bd;have w:=tM r S n v r.body.length r.body rfl (e0 r.vars.toNat) [] (by rw [show (e0 r.vars.toNat).length=r.vars.toNat from Cb];exact a.ok) (λa0 x f=>by
  unfold e0 at f;rw [Eb] at f;split at f<;>simp at f) (by rw [Lr];exact a.bd)<|by simp
 have q:(ua S r.vars.toNat r.body).length=(js S r.body.length r.body<|e0 r.vars.toNat).length:=((kh S r.vars.toNat r.body).trans e.symm).length_eq;have E:=(e.nodup_iff).2 p;have F:=e;clear e p C;have G:tf (js S r.body.length r.body<|e0 r.vars.toNat) []=J3 S r:=by unfold tf J3;rw [q];simp
 rw [G] at w;have I:J3 S r=true->pb (js S r.body.length r.body<|e0 r.vars.toNat) []=js S r.body.length r.body (e0 r.vars.toNat):=λh=>by
  unfold J3 at h;have:=of_decide_eq_true h
  unfold pb;rw [Ii,Aj<|by omega]
 generalize js S r.body.length r.body (e0 r.vars.toNat)=u at *;generalize pb u []=J at *;refine zS ?_;all_goals try omega
 refine Fy rfl rfl rfl ⟨rfl,o.1,?_,?_⟩ rfl rfl rfl rfl rfl ?_
 ·show 8*r.vars.toNat<=_;omega
 ·unfold maxLen;omega
 repeat' refine z5 ?_
 refine Fy rfl rfl rfl ⟨rfl,o.1,?_,?_⟩ rfl rfl rfl rfl rfl ?_
 ·show 1*r.vars.toNat<=_;omega
 ·unfold maxLen;omega
 repeat' ((fail_if_success (apply fh 2));(first|refine zs ?_|fail))
 refine ag (gh 10 9 22 1 rfl rfl rfl) ?_;refine ag (bk (k':=5) (L':=[(2,.loc 4 0),(6,.loc 0 0)]) (H':=(4,.M1 87 [.i r.N0,.s 2 (r.D0.map a7),.i r.T0,.s 4 (r.body.map bf),.i r.vars])::Nl r S (e0 r.vars.toNat) []) (λj=>match j with|0=>10|1=>5|2=>8|3=>12|4=>0|j=>j)
  ⟨rfl,rfl,trivial⟩ ⟨rfl,rfl,by rw [OL,D2];rfl,by rw [Lr,D2];rfl,rfl,trivial⟩ rfl rfl rfl rfl rfl rfl) ?_
 refine zS ?_;(refine aw id (w) rfl rfl rfl rfl ⟨rfl,rfl,rfl,rfl,trivial⟩ rfl rfl rfl rfl rfl rfl ?_ ?_)
 ·rintro k2 c H2 ⟨rfl,rfl,rfl⟩;exact⟨rfl,rfl⟩
 rintro k2 c H2 ⟨rfl,rfl,rfl⟩;change DS _ _ _ _ _ _ _ _;clear w;unfold gw;cases l:J3 S r with
 | false =>
  rw [if_neg<|by simp];refine zS ?_;all_goals try omega
  refine ag (ea 4 1 rfl) ?_;refine zR ?_;exact⟨.inl rfl,_,rfl,rfl,rfl⟩
 | true =>
  have M:=I l;have a1:u.length<=2000:=by rw [<- q];unfold J3 at l;exact of_decide_eq_true l
  rw [if_pos rfl];subst M;refine zS ?_;all_goals try omega
  refine FM rF J (by kernel_rfl) rfl rfl rfl rfl rfl rfl (by omega) ?_;intro g m Q;have T:we g:=Q.imp fun {a2 b} h=>by rw [ms];omega
  have U:g=ua S r.vars.toNat r.body:=zn T<|m.trans F;have V:g.Nodup:=m.nodup_iff.2 E;have W:=xE g V (by rw [m.length_eq];omega);rw [<- U];refine zS ?_;all_goals try omega
  refine aw (λ_=>8) W rfl rfl rfl rfl ⟨rfl,trivial⟩ rfl rfl rfl rfl rfl rfl ?_ ?_
  ·rintro k2 c H2 ⟨rfl,rfl⟩;exact⟨rfl,rfl⟩
  rintro k2 c H2 ⟨rfl,rfl⟩;change DS _ _ _ _ _ _ _ _;refine zR ?_;exact⟨.inl rfl,_,rfl,rfl,rfl⟩
def MX (S:List U0) (r:O3) (a:N2 S) (c:S.length<=4398046511104) (d:XW S r):Fn 96 [th r,.s 2 (S.map aa)] (λe=>e=.M2 [.s 1 ((gw S r).map gk),.b (J3 S r)]):=(yV S r a c d).Z5
def OR:dy [] []=0:=rfl
def VN {a b:List Int} (c:a.length=b.length) {i:Nat} (hi:i<a.length):dy (a.drop i) (b.drop i)=if fi a[i] (b[i]'(by omega))=0 then dy (a.drop (i+1)) (b.drop (i+1)) else fi a[i] (b[i]'(by omega)):=by rw [An hi,An (show i<b.length by omega),dy]
def dI {a b:Int}:fi a b=0↔a=b:=by unfold fi;repeat' split<;>omega
def JG (a b:List Int) (f:a.length=b.length):Fn 101 [.s 1 (a.map aq),.s 1 (b.map aq)] (λr=>r=.b (decide (dy a b<0))):=by
 refine J2 func101 ?_;intro O g j l;have m:(a.map aq).length=a.length:=Aa _;have n:(b.map aq).length=b.length:=Aa _;refine po (t:=0) rfl<|λo=>?_;refine zS ?_;refine ae (ι:=Nat) (λi=>⟨0,[(0,.s 1<|a.map aq),(1,.s 1<|b.map aq),(5,.i i)],[]⟩)
  (λi=>i<=a.length/\dy a b=dy (a.drop i) (b.drop i)) (λi=>a.length-i) 0 ⟨Ai _,rfl⟩ (er id) ?_
 rintro i ⟨g1,g2⟩;dsimp only at g1 g2 ⊢;by_cases e:i<a.length
 ·rw [VN f e] at g2;by_cases c:a[i]=b[i]'(by omega)
  ·rw [if_pos<|dI.2 c] at g2;repeat' (first|refine zr ?_|(refine zm ?_ ?_<;>intro d)|omega)
   all_goals try (exfalso;exact d c)
   exact⟨i+1,⟨e,g2⟩,er id,by omega⟩
  ·rw [if_neg<|λh=>c<|dI.1 h] at g2;rw [g2];repeat' (first|refine zr ?_|(refine zm ?_ ?_<;>intro d)|omega)
   all_goals try (exfalso;exact d c)
   exact bi rfl<|by simp only [P8]
 ·rw [Ar (by omega),Ar<|by omega] at g2;rw [g2,OR];repeat' (first|refine zr ?_|(refine zm ?_ ?_<;>intro d)|omega)
  exact⟨.inl rfl,_,rfl,rfl,rfl⟩
def qF {o:List (List Int)} {i j:Nat} (h:zw o i) (d:j<=i):zw o j:=λp q a b c e=>h p q a b c<|by omega
def NQ {o:List (List Int)} {k:Nat} {a b:List Int}:((o.map gk).set k (gk a)).set (k-1) (gk b)=(Qn o k a b).map gk:=by unfold Qn;rw [Db,Db]
def WM (l:List U0) (r:O3) (V:l.length<=60) (n:XW (bg l) r):Fn 39 [th r,.s 2 (l.map aa)] (λB=>B=.M2 [.s 1 ((gw (bg l) r).map gk),.b (J3 (bg l) r)]):=by
 refine J2 func39 ?_;intro O w0 E0 K1;have F:=n.vars;have W:=(bu l).1;have X:=u9 l (by omega);have b0:(bg l).length<=60:=Aw (U8 l []) V;generalize bg l=S at *;have Y:S.Nodup:=W.imp λh Z=>by subst Z;exact lt_irrefl h
 obtain⟨_,p2,G⟩:=oc Y n.ok.lit n.bd;have w:=sW r S (by omega) (r.body.length-0) 0 rfl (Ai _) (e0 r.vars.toNat) [] false (by rw [show (e0 r.vars.toNat).length=r.vars.toNat from Cb];exact n.ok) (λb1 x e=>by
  unfold e0 at e;rw [Eb] at e;split at e<;>simp at e)<|by simp
 rw [show tw r.body 0=k8 r.body from rfl] at w;have I:(ua S r.vars.toNat r.body).length=(ek S r.body (k8 r.body)<|e0 r.vars.toNat).length:=(kh S r.vars.toNat r.body).length_eq;have J:∀ x∈ek S r.body (k8 r.body) (e0 r.vars.toNat),x.length=r.vars.toNat:=λx e=>((G x).1 e).1
 have a0:∀ o:List (List Int),we o->o.Perm (ek S r.body (k8 r.body)<|e0 r.vars.toNat)->o=ua S r.vars.toNat r.body:=λo f g=>zn f g
 clear G;generalize ek S r.body (k8 r.body) (e0 r.vars.toNat)=c at *;have a1:ri c ([],false)=(c.take 2000,!J3 S r):=by
  unfold ri J3;rw [I];simp only [B3,if_false,List.length_nil,Ii,Nat.sub_zero,C4];rw [<- decide_not];exact congrArg _<|decide_eq_decide.2<|by omega
 rw [a1] at w;repeat' ((fail_if_success (apply br 2));(first|refine zs ?_|refine z22 ?_ X|fail))
 all_goals try omega
 refine ag (gh 5 6 22 1 rfl rfl rfl) ?_;refine ag (bk (k':=3) (L':=[(2,.loc 2 0),(6,.loc 0 0)]) (H':=(2,.M1 87 [.i r.N0,.s 2 (r.D0.map a7),.i r.T0,.s 4 (r.body.map bf),.i r.vars])::t7 r S [] false) (λj=>match j with|0=>5|1=>7|2=>0|j=>j)
  ⟨rfl,rfl,trivial⟩ ⟨rfl,rfl,rfl,trivial⟩ rfl rfl rfl rfl rfl rfl) ?_
 refine lz 6 (by kernel_rfl) (by kernel_rfl) (by kernel_rfl) rfl rfl rfl ?_;repeat' refine z5 ?_
 refine Fy rfl rfl rfl ⟨rfl,F.1,?_,?_⟩ rfl rfl rfl rfl rfl ?_
 ·show 8*r.vars.toNat<=_;omega
 ·unfold maxLen;omega
 repeat' refine z5 ?_
 refine Fy rfl rfl rfl ⟨rfl,F.1,?_,?_⟩ rfl rfl rfl rfl rfl ?_
 ·show 1*r.vars.toNat<=_;omega
 ·unfold maxLen;omega
 repeat' refine z11 ?_
 refine dm (ck 15 rfl rfl rfl) ?_;refine dm (ck 18 rfl rfl rfl) ?_;have M:Aq r.vars.toNat [D.int .i64 0]=(bx<|e0 r.vars.toNat).map aq:=by rw [OL,D2];rfl
 have Q:Aq r.vars.toNat [D.bool false]=(b8<|e0 r.vars.toNat).map cu:=by rw [Lr,D2];rfl
 rw [<- M,<- Q] at w;(refine aw id (w) rfl rfl rfl rfl ⟨rfl,rfl,trivial⟩ rfl rfl rfl rfl rfl rfl ?_ ?_)
 ·rintro k2 B H2 ⟨rfl,rfl,rfl⟩;exact⟨rfl,rfl⟩
 rintro k2 B H2 ⟨rfl,rfl,rfl⟩;change DS _ _ _ _ _ _ _ _;clear w M Q;unfold gw;cases T:J3 S r with
 | false =>
  rw [if_neg<|by simp];refine zS ?_;all_goals try omega
  refine ag (ff 4 1 rfl) ?_;refine zR ?_;exact⟨.inl rfl,_,rfl,rfl,rfl⟩
 | true =>
  have a2:c.length<=2000:=by rw [<- I];unfold J3 at T;exact of_decide_eq_true T
  rw [if_pos rfl,Aj a2];refine zS ?_;all_goals try omega
  refine ae (ι:=Nat×List (List Int)) (λx=>⟨2,[(6,.loc 0 0),(7,.i x.1)],t7 r S x.2 false⟩)
   (λx=>1<=x.1/\x.1<=c.length+1/\x.2.Perm c/\zw x.2 x.1) (λx=>c.length+1-x.1) (1,c) ⟨Af _,by dsimp only;omega,.refl _,λp q _ _ _ _=>by dsimp only at *;omega⟩ (er<|λj=>match j with|1=>10|j=>j) ?_
  rintro⟨i,o⟩ ⟨g1,g2,m,u⟩;dsimp only at g1 g2 m u ⊢;have lo:(o.map gk).length=o.length:=Aa _;have b2:=m.length_eq;by_cases hi:i<o.length
  ·repeat' (first|refine zr ?_|(refine zm ?_ ?_<;>intro C)|omega)
   refine ae (ι:=Nat×List (List Int)) (λx=>⟨2,[(6,.loc 0 0),(7,.i i),(8,.i x.1)],t7 r S x.2 false⟩)
    (λx=>x.1<=i/\x.2.Perm c/\UG x.2 x.1 i) (λx=>x.1) (i,o) ⟨Af _,m,TC u⟩ (er id) ?_
   clear m u lo;rintro⟨k,o⟩ ⟨f1,f2,f3⟩;dsimp only at f1 f2 f3 ⊢;have lo:(o.map gk).length=o.length:=Aa _;have b3:=f2.length_eq;cases k with
   | zero =>
    refine zS ?_;all_goals try omega
    exact⟨(i+1,o),⟨by dsimp only;omega,by dsimp only;omega,f2,λp q a b f g=>Sw f3 (.inl rfl) p q a b f<|by dsimp only at g;omega⟩,er id,by show c.length+1-(i+1)<c.length+1-i;omega⟩
   | succ j =>
    have v:j+1<o.length:=by omega
    have U:j<o.length:=by omega
    have E:o[j+1]?=some o[j+1]:=Ad v;have e0:o[j]?=some o[j]:=Ad U;have z:=JG o[j+1] o[j]<|(J _<|f2.mem_iff.1<|Ah v).trans (J _<|f2.mem_iff.1<|Ah U).symm;have a3:j+1<(o.map gk).length/\∀ y∈o.map gk,y.length=1:=MF v λ_=>rfl
    have b4:j<((o.map gk).set (j+1) [D.slice 1<|o[j].map aq]).length/\∀ y∈(o.map gk).set (j+1) [D.slice 1<|o[j].map aq],y.length=1:=⟨by rw [List.length_set];omega,λy hy=>by
     rcases List.mem_or_eq_of_mem_set hy with h|h
     ·exact a3.2 y h
     ·rw [h];rfl⟩
    cases A:decide (dy o[j+1] o[j]<0) with
    | false =>
     rw [A] at z;repeat' (first|refine zs ?_|refine z22 ?_ z|(refine zm ?_ ?_<;>intro C)|omega)
     exact⟨(i+1,o),⟨by dsimp only;omega,by dsimp only;omega,f2,λp q a b f g=>Sw f3 (.inr ⟨_,_,Hw j,e0,E,of_decide_eq_false A⟩) p q a b f<|by dsimp only at g;omega⟩,er id,by show c.length+1-(i+1)<c.length+1-i;omega⟩
    | true =>
     rw [A] at z;repeat' (first|refine zs ?_|refine z22 ?_ z|(refine zm ?_ ?_<;>intro C)|omega)
     have a4:=NQ (o:=o) (k:=j+1) (a:=o[j]) (b:=o[j+1]);exact⟨(j,Qn o (j+1) o[j] o[j+1]),⟨by dsimp only;omega,(EI (Hw j) e0 E).trans f2,VJ (Hw j) v f1 e0 E (of_decide_eq_true A) f3⟩,er id ⟨rfl,rfl,congrArg (λa5=>SV.d<|D.int .i64 a5) (kw j),trivial⟩ ⟨rfl,by rw [<- a4];rfl,trivial⟩,Nat.lt_succ_self j⟩
  ·have a9:=a0 o (UC<|qF u<|by omega) m;rw [<- a9];repeat' (first|refine zs ?_|(refine zm ?_ ?_<;>intro C)|omega)
   refine ag (ck 4 rfl rfl rfl) ?_;repeat' (apply cr)
   exact⟨.inl rfl,_,rfl,rfl,rfl⟩
def oR (p:R3) (r:O3):Fn 117 [gy p,th r] (λx=>x=.i (pu p.F0 r)):=by
 refine J2 func117 ?_;intro O w0 E0 K1;have U:(p.F0.map aq).length=p.F0.length:=Aa _;have Z:(r.D0.map a7).length=r.D0.length:=Aa _;have lc:(r.body.map bf).length=r.body.length:=Aa _;refine ig 0 0 rfl rfl<|λhk=>?_;refine ig 1 1 rfl rfl<|λa1=>?_;refine ig 1 3 rfl rfl<|λa2=>?_;have c:=f7 r.N0 0 (((p.F0.map aq).length:Int)-1);have f:=f7 r.vars 0 8;have h:=f7 r.T0 0 4;have M:pu p.F0 r=pu p.F0 r:=rfl;conv at M=>rhs;unfold pu
 rw [M];rw [<- U,<- Z,<- lc];by_cases A:L5 r.N0 0 (((p.F0.map aq).length:Int)-1)=true
 ·have a3:=nl A;have V:=Rj (p:=p) (n:=r.N0) (by omega) (by omega);rw [A] at c ⊢;rw [if_neg (show ¬ (true=false) by decide),V];by_cases B:L5 r.vars 0 8=true
  ·have j:=nl B;rw [B] at f ⊢;rw [if_neg<|show ¬ (true=false) by decide];have o:=gB r.D0 r.vars j.1 j.2;clear B A V M;generalize p8 r.vars r.D0=C at o ⊢;by_cases E:L5 r.T0 0 4=true
   ·have a4:=nl E;rw [E] at h ⊢;rw [if_neg<|show ¬ (true=false) by decide];repeat' (first|refine zr ?_|refine z21 ?_ c|refine z21 ?_ f|refine z21 ?_ h|refine z21 ?_ o|(refine zm ?_ ?_<;>intro u)|fail)
    all_goals try (refine bh rfl ?_;(repeat' split)<;>(first|rfl|omega))
    all_goals
     have a0:r.body.length<=4:=by omega
     have F:∀ e,bp (nf p.F0 r.vars) r.body=e->(if (((r.D0.map a7).length:Nat):Int)≠p.F0[r.N0.toNat]'(by omega) then 1 else if C≠0 then C else if r.T0≠0/\((r.D0.map a7).length=0∨(r.body.map bf).length=0) then 1 else if 4<(r.body.map bf).length then 2 else if bp (nf p.F0 r.vars) r.body≠0 then bp (nf p.F0 r.vars) r.body else if uc r=false then 4 else 0)=if e≠0 then e else if uc r=false then 4 else 0:=by
      rintro e rfl;(repeat' split)<;>(first|rfl|omega)
     generalize (if (((r.D0.map a7).length:Nat):Int)≠p.F0[r.N0.toNat]'(by omega) then 1 else if C≠0 then C else if r.T0≠0/\((r.D0.map a7).length=0∨(r.body.map bf).length=0) then 1 else if 4<(r.body.map bf).length then 2 else if bp (nf p.F0 r.vars) r.body≠0 then bp (nf p.F0 r.vars) r.body else if uc r=false then 4 else 0)=res at F ⊢;refine ae (ι:=Nat) (λi=>⟨2,[(2,.loc 0 0),(3,.loc 1 0),(4,.i 0),(5,.i (p.F0.map aq).length),(7,.i i)],[(0,sJ p),(1,ve r)]⟩)
      (λi=>i<=r.body.length/\bp (nf p.F0 r.vars) r.body=bp (nf p.F0 r.vars) (r.body.drop i)) (λi=>r.body.length-i) 0 ⟨Ai _,rfl⟩ (er id) ?_
     rintro i ⟨g1,g2⟩;by_cases hi:i<r.body.length
     ·rw [gg hi] at g2;repeat' ((fail_if_success (apply jm 21));(first|refine zs ?_|(refine zm ?_ ?_<;>intro u)|fail))
      all_goals try omega
      generalize r.body[i]=l at g2 ⊢;have a:∀ e,nf p.F0 r.vars l=e->e≠0->e=res:=by
       rintro e rfl G;rw [if_pos G] at g2;rw [F _ g2,if_pos G]
      obtain⟨Q,v,b⟩:∃ Q:Prop,(Q->bp (nf p.F0 r.vars) r.body=bp (nf p.F0 r.vars) (r.body.drop<|i+1))/\(nf p.F0 r.vars l=0->Q):=by
       refine⟨_,id,λG=>?_⟩
       rw [if_neg<|by rw [G];decide] at g2;exact g2
      clear F g2;refine ag (bk (k':=3) (L':=[(2,.loc 0 0),(3,.loc 1 0),(4,.i 0),(5,.i (p.F0.map aq).length),(7,.i i),(8,.loc 2 0)]) (H':=[(0,sJ p),(1,ve r),(2,Vl l)]) id ⟨rfl,rfl,rfl,rfl,rfl,rfl,trivial⟩ ⟨rfl,rfl,rfl,trivial⟩ rfl rfl rfl rfl rfl rfl) ?_;obtain⟨d,I,S,J⟩:=l;have lt:(J.map a7).length=J.length:=Aa _;have wt:=gB J r.vars j.1 j.2;have g:=f7 d 1 4;have m:=f7 S 0 (((p.F0.map aq).length:Int)-1);have q:=f7 I 1 4;have s:=f7 I 5 7;unfold nf jX at a b;dsimp only [Vl] at a b ⊢;rw [<- U,<- lt] at a b;generalize p8 r.vars J=tl at wt a b;generalize L5 I 1 4=o3 at q a b;generalize L5 I 5 7=o4 at s a b;by_cases w:L5 d 1 4=true
      ·have a5:=nl w;rw [w] at a b g;by_cases z:L5 S 0 (((p.F0.map aq).length:Int)-1)=true
       ·have a9:=nl z;have W:=Rj (p:=p) (n:=S) (by omega) (by omega);rw [z] at a b m;rw [W] at a b;clear z W w;rcases (show d=1∨d=2∨d=3∨d=4 by omega) with rfl|rfl|rfl|rfl
        all_goals repeat' (first|refine zr ?_|refine z21 ?_ g|refine z21 ?_ m|refine z21 ?_ q|refine z21 ?_ s|refine z21 ?_ wt|(refine zm ?_ ?_<;>intro u)|fail)
        all_goals first
         | omega
         | (refine bh rfl (a _ ?_ ?_)<;>(clear a b v g m q s wt c f h o;(repeat' split)<;>(first|rfl|assumption|decide|omega|contradiction|(exfalso;simp_all;done))))
         | (refine⟨i+1,⟨by omega,v<|b ?_⟩,er id,by show r.body.length-(i+1)<r.body.length-i;omega⟩;(clear a b v g m q s wt c f h o;(repeat' split)<;>(first|omega|contradiction|(exfalso;simp_all;done))))
       ·rw [C5] at z;rw [z] at a b m;clear z w;rcases (show d=1∨d=2∨d=3∨d=4 by omega) with rfl|rfl|rfl|rfl
        all_goals repeat' (first|refine zr ?_|refine z21 ?_ g|refine z21 ?_ m|refine z21 ?_ q|refine z21 ?_ s|refine z21 ?_ wt|(refine zm ?_ ?_<;>intro u)|fail)
        all_goals first
         | omega
         | (refine bh rfl (a _ ?_ ?_)<;>(clear a b v g m q s wt c f h o;(repeat' split)<;>(first|rfl|assumption|decide|omega|contradiction|(exfalso;simp_all;done))))
         | (refine⟨i+1,⟨by omega,v<|b ?_⟩,er id,by show r.body.length-(i+1)<r.body.length-i;omega⟩;(clear a b v g m q s wt c f h o;(repeat' split)<;>(first|omega|contradiction|(exfalso;simp_all;done))))
      ·rw [C5] at w;rw [w] at a g;repeat' (first|refine zr ?_|refine z21 ?_ g|fail)
       all_goals exact bh rfl<|a _ rfl<|by decide
     ·rw [iu<|by omega] at g2;have X:=un g2;have Y:=nV r a0 j.1 j.2 (λl T=>(Kr j.1<|X l T).1)<|λl T=>(Kr j.1<|X l T).2;rw [F 0 g2,if_neg<|by decide];generalize uc r=sb at Y ⊢;repeat' (first|refine zr ?_|refine z21 ?_ Y|(refine zm ?_ ?_<;>intro u)|fail)
      all_goals first
       | omega
       | (refine bh rfl ?_;simp_all;done)
   ·rw [C5] at E;rw [E] at h ⊢;repeat' (first|refine zr ?_|refine z21 ?_ c|refine z21 ?_ f|refine z21 ?_ h|refine z21 ?_ o|(refine zm ?_ ?_<;>intro u)|fail)
    all_goals (refine bh rfl ?_;(repeat' split)<;>(first|rfl|omega|contradiction))
  ·rw [C5] at B;rw [B] at f ⊢;repeat' (first|refine zr ?_|refine z21 ?_ c|refine z21 ?_ f|(refine zm ?_ ?_<;>intro u)|fail)
   all_goals (refine bh rfl ?_;(repeat' split)<;>(first|rfl|omega|contradiction))
 ·rw [C5] at A;rw [A] at c ⊢;rw [if_pos rfl];repeat' (first|refine zr ?_|refine z21 ?_ c|fail)
  all_goals exact bh rfl rfl
def sB (p:R3):Fn 52 [gy p] (λx=>x=.i (dn db p)):=by
 refine J2 func52 ?_;intro O A B C;have E:(p.F0.map aq).length=p.F0.length:=Aa _;have F:(p.Z0.map qn).length=p.Z0.length:=Aa _;have G:(p.M0.map dq).length=p.M0.length:=Aa _;refine ig 0 0 rfl rfl<|λI=>?_;refine ig 0 1 rfl rfl<|λJ=>?_;refine ig 0 2 rfl rfl<|λM=>?_;unfold dn;by_cases m:10<p.F0.length∨12<p.M0.length
 ·rw [if_pos m];repeat' (first|refine zr ?_|(refine zm ?_ ?_<;>intro a)|fail)
  all_goals first
   | omega
   | exact bh rfl rfl
 ·rw [if_neg m];by_cases n:p.Z0.length≠p.F0.length
  ·rw [if_pos n];repeat' (first|refine zr ?_|(refine zm ?_ ?_<;>intro a)|fail)
   all_goals first
    | omega
    | exact bh rfl rfl
  ·rw [if_neg n];generalize b:(if k7 (s0 db p) 0 p.Z0.length≠0 then k7 (s0 db p) 0 p.Z0.length else bp (pu p.F0) p.M0)=d;repeat' (first|refine zr ?_|(refine zm ?_ ?_<;>intro a)|omega)
   refine ae (ι:=Nat) (λi=>⟨1,[(1,.loc 0 0),(2,.i 0),(3,.i i)],[(0,sJ p)]⟩)
    (λi=>i<=p.Z0.length/\k7 (s0 db p) 0 p.Z0.length=k7 (s0 db p) i (p.Z0.length-i)) (λi=>p.Z0.length-i) 0 ⟨Ai _,rfl⟩ (er id) ?_
   rintro i ⟨g1,g2⟩;by_cases o:i<p.Z0.length
   ·have u:p.F0.getD i 0=p.F0[i]'(by omega):=by rw [A4,Ad<|by omega];rfl
    have v:p.Z0.getD i ⟨#[]⟩=p.Z0[i]:=by rw [A4,Ad o];rfl
    rw [Mp o,show s0 db p i=if L5 (p.F0.getD i 0) 0 3=false then 3 else if db (p.Z0.getD i ⟨#[]⟩)=false then 1 else if (p.Z0.take i).any (λs=>decide (s=p.Z0.getD i ⟨#[]⟩)) then 6 else 0 from rfl,u,v] at g2;have f:=wO p.Z0[i];have c:=f7 (p.F0[i]'(by omega)) 0 3;generalize L5 (p.F0[i]'(by omega)) 0 3=w at g2 c;generalize db p.Z0[i]=z at g2 f;have g:∀ e,e≠0->k7 (s0 db p) 0 p.Z0.length=e->e=d:=by
     rintro e he h;rw [<- b,h,if_pos he]
    cases w with
    | false =>
     repeat' (first|refine zr ?_|refine z21 ?_ c|(refine zm ?_ ?_<;>intro a)|fail)
     all_goals first
      | omega
      | exact bh rfl<|g 3 (by decide) g2
    | true =>
     cases z with
     | false =>
      repeat' (first|refine zr ?_|refine z21 ?_ c|refine z21 ?_ f|(refine zm ?_ ?_<;>intro a)|fail)
      all_goals first
       | omega
       | exact bh rfl<|g 1 (by decide) g2
     | true =>
      have Q:(p.Z0.take i).length=i:=by simp;omega
      repeat' (first|refine zs ?_|refine z21 ?_ c|refine z21 ?_ f|(refine zm ?_ ?_<;>intro a)|omega)
      refine ae (ι:=Nat) (λj=>⟨1,[(1,.loc 0 0),(2,.i 0),(3,.i i),(4,.i j)],[(0,sJ p)]⟩)
       (λj=>j<=i/\(p.Z0.take i).any (λs=>decide (s=p.Z0[i]))=((p.Z0.take i).drop j).any (λs=>decide (s=p.Z0[i]))) (λj=>i-j) 0 ⟨Ai _,rfl⟩ (er id) ?_
      rintro j ⟨e1,e2⟩;by_cases q:j<i
      ·rw [An (by omega),List.any_cons,List.getElem_take] at e2;repeat' (first|refine zr ?_|(refine zm ?_ ?_<;>intro a)|omega)
       ·have l:p.Z0[j]'(by omega)=p.Z0[i]:=by assumption
        rw [decide_eq_true l,Bool.true_or] at e2;rw [e2] at g2;exact bh rfl<|g 6 (by decide) g2
       ·have l:¬ p.Z0[j]'(by omega)=p.Z0[i]:=by assumption
        rw [decide_eq_false l,Bool.false_or] at e2;exact⟨j+1,⟨by omega,e2⟩,er id,by show i-(j+1)<i-j;omega⟩
      ·rw [Ar<|by omega] at e2;rw [e2] at g2;repeat' (first|refine zr ?_|(refine zm ?_ ?_<;>intro a)|omega)
       exact⟨i+1,⟨by omega,g2⟩,er id,by show p.Z0.length-(i+1)<p.Z0.length-i;omega⟩
   ·rw [Qx<|by omega] at g2;have b:bp (pu p.F0) p.M0=d:=by rw [<- b,g2,if_neg<|by decide]
    repeat' (first|refine zs ?_|(refine zm ?_ ?_<;>intro a)|omega)
    refine ae (ι:=Nat) (λj=>⟨1,[(1,.loc 0 0),(2,.i 0),(5,.i j)],[(0,sJ p)]⟩)
     (λj=>j<=p.M0.length/\d=bp (pu p.F0) (p.M0.drop j)) (λj=>p.M0.length-j) 0 ⟨Ai _,b.symm⟩ (er id) ?_
    rintro j ⟨e1,e2⟩;by_cases q:j<p.M0.length
    ·rw [gg q] at e2;have r:=oR p p.M0[j];generalize pu p.F0 p.M0[j]=S at r e2;repeat' (first|refine zr ?_|refine z22 ?_ r|(refine zm ?_ ?_<;>intro a)|fail)
     all_goals first
      | omega
      | (refine bh rfl ?_;rw [e2,if_pos<|by assumption];done)
      | exact⟨j+1,⟨by omega,by rw [e2,if_neg<|by assumption]⟩,er id,by show p.M0.length-(j+1)<p.M0.length-j;omega⟩
    ·rw [iu<|by omega] at e2;repeat' (first|refine zr ?_|(refine zm ?_ ?_<;>intro a)|fail)
     all_goals first
      | omega
      | exact bh rfl e2.symm
def HQ (l:List UInt8):(ct (37::l)).1=0:=by rw [gq,if_neg (by unfold gl i4 k5;decide),if_neg (by unfold dc;decide),if_neg (by unfold og;cases l<;>simp),if_neg<|by decide]
def IQ (l:List UInt8):(ct (32::l)).1=0:=by rw [gq,if_neg (by unfold gl i4 k5;decide),if_neg (by unfold dc;decide),if_neg (by unfold og;cases l<;>simp),if_neg<|by decide]
def PU (l:List UInt8):(ct (9::l)).1=0:=by rw [gq,if_neg (by unfold gl i4 k5;decide),if_neg (by unfold dc;decide),if_neg (by unfold og;cases l<;>simp),if_neg<|by decide]
def JQ (l:List UInt8):(ct (10::l)).1=0:=by rw [gq,if_neg (by unfold gl i4 k5;decide),if_neg (by unfold dc;decide),if_neg (by unfold og;cases l<;>simp),if_neg<|by decide]
def Pn {k:Int} {n:Nat} {c:UInt8} (h:fj k n c=0):k≠0:=by intro a;rw [Fk,if_pos a] at h;cases h
def KP (s:ByteArray) (i:Nat) (h:i<s.size):s.data.toList.drop i=s[i]::s.data.toList.drop (i+1):=by rw [An<|by simpa using h];rfl
def qT (s:ByteArray) (i n:Nat):(s.extract i (i+n)).data.toList=(s.data.toList.drop i).take n:=by simp [ByteArray.data_extract,Array.toList_extract,List.extract_eq_take_drop]
def bytes_inj {a b:ByteArray} (h:a.data.toList=b.data.toList):a=b:=ByteArray.ext<|Array.ext' h
def bR (s:ByteArray) (i:Nat) (k:Int) (n:Nat) (h:i<s.size) (a:ct (s.data.toList.drop i)=(k,n)) (d:fj k n s[i]=0) :
  cy s false i=(cy s false (i+n)).map (Zz.mk k i (s.extract i (i+n))::·):=by
 have f:=Pn d;have g:=KP s i h;have b:∀ c:UInt8,(∀ l,(ct (c::l)).1=0)->s[i]≠c:=by
  intro c j e;rw [g,e] at a;have:=j<|s.data.toList.drop<|i+1
  rw [a] at this;exact f this
 have m:=b 37 HQ;have o:=b 32 IQ;have p:=b 9 PU;have q:=b 10 JQ;have:=Ut s i h (by simpa using m) (by simp [o,p,q])<|by rw [a];exact d
 rw [a] at this;exact this
def EC (s:ByteArray):Nat->List Zz->Prop
 | _,[]=>True
 | i,t::l=>∃ j,i<=j/\t.at_=j/\(∃ h:j<s.size,ct (s.data.toList.drop j)=(t.R0,t.text.size)/\fj t.R0 t.text.size s[j]=0)/\j+t.text.size<=s.size/\t.text=s.extract j (j+t.text.size)/\EC s (j+t.text.size) l
def EC.mono {s:ByteArray} {i a:Nat} {l:List Zz} (h:EC s a l) (hi:i<=a):EC s i l:=by
 cases l with
 | nil=>trivial
 | cons t l =>
  obtain⟨j,b,c⟩:=h;exact⟨j,Aw hi b,c⟩
def dD (s:ByteArray):∀ (f:Nat) (b:Bool) (i:Nat) (l:List Zz),i5 s f b i=.ok l->EC s i l:=by
 intro f;induction f with
 | zero =>
  intro b i l h;simp only [i5] at h;cases h;trivial
 | succ f ih =>
  intro b i l h;simp only [i5] at h;by_cases c:i<s.size
  ·rw [dif_pos c] at h;split at h
   ·exact (ih _ _ _ h).mono<|by omega
   ·split at h
    ·exact (ih _ _ _ h).mono<|by omega
    ·split at h
     ·rename_i g;cases d:i5 s f false (i+(ct<|s.data.toList.drop i).2) with
      | error e=>rw [d] at h;cases h
      | ok m =>
       rw [d] at h;cases h;have j:=bF<|s.data.toList.drop i;rw [List.length_drop,show s.data.toList.length=s.size from A5] at j;have a:(s.extract i<|i+(ct<|s.data.toList.drop i).2).size=(ct<|s.data.toList.drop i).2:=by rw [ByteArray.size_extract];omega
       exact⟨i,Af _,rfl,⟨c,by rw [a],by rw [a];exact g⟩,by rw [a];omega,by rw [a],by rw [a];exact ih _ _ _ d⟩
     ·cases h
  ·rw [dif_neg c] at h;cases h;trivial
def SI (s:ByteArray):∀ (f:Nat) (a:Bool) (i:Nat) (p e:Int),i5 s f a i=.error (p,e)->e≠0:=by
 intro f;induction f with
 | zero =>
  intro a i p e h;simp only [i5] at h;cases h
 | succ f ih =>
  intro a i p e h;simp only [i5] at h;by_cases c:i<s.size
  ·rw [dif_pos c] at h;split at h
   ·exact ih _ _ _ _ h
   ·split at h
    ·exact ih _ _ _ _ h
    ·split at h
     ·cases b:i5 s f false (i+(ct<|s.data.toList.drop i).2) with
      | error g=>rw [b] at h;cases h;exact ih _ _ _ _ b
      | ok j=>rw [b] at h;cases h
     ·rename_i d;injection h with h
      injection h with h1 h2
      rw [<- h2];exact d
  ·rw [dif_neg c] at h;cases h
def yF (s:ByteArray) (l:List Zz) (p:Int) (h:za s=(l,p,0)):EC s 0 l/\s.size<=5000/\p=0:=by
 unfold za at h;split at h
 ·injection h with h1 h2;injection h2 with h2 b;cases b
 ·rename_i c;split at h
  ·rename_i d a;injection h with h1 h2
   injection h2 with h2 b
   subst h1;unfold cy at a;exact⟨dD _ _ _ _ _ a,by omega,h2.symm⟩
  ·rename_i f e a;injection h with h1 h2
   injection h2 with h2 b
   subst h1;unfold cy at a;exact absurd b<|SI _ _ _ _ _ _ a
def TS (b:Int) (s:ByteArray):To b s=true↔∃ h:0<s.size,s.size<=5000/\ct s.data.toList=(b,s.size)/\fj b s.size s[0]=0:=by
 unfold To;by_cases h:0<s.size
 ·rw [dif_pos h];simp only [Ae,decide_eq_true_eq];constructor
  ·rintro⟨⟨⟨⟨c,d⟩,a⟩,f⟩,g⟩;exact⟨h,c,Prod.ext a f,g⟩
  ·rintro⟨_,c,d,a⟩;exact⟨⟨⟨⟨c,Pn a⟩,by rw [d]⟩,by rw [d]⟩,a⟩
 ·rw [dif_neg h];exact⟨λe=>absurd e Bool.false_ne_true,fun⟨e,_⟩=>absurd e h⟩
def IV (a:Int) (s:ByteArray):yJ a s=To a s:=by
 rw [Bool.eq_iff_iff,TS];constructor
 ·intro h;unfold yJ at h;split at h
  ·rename_i t p e i;simp only [Ae,decide_eq_true_eq] at h;obtain⟨g,b,c⟩:=h;subst g;obtain⟨⟨j,r,u,⟨l,d,f⟩,m,v,_⟩,n,_⟩:=yF s [t] p i;rw [c] at d f m;have o:j=0:=by omega
   subst o;rw [b] at d f;exact⟨l,n,d,f⟩
  ·cases h
 ·rintro⟨h,g,b,c⟩;have:=bR s 0 a s.size h b c
  rw [xk s false (0+s.size)<|by omega] at this;have q:s.extract 0 (0+s.size)=s:=bytes_inj (by rw [qT,List.drop_zero];exact Aj<|Nat.le_of_eq<|A5 (xs:=s.data));rw [q] at this;unfold yJ;rw [xF s (by omega) _ this];simp
end
section
open Go Go.RowKit
variable [Y0]
def PV:T9=db:=by funext s;unfold T9 db;rw [IV]
def cB (p:R3):Fn 121 [gy p] (λx=>x=.i (dn db p)):=PV▸cU p
def tg (a:List Int) (l:List U0):Int:=if 60<l.length then 2 else bp (gm a) l
attribute [local irreducible] DW DS DL DQ Ev X1 I3 du bl DT
def FN (n:Int):Fn 182 [.i n] (λr=>r=.b (!Q3 n)):=by
 refine J2 func182 ?_;intro O a c d;repeat' (first|refine zr ?_|refine z31 ?_ (hc:=by apply sq)|fail)
 exact⟨.inl rfl,_,rfl,rfl,rfl⟩
def TB (p:R3) (x:U0):Fn 139 [gy p,jt x] (λr=>r=.i (gm p.F0 x)):=by
 refine J2 func139 ?_;intro O a o q;have j:(p.F0.map aq).length=p.F0.length:=Aa _;have s:(x.args.map aq).length=x.args.length:=Aa _;refine ig 0 0 rfl rfl λu=>?_
 have c:=tp (caps:=[]) (f:=182) (λn=>!Q3 n) x.args rfl<|λn _=>FN n;have a:Fn 181 [.i x.N0,.i 0,.i (((p.F0.map aq).length:Int)-1)] (λr=>r=.b (L5 x.N0 0<|(p.F0.length:Int)-1)):=by rw [j];exact gr _ _ _
 unfold gm;cases d:L5 x.N0 0 ((p.F0.length:Int)-1) with
 | false =>
  rw [d] at a;rw [if_pos rfl];repeat' (first|refine zr ?_|refine z21 ?_ a|omega)
  exact⟨.inl rfl,_,rfl,rfl,rfl⟩
 | true =>
  rw [d] at a;rw [if_neg<|by simp];have v:0<=x.N0/\x.N0<p.F0.length:=by unfold L5 at d;simp at d;omega
  have l:x.N0.toNat<p.F0.length:=by omega
  have m:p.F0.getD x.N0.toNat 0=p.F0[x.N0.toNat]:=by rw [A4,Ad l];rfl
  rw [m];by_cases e:(x.args.length:Int)≠p.F0[x.N0.toNat]
  ·rw [if_pos e];repeat' (first|refine zr ?_|refine z21 ?_ a|(refine zm ?_ ?_<;>intro g)|omega)
   exact⟨.inl rfl,_,rfl,rfl,rfl⟩
  ·rw [if_neg e];cases h:x.args.any (λn=>!Q3 n) with
   | true =>
    rw [h] at c;repeat' (first|refine zr ?_|refine z21 ?_ a|refine z21 ?_ c|(refine zm ?_ ?_<;>intro g)|omega)
    exact⟨.inl rfl,_,rfl,rfl,rfl⟩
   | false =>
    rw [h] at c;repeat' (first|refine zr ?_|refine z21 ?_ a|refine z21 ?_ c|(refine zm ?_ ?_<;>intro g)|omega)
    exact⟨.inl rfl,_,rfl,rfl,rfl⟩
def Lj (p:R3) (x:U0):Fn 120 [gy p,jt x] (λr=>r=.i (gm p.F0 x)):=by
 refine J2 func120 ?_;intro O c A B;have o:(p.F0.map aq).length=p.F0.length:=Aa _;have C:(x.args.map aq).length=x.args.length:=Aa _;refine ig 0 0 rfl rfl λE=>?_
 refine ig 1 1 rfl rfl λF=>?_
 have c:Fn 80 [.i x.N0,.i 0,.i (((p.F0.map aq).length:Int)-1)] (λr=>r=.b (L5 x.N0 0<|(p.F0.length:Int)-1)):=by rw [o];exact uf _ _ _
 unfold gm;cases d:L5 x.N0 0 ((p.F0.length:Int)-1) with
 | false =>
  rw [d] at c;rw [if_pos rfl];repeat' (first|refine zr ?_|refine z21 ?_ c|omega)
  exact⟨.inl rfl,_,rfl,rfl,rfl⟩
 | true =>
  rw [d] at c;rw [if_neg<|by simp];have G:0<=x.N0/\x.N0<p.F0.length:=by unfold L5 at d;simp at d;omega
  have q:x.N0.toNat<p.F0.length:=by omega
  have u:p.F0.getD x.N0.toNat 0=p.F0[x.N0.toNat]:=by rw [A4,Ad q];rfl
  rw [u];by_cases l:(x.args.length:Int)≠p.F0[x.N0.toNat]
  ·rw [if_pos l];repeat' (first|refine zr ?_|refine z21 ?_ c|(refine zm ?_ ?_<;>intro e)|omega)
   exact⟨.inl rfl,_,rfl,rfl,rfl⟩
  ·rw [if_neg l];repeat' (first|refine zr ?_|refine z21 ?_ c|(refine zm ?_ ?_<;>intro e)|omega)
   refine ae (ι:=Nat) (λi=>⟨2,[(3,.loc 1 0),(5,.i i)],[(1,.M1 95 [.i x.N0,.s 1<|x.args.map aq])]⟩)
    (λi=>i<=x.args.length/\∀ j (_:j<x.args.length),j<i->Q3 x.args[j]=true) (λi=>x.args.length-i) 0 ⟨Ai _,λ_ _ h=>by omega⟩ (er id) ?_
   rintro i ⟨g1,g2⟩;dsimp only at g1 g2 ⊢;by_cases m:i<x.args.length
   ·have f:=ml x.args[i];cases a:Q3 x.args[i] with
    | false =>
     rw [a] at f;rw [if_pos (List.any_eq_true.2 ⟨_,Ah m,by rw [a];rfl⟩)];repeat' (first|refine zr ?_|refine z21 ?_ f|(refine zm ?_ ?_<;>intro e)|omega)
     all_goals exact⟨.inl rfl,_,rfl,rfl,rfl⟩
    | true =>
     rw [a] at f;repeat' (first|refine zr ?_|refine z21 ?_ f|(refine zm ?_ ?_<;>intro e)|omega)
     exact⟨i+1,⟨m,λj g I=>by
      by_cases v:j=i
      ·subst v;exact a
      ·exact g2 j g<|by omega⟩,er id,by omega⟩
   ·have w:¬ x.args.any (λn=>!Q3 n)=true:=by
     rw [List.any_eq_true];rintro⟨n,z,a⟩;obtain⟨j,g,rfl⟩:=List.mem_iff_getElem.1 z;rw [g2 j g<|by omega] at a;cases a
    rw [if_neg w];repeat' (first|refine zr ?_|(refine zm ?_ ?_<;>intro e)|omega)
    all_goals exact⟨.inl rfl,_,rfl,rfl,rfl⟩
def FA (p:R3) (l:List U0):Fn 99 [gy p,.s 2 (l.map aa)] (λr=>r=.i (tg p.F0 l)):=by
 refine J2 func99 ?_;intro O f g h;have j:(l.map aa).length=l.length:=Aa _;unfold tg;by_cases b:60<l.length
 ·rw [if_pos b];repeat' (first|refine zr ?_|(refine zm ?_ ?_<;>intro a)|omega)
  all_goals exact⟨.inl rfl,_,rfl,rfl,rfl⟩
 ·rw [if_neg b];repeat' (first|refine zr ?_|(refine zm ?_ ?_<;>intro a)|omega)
  refine ae (ι:=Nat) (λi=>⟨1,[(1,.s 2<|l.map aa),(2,.loc 0 0),(5,.i i)],[(0,.M1 26 [.s 1 (p.F0.map aq),.s 1 (p.Z0.map qn),.s 5<|p.M0.map dq])]⟩)
   (λi=>i<=l.length/\bp (gm p.F0) l=bp (gm p.F0) (l.drop i)) (λi=>l.length-i) 0 ⟨Ai _,rfl⟩ (er id) ?_
  rintro i ⟨g1,g2⟩;dsimp only at g1 g2 ⊢;by_cases c:i<l.length
  ·rw [gg c] at g2;have d:=Lj p l[i];by_cases e:gm p.F0 l[i]≠0
   ·rw [if_pos e] at g2;rw [g2];repeat' (first|refine zr ?_|refine z22 ?_ d|(refine zm ?_ ?_<;>intro a)|omega)
    all_goals exact⟨.inl rfl,_,rfl,rfl,rfl⟩
   ·rw [if_neg e] at g2;repeat' (first|refine zr ?_|refine z22 ?_ d|(refine zm ?_ ?_<;>intro a)|omega)
    exact⟨i+1,⟨c,g2⟩,er id,by omega⟩
  ·rw [iu<|by omega] at g2;rw [g2];repeat' (first|refine zr ?_|(refine zm ?_ ?_<;>intro a)|omega)
   all_goals exact⟨.inl rfl,_,rfl,rfl,rfl⟩
def RS (l:List U0) (g:FuncId) (caps:List SV) (pr:U0->Bool) (e:SV.U1 0 caps=true) (G:l.length<=4398046511104) (w:∀ x∈l,x.args.length<=17592186044416) (f:∀ x∈l,Fn g ([jt x]++caps) (λr=>r=.b (pr x))) :
  Fn 145 [.s 2 (l.map aa),.fn g caps] (λr=>∃ s:List U0,s.Perm (l.filter pr)/\s.Pairwise (λa b=>dg b a ≥ 0)/\r=.d (.own Y0.B (.slice 2 ((Kj s).map aa)))):=by
 refine J2 func145 ?_;intro O I J M;have z:(l.map aa).length=l.length:=Aa _;have p:∀ k,SV.U1 k caps=true:=λk=>SV.W7 k caps e
 repeat' ((fail_if_success (apply AM 0));(first|refine zs ?_|fail))
 refine ag (ce (t:=5) 95 2 rfl) ?_;repeat' fail
 refine ae (ι:=Nat×List U0) (λx=>⟨1,[(1,.fn g caps),(5,.row 0),(8,.s 2<|l.map aa),(9,.i l.length),(10,.i x.1)],[(0,.row 95 2<|x.2.map iy)]⟩)
  (λx=>x.1<=l.length/\x.2=(l.take x.1).filter pr) (λx=>l.length-x.1) (0,[]) ⟨Ai _,rfl⟩ (bk id ⟨(SV.eJ _).symm,rfl,rfl,by rw [<- z];rfl,rfl,trivial⟩ ⟨rfl,trivial⟩ (by simp [Sl.low,SV.low,p]) rfl rfl rfl rfl rfl) ?_
 rintro⟨i,o⟩ ⟨A,c⟩;dsimp only at A c ⊢;have lo:(o.map iy).length=o.length:=Aa _;have Q:o.length<=i:=by rw [c];have:=List.length_filter_le pr<|l.take i;rw [List.length_take] at this;omega
 by_cases q:i<l.length
 ·have u:=Ah q;have h:=f _ u;have C:=ML l[i]<|w _ u;have S:SV.U1 0 ([jt l[i]]++caps)=true:=by simp [SV.U1,SV.low,e]
  have m:(l.take<|i+1).filter pr=o++(if pr l[i] then [l[i]] else []):=by
   rw [Am q,List.filter_append,<- c];congr 1;simp [List.filter_cons]
  cases n:pr l[i] with
  | true =>
   rw [n] at h;rw [n,if_pos rfl] at m;repeat' (first|refine zs ?_|(apply mi;(iterate 4 exact rfl);apply h;exact rfl;(assumption);exact rfl;rintro _ rfl)|refine z21 ?_ C|(refine zm ?_ ?_<;>intro f)|omega)
   exact⟨(i+1,o++[l[i]]),⟨by dsimp only;omega,m.symm⟩,bk (λj=>match j with|0=>2|j=>j) ⟨(SV.Ou _ (.fn g caps) e).symm,rfl,rfl,rfl,rfl,trivial⟩ ⟨by rw [Au];rfl,trivial⟩ (by simp [Sl.low,SV.low,p]) rfl rfl rfl rfl rfl,by show l.length-(i+1)<l.length-i;omega⟩
  | false =>
   rw [n] at h;rw [n,if_neg (by simp),Bn] at m;repeat' (first|refine zs ?_|(apply mi;(iterate 4 exact rfl);apply h;exact rfl;(assumption);exact rfl;rintro _ rfl)|(refine zm ?_ ?_<;>intro f)|omega)
   exact⟨(i+1,o),⟨by dsimp only;omega,m.symm⟩,bk id ⟨(SV.Ou _ (.fn g caps) e).symm,rfl,rfl,rfl,rfl,trivial⟩ ⟨rfl,trivial⟩ (by simp [Sl.low,SV.low,p]) rfl rfl rfl rfl rfl,by show l.length-(i+1)<l.length-i;omega⟩
 ·rw [Aj<|by omega] at c;repeat' (first|refine zs ?_|(refine zm ?_ ?_<;>intro f)|omega)
  refine FM VC o (by kernel_rfl) rfl rfl rfl rfl rfl rfl (by omega) ?_;intro s v E;have F:s.length<=4398046511104:=by rw [v.length_eq];omega
  refine dm (bk (k':=1) (L':=[(5,.row 0)]) (H':=[(0,.row 95 2<|s.map iy)]) id ⟨rfl,trivial⟩ ⟨rfl,trivial⟩ rfl rfl rfl rfl rfl rfl) ?_;refine zS ?_;all_goals try omega
  (refine aw id (aI s F) rfl rfl rfl rfl ⟨rfl,trivial⟩ rfl rfl rfl rfl rfl rfl ?_ ?_)
  ·rintro k2 r H2 ⟨rfl,rfl⟩;exact⟨rfl,rfl⟩
  rintro k2 r H2 ⟨rfl,rfl⟩;change DS _ _ _ _ _ _ _ _;refine zR ?_;exact⟨.inl rfl,_,rfl,rfl,s,c▸v,E,rfl⟩
end
section
open Go Go.RowKit
variable [Y0]
def LZ (P:Program) (m:FuncId) (caps:List SV) (xs:List (List SV)):Prop:=
 eu P m=true /\
 ∀ (X:Nat->Prop) (e:Env) (c:World) (n:List Value) (l:Nat) (J:Nat->World->Prop) (d:World->Prop),
  (∀ b,X b->b<c.heap.size)->S7 P (λ_=>False) c->O0 X e c caps n->J 0 c ->
  (∀ i W,J i W->c.heap.size<=W.heap.size/\∀ b,b<c.heap.size->¬ X b->W.heap[b]?=c.heap[b]?) ->
  (∀ i W a,J i W->Below W.heap.size W a->J i a)->(∀ W a,d W->Below W.heap.size W a->d a)->(∀ W,d W->c.heap.size<=W.heap.size) ->
  (∀ (i:Nat) (h:i<xs.length) f W j,J i f->Below f.heap.size f W->(∃ o,O0 (λb=>b<f.heap.size/\(X b∨c.heap.size<=b)) o W (xs[i]) j) ->
   ∃ r:Loop,W.heap[l]?=some (Obj.loop r)/\j.toArray.size=r.params.size /\
    RoundIn Fence.wide 0 P l r.fn ((r.params.zip j.toArray).foldl (λt (p,v)=>t.setIfInBounds p v) r.tmps) r.assign r.body W
     (λg a=>(g=.returned (.bool true)/\J (i+1) a)∨(g=.returned (.bool false)/\d a))) ->
  Calls P m (#[.func (.yield l) #[] #[]]++n.toArray) c (λg a=>(∃ v,g=.returned v)/\(J xs.length a∨d a))
def Heap.kJ {Γ:Ctx} {k:Nat->Prop} {H:Hp} {e:Env} {w a:World} (h:Heap Γ k H e w) (c:w.heap.size<=a.heap.size) (d:U2 w a) {n J:Nat} {rd vB mk} (f:∀ j,j<J->k j) :
  Heap ⟨Γ.P,Γ.τ,Γ.τok,Γ.O,a,λb=>b∈ah e H,n,J,e.an,rd,vB,mk,false⟩ k H e a where
 top:=h.top
 heap p hp:=⟨(h.heap p hp).1,I4.V3 c d p (h.heap p hp).2⟩
 ids:=h.ids
 nodup:=h.nodup
 M3 b hb:=⟨.inl hb,(h.M3 b hb).2⟩
 os:=rfl
 tape:=rfl
 output:=rfl
 drawn h:=nomatch h
 size:=Af _
 block _ _ _:=rfl
 T1 b hb:=⟨As (h.T1 b hb).1 (Aw h.size c),λg=>(h.M3 b g).2 hb⟩
 S4:=h.U6.grow c
 L8:=f
 anchor _ _:=rfl
def Heap.FK {Γ:Ctx} [P7 Γ] {k f:Nat->Prop} {H g:Hp} {e i:Env} {w wb l:World} {E:Nat->Prop} {n J:Nat} {rd vB mk} (h:Heap Γ k H e w) (c:w.heap.size<=wb.heap.size) (p:wb.os=w.os) (q:wb.tape=w.tape) (r:wb.output=w.output)
  (hb:∀ b,b<Γ.w0.heap.size->¬ Γ.E0 b->wb.heap[b]?=w.heap[b]?)
  (a:Heap ⟨Γ.P,Γ.τ,Γ.τok,Γ.O,wb,E,n,J,e.an,rd,vB,mk,false⟩ f g i l) (m:∀ b,E b->Γ.E0 b∨Γ.w0.heap.size<=b) (o:Γ.J<=J):Heap Γ f g i l where
 top:=a.top
 heap:=a.heap
 ids:=a.ids
 nodup:=a.nodup
 M3 b hb2:=⟨(a.M3 b hb2).1.elim (m b) λd=>.inr (Aw h.size<|Aw c d),(a.M3 b hb2).2⟩
 os:=a.os.trans<|p.trans h.os
 tape:=a.tape.trans<|q.trans h.tape
 output:=a.output.trans<|r.trans h.output
 drawn:=P7.any
 size:=Aw h.size<|Aw c a.size
 block b h3 h4:=(a.block b (As h3<|Aw h.size c) λd=>(m b d).elim h4 λu=>by omega).trans<|(hb b h3 h4).trans<|h.block b h3 h4
 T1:=h.T1
 S4:=h.S4
 L8 j hj:=a.L8 j<|As hj o
 anchor j hj:=(a.anchor j<|As hj o).trans<|h.anchor j hj
mutual
def SV.Zp:SV->Bool
 | .row _=>false
 | .P3 _ _ _ _=>false
 | .R5 _ _ _ _=>false
 | .rg _ _ _=>true
 | .fn _ b=>SV.UA b
 | .agg a=>SV.UA a
 | .M2 a=>SV.UA a
 | .V1=>true
 | .d _=>true
 | .Q1=>true
 | .pd _=>true
 | .loc _ _=>true
 | .mp _=>true
 | .md _ _=>true
 | .sl _ _ _ _=>true
 | .val _=>true
def SV.UA:List SV->Bool
 | []=>true
 | s::a=>SV.Zp s&&SV.UA a
end
mutual
def Rel.Zp {X:Nat->Prop} {e e':Env} {w:World} (h:∀ i,e.U4 i->e'.U4 i/\e'.β i=e.β i):∀ (s:SV) (v:Value),s.Zp=true->Rel X e w s v->Rel X e' w s v
 | .V1,_,_,_=>trivial
 | .d _,_,_,h=>h
 | .Q1,_,_,h=>h
 | .pd _,_,_,h=>h
 | .loc i _,_,_,⟨a,b⟩=>⟨(h i a).1,by rw [(h i a).2];exact b⟩
 | .mp i,_,_,⟨a,b⟩=>⟨(h i a).1,by rw [(h i a).2];exact b⟩
 | .md _ _,_,_,h=>h
 | .sl i _ _ _,_,_,⟨a,b⟩=>⟨(h i a).1,by rw [(h i a).2];exact b⟩
 | .row _,_,c,_=>nomatch c
 | .P3 _ _ _ _,_,c,_=>nomatch c
 | .R5 _ _ _ _,_,c,_=>nomatch c
 | .rg _ _ _,_,_,h=>h
 | .fn _ j,_,c,⟨f,a,b⟩=>⟨f,a,O0.Zp h j f c b⟩
 | .agg g,_,c,⟨f,a,b⟩=>⟨f,a,O0.Zp h g f c b⟩
 | .M2 g,_,c,⟨f,a,b⟩=>⟨f,a,O0.Zp h g f c b⟩
 | .val _,_,_,h=>h
def O0.Zp {X:Nat->Prop} {e e':Env} {w:World} (h:∀ i,e.U4 i->e'.U4 i/\e'.β i=e.β i):∀ (ss:List SV) (vs:List Value),SV.UA ss=true->O0 X e w ss vs->O0 X e' w ss vs
 | [],[],_,_=>trivial
 | [],_::_,_,h=>h.elim
 | _::_,[],_,h=>h.elim
 | s::ss,v::vs,a,b=>by
  simp only [SV.UA,Ae] at a
  exact⟨Rel.Zp h s v a.1 b.1,O0.Zp h ss vs a.2 b.2⟩
end
def iM (L:Sl):Sl->Bool
 | []=>true
 | (_,s)::r=>s.Zp&&iM L r
def Ge (L:Sl):Sl->Prop
 | []=>True
 | (t,s)::r=>Sl.get L t=s/\Ge L r
def SG {L:Sl}:∀ (L':Sl),Ge L L'->iM L L'=true->∀ t,L'.get t=.V1∨(L'.get t=L.get t/\(L.get t).Zp=true)
 | [],_,_,_=>.inl rfl
 | (d,s)::r,⟨b,c⟩,a,t=>by
  simp only [iM,Ae] at a
  rw [Sl.C1]
  split
  ·rename_i e;subst e;exact .inr ⟨b.symm,b.symm▸a.1⟩
  ·exact SG r c a.2 t
def params:List Nat->List SV->Sl->Sl
 | p::a,s::b,L=>params a b ((p,s)::L)
 | _,_,L=>L
def Jo {X e w}:∀ (ps:List Nat) (ss:List SV) (vs:List Value) (L:Sl) (a:Array Value),ps.length=ss.length->(∀ p∈ps,p<a.size)->O0 X e w ss vs->(∀ t,Rel X e w (L.get t) (a.getD t undef)) ->
  ∀ t,Rel X e w ((params ps ss L).get t) (((ps.zip vs).foldl (λt (q:Nat×Value)=>t.setIfInBounds q.1 q.2) a).getD t undef)
 | [],[],[],L,a,_,_,_,h,t=>h t
 | [],_::_,_,_,_,b,_,_,_,_=>by simp at b
 | _::_,[],_,_,_,b,_,_,_,_=>by simp at b
 | _,[],_::_,_,_,_,_,c,_,_=>c.elim
 | _,_::_,[],_,_,_,_,c,_,_=>c.elim
 | p::ps,s::ss,v::vs,L,a,b,d,⟨f,g⟩,h,t=>by
  refine Jo ps ss vs ((p,s)::L) (a.setIfInBounds p v) (by simpa using b) (λq i=>by rw [Array.size_setIfInBounds];exact d q (List.mem_cons_of_mem _ i)) g (λt=>?_) t
  have:=d p (Ac ..)
  rw [Sl.C1]
  simp only [Da,Array.getElem?_setIfInBounds]
  split
  ·rename_i j;subst j;simp;exact f
  ·have:=h t;rwa [Da] at this
def Kx:∀ (l:List (Nat×Value)) (a:Array Value),(l.foldl (λt (q:Nat×Value)=>t.setIfInBounds q.1 q.2) a).size=a.size
 | [],_=>rfl
 | q::l,a=>by rw [List.foldl_cons,Kx l];simp
def LX {ι:Type} (Γ:Ctx) (next:ι->Prop) (I:ι->Nat×Hp) (Ls:Sl) (Q:ey):ey:=λc k L H=>match c with
 | .normal=>∃ y,next y/\X7 Γ k L H (I y).1 [] (I y).2
 | .ret=>∃ a b,X7 Γ k L H a [] b/\Q .ret a Ls b
 | _=>False
def Heap.V6 {Γ:Ctx} {k:Nat->Prop} {H:Hp} {e:Env} {w:World} {l:Nat} (h:Heap Γ k H e w) (d:¬ Γ.O l) (f:Y0.B<=l):Heap ⟨Γ.P,Γ.τ,Γ.τok,Γ.O,Γ.w0,λb=>Γ.E0 b∨b=l,Γ.n,Γ.J,Γ.K1,Γ.rd,Γ.vB,Γ.uZ,Γ.dr⟩ k H e w where
 top:=h.top
 heap:=h.heap
 ids:=h.ids
 nodup:=h.nodup
 M3 b a:=⟨(h.M3 b a).1.imp .inl id,(h.M3 b a).2⟩
 os:=h.os
 tape:=h.tape
 output:=h.output
 drawn:=h.drawn
 size:=h.size
 block b h1 h2:=h.block b h1 λh=>h2<|.inl h
 T1 b a:=⟨(h.T1 b a).1,λc=>c.elim (h.T1 b a).2 λc=>d<|c▸a⟩
 S4:=⟨h.S4.1,h.S4.2.1,λb a=>a.elim (h.S4.2.2 b) λg=>g▸f⟩
 L8:=h.L8
 anchor:=h.anchor
def Heap.narrow {Γ:Ctx} {k:Nat->Prop} {H:Hp} {e:Env} {w:World} {l:Nat} (h:Heap ⟨Γ.P,Γ.τ,Γ.τok,Γ.O,Γ.w0,λb=>Γ.E0 b∨b=l,Γ.n,Γ.J,Γ.K1,Γ.rd,Γ.vB,Γ.uZ,Γ.dr⟩ k H e w) (d:l ∉ ah e H) (hb:w.heap[l]?=Γ.w0.heap[l]?):Heap Γ k H e w where
 top:=h.top
 heap:=h.heap
 ids:=h.ids
 nodup:=h.nodup
 M3 b hm:=⟨(h.M3 b hm).1.elim (λa=>a.elim .inl λa=>absurd (a▸hm) d) .inr,(h.M3 b hm).2⟩
 os:=h.os
 tape:=h.tape
 output:=h.output
 drawn:=h.drawn
 size:=h.size
 block b h1 h2:=by
  by_cases c:b=l
  ·subst c;exact hb
  ·exact h.block b h1 λh=>h.elim h2 c
 T1 b hb:=⟨(h.T1 b hb).1,λa=>(h.T1 b hb).2<|.inl a⟩
 S4:=h.S4.sub λ_ a=>.inl a
 L8:=h.L8
 anchor:=h.anchor
def Heap.Of {Γ:Ctx} {k:Nat->Prop} {H:Hp} {e:Env} {w:World} (h:Heap Γ k H e w) {r:Nat} {o:Loop} (b:w.heap[r]?=some (Obj.loop o)):r ∉ ah e H:=by intro c;obtain⟨o,a,d⟩:=h.Lo c;rw [b] at a;cases a;cases d
set_option maxHeartbeats 1000000 in
def ET {P:Program} {τ:List (Nat×TI)} {τok:c8 P τ} {O:Nat->Prop} {w0:World} {E0:Nat->Prop} {N J:Nat} {K1:Nat->Nat×Value} {vB:Pan} {k:Nat} {L:Sl} {H:Hp} {Q:ey}
  {g:Operand} {ps:List Tmp} {assign body:Code} {gf:FuncId} {caps:List SV} (xs:List (List SV)) (hg:aj L g=.fn gf caps) (g4:de g=true) (b4:LZ P gf caps xs)
  (g5:∀ x∈xs,ps.length=x.length/\SV.U1 0 x=true) (g6:∀ p∈ps,p<N) (Ls:Sl) (g7:Ge L Ls) (g8:iM L Ls=true)
  {ι:Type} (I:Nat->ι->Nat×Hp) (pre:Nat->ι->Prop) (x0:ι) (p0:pre 0 x0) (g9:I 0 x0=(k,H))
  (h4:∀ (i:Nat) (hi:i<xs.length) x,pre i x->∀ O' w' E' b0 l,DW ⟨P,τ,τok,O',w',E',N,k,b0,some l,da,false,false⟩ assign (λex G L2 z=>ex=.normal/\∀ O' w' E' b0,DW ⟨P,τ,τok,O',w',E',N,k,b0,some l,da,false,false⟩ body
   (LX ⟨P,τ,τok,O',w',E',N,k,b0,some l,da,false,false⟩ (pre (i+1)) (I (i+1)) Ls Q) G L2 z) (I i x).1 (params ps (xs[i]) Ls) (I i x).2)
  (h5:∀ y,pre xs.length y->Q .normal (I xs.length y).1 Ls (I xs.length y).2) :
  DW ⟨P,τ,τok,O,w0,E0,N,J,K1,none,vB,true,false⟩ (.rangeFunc g ps.toArray assign body) Q k L H:=by
 intro e a W m;obtain⟨h6,b4⟩:=b4;have c3:=m.op g<|cd g4;rw [hg] at c3;obtain⟨lb,h7,h8⟩:=c3;show (Code.rangeFunc g ps.toArray assign body).wpIn Fence.wide 0 P _ a W;refine wpIn_rangeFunc ?_;intro fn _;obtain⟨o,V⟩:∃ o:LoopState->Option Code->Loop,o=λst pe=>{ state:=st,pending:=pe,fn,tmps:=a.tmps,params:=ps.toArray,assign,body,defers:=W.heap.size }:=⟨_,rfl⟩
 obtain⟨s,a5⟩:∃ s,(W.alloc<|.deferred<|some []).alloc (.loop<|o .ready none)=s:=⟨_,rfl⟩;have h9:s.heap[W.heap.size]?=some (Obj.deferred<|some []):=by
  rw [<- a5];exact (Below.heap_alloc _ _ _<|by simp).trans<|World.alloc_heap_new W _
 obtain⟨l,hl⟩:∃ l,l=W.heap.size+1:=⟨_,rfl⟩;have c4:s.heap[l]?=some (Obj.loop<|o .ready none):=by
  rw [<- a5,hl];have:=World.alloc_heap_new (W.alloc<|.deferred<|some [])<|.loop<|o .ready none;rwa [World.size_alloc] at this
 have M:Below W.heap.size W s:=by
  rw [<- a5];exact ((Below.refl _ W).alloc (Af _) _).alloc (by simp) _
 have l3:s.heap.size=W.heap.size+2:=by rw [<- a5];simp
 have i0:U2 W s:=λb b5 _ f=>(M.block b<|cz f).trans f
 refine⟨W.heap.size+1,[{ target:=.collected W.heap.size,args:=#[] }],s,{ target:=.fn (.func gf) lb.toArray,args:=#[.func (.yield<|W.heap.size+1) #[] #[]] },s,gf,
  #[.func (.yield<|W.heap.size+1) #[] #[]]++lb.toArray,s,?_,?_,λ_ _=>trivial,?_,ou (ro:=none),?_⟩
 ·rw [<- a5,V];exact run_enterLoop_outer _ _ _ _ _
 ·simp only [resolve,h7];simp [go_sem]
 ·simp [invoke,go_sem,I9 h6]
 rw [<- hl];refine callsIn_wide.2 ?_;let a0:Ctx:=⟨P,τ,τok,O,s,λb=>b∈ah e H,N,k,e.an,none,vB,true,false⟩
 have c5:Heap a0 k H e s:=m.toHeap.kJ M.size i0<|λa2 hj=>hj;have c6:Y0.B<=l:=by have:=m.toHeap.U6.1;omega
 have e5:¬ O l:=λhO=>by have u:=(m.T1 l hO).1;have E:=m.size;simp only at u E;omega
 let U:Ctx:=⟨P,τ,τok,O,s,λb=>b∈ah e H∨b=l,N,k,e.an,none,vB,true,false⟩
 let b1:Nat->Prop:=λb=>O b∨b∈ah e H
 have i1:∀ b,b1 b->b<W.heap.size:=λb f=>f.elim (λh=>As (m.T1 b h).1 m.size)<|m.lt b
 have i2:l ∉ ah e H:=λh=>by have:=m.lt l h;omega
 have e6:∀ (C:Nat) (A:Hp) (c:Env) (d:World),Heap U C A c d->∀ t,Rel (Ctx.X U c A) c d (Ls.get t) (a.tmps.getD t undef):=by
  intro C A c d h t;rcases SG Ls g7 g8 t with u|⟨u,E⟩
  ·rw [u];trivial
  ·rw [u];have i3:∀ i,e.U4 i->c.U4 i/\c.β i=e.β i:=λi hi=>⟨(h.top i).2 (h.L8 i<|(m.top i).1 hi),Env.pU<|h.anchor i<|(m.top i).1 hi⟩
   refine Rel.N1 (X:=b1) (w:=W) (Aw M.size h.size) (λb f j=>?_) (λb f j=>?_) _ _<|Rel.Zp i3 _ _ E<|m.slot t
   ·have i8:b<s.heap.size:=by omega
    exact (h.block b i8 λn=>n.elim (λn=>j<|.inr n) λn=>by omega).trans<|M.block b f
   ·rcases j with j|j
    ·exact .inl j
    ·rcases (h.M3 b j).1 with q|q
     ·exact q.elim .inr λq=>by omega
     ·have q:s.heap.size<=b:=q;omega
 have j0:∀ (C:Nat) (A:Hp) (c:Env) (d:World),Heap U C A c d->d.heap[l]?=some (Obj.loop<|o .ready none)->Heap a0 C A c d:=λC A c d h S =>
  Heap.narrow (Γ:=a0) (l:=l) h (h.Of S) (S.trans c4.symm)
 have e7:∀ (C:Nat) (A:Hp) (c:Env) (d:World),Heap a0 C A c d->d.heap[l]?=some (Obj.loop<|o .ready none):=λC A c d h =>
  (h.block l (by show l<s.heap.size;omega) i2).trans c4
 have e9:∀ (ex:Exit) (C:Nat) (A:Hp) (c:Env) (d:World) (b5 o':Loop),Heap U C A c d->d.heap[l]?=some (Obj.loop b5)->Q ex C Ls A ->
   ze ⟨P,τ,τok,O,w0,E0,N,J,K1,none,vB,true,false⟩ Q ex { a with defers:=[{ target:=.collected W.heap.size,args:=#[] }]++a.defers } (d.putObj l<|.loop o'):=by
  intro ex C A c d b5 o' h S X;have hk:U2 d (d.putObj l<|.loop o'):=pj S rfl;have j:Heap U C A c (d.putObj l<|.loop o'):=h.V3 (by simp) hk rfl rfl rfl rfl λb _ n=>World.putObj_heap_other λa4=>n<|.inr a4
  refine .inl ⟨C,Ls,A,c,⟨?_,?_,m.len,e6 _ _ _ _ j⟩,X⟩
  ·refine m.toHeap.FK M.size M.os M.tape M.output (λb f _=>M.block b<|As f m.size) (show Heap ⟨P,τ,τok,O,s,λb=>b∈ah e H∨b=l,N,k,e.an,none,vB,true,false⟩ C A c (d.putObj l<|.loop o') from j) (λb f=>?_) ?_
   ·rcases f with f|f
    ·exact (m.M3 b f).1
    ·exact .inr<|by have:=m.size;simp only at this ⊢;omega
   ·rcases Nat.eq_zero_or_pos J with hJ|hJ
    ·simp only;omega
    ·have:=m.L8 (J-1) (by simp only;omega)
     have q:J-1<k:=this;simp only;omega
  ·obtain⟨rs,u,_,E,q⟩:=m.defers;have j1:∀ r,r<W.heap.size->r ∉ ah e H->(d.putObj l<|.loop o').heap[r]?=W.heap[r]?:=λr hr hn =>
    (j.block r (by show r<s.heap.size;omega) λn=>n.elim hn λn=>by omega).trans (M.block r hr)
   refine⟨W.heap.size::rs,?_,λh=>(nomatch h),?_,?_⟩
   ·show [_]++a.defers=_;rw [u];rfl
   ·refine List.nodup_cons.2 ⟨λhm=>?_,E⟩;have:=cz (q _ hm).2
    omega
   ·intro r hr;rcases List.mem_cons.1 hr with rfl|hr
    ·refine⟨m.size,?_⟩
     exact (j.block _ (by show _<s.heap.size;omega) λn=>n.elim (λn=>by have:=m.lt _ n;omega) λn=>by omega).trans h9
    ·refine⟨(q r hr).1,(j1 r (cz (q r hr).2) λho=>m.K8 (q r hr).2 ho).trans (q r hr).2⟩
 have j2:=b4 b1 e s lb l (λi d=>∃ x,pre i x/\∃ c,Heap a0 (I i x).1 (I i x).2 c d)
  (λd=>d.heap[l]?=some (Obj.loop<|o .done<|some .ret)/\∃ G z c,Heap U (lo G) z c d/\Q .ret G Ls z)
  (λb f=>by have:=i1 b f;omega) (c5.S4.sub λ_ h=>h.elim)
  (O0.N1 M.size (λb f _=>M.block b f) (λb f j=>j) _ _ h8)
  ⟨x0,p0,e,by rw [g9];exact c5⟩
  (λi d ⟨x,_,c,h⟩=>⟨h.size,λb f j=>h.block b f λn=>j<|.inr n⟩)
  (λi d j3 ⟨x,hp,c,h⟩ f=>⟨x,hp,c,h.below<|W4.no f⟩)
  (λd j3 ⟨u,G,z,c,E,q⟩ f=>⟨(f.block l<|cz u).trans u,G,z,c,E.below (W4.no f),q⟩)
  (λd ⟨_,_,_,_,h,_⟩=>h.size)
  ?_
 ·refine j2.mono ?_;rintro en W2 ⟨⟨v,rfl⟩,⟨x,hp,c,h⟩|⟨u,G,z,c,E,q⟩⟩
  ·have S:=e7 _ _ _ _ h;refine⟨none,W2.putObj l (.loop<|o .exhausted none),?_,?_⟩
   ·have:=run_endLoop (P:=P) S (by rw [V];simp)
    rw [V] at this ⊢;exact this
   ·exact e9 .normal _ _ _ _ _ _ (Heap.V6 (Γ:=a0) (l:=l) h e5 c6) S<|h5 x hp
  ·refine⟨some .ret,W2.putObj l (.loop<|o .exhausted<|some .ret),?_,?_⟩
   ·have:=run_endLoop (P:=P) u (by rw [V];simp)
    rw [V] at this ⊢;exact this
   ·exact wpIn_ret<|e9 .ret _ _ _ _ _ _ E u q
 ·rintro i hi Wa Wb vs ⟨x,hp,e1,hh1⟩ a4 ⟨c,hvs⟩;have a9:Heap a0 (lo (I i x).1) (I i x).2 e1 Wb:=hh1.below<|W4.no a4;have S:=e7 _ _ _ _ a9;have l4:=O0.length _ _ hvs;obtain⟨j4,j5⟩:=g5 _<|Ah hi;refine⟨o .ready none,S,by rw [V];simp;omega,?_⟩
  rw [V];refine roundIn_of_wpIn trivial ?_;show Code.wpIn (ob<|some l) 0 P assign _ _ _;have k1:∀ a2,a2<k->(lo (I i x).1) a2:=λa2 hj=>a9.L8 a2 hj
  have hA:Heap ⟨P,τ,τok,O,Wb,λb=>b∈ah e1 (I i x).2,N,k,e1.an,some l,da,false,false⟩ (lo (I i x).1) (I i x).2 e1 Wb:=a9.kJ (Af _) (λ_ _ _ h=>h) k1;have b6:Heap U (lo (I i x).1) (I i x).2 e1 Wb:=Heap.V6 (Γ:=a0) (l:=l) a9 e5 c6;have mA:J0 ⟨P,τ,τok,O,Wb,λb=>b∈ah e1 (I i x).2,N,k,e1.an,some l,da,false,false⟩ (lo (I i x).1) (params ps (xs[i]) Ls) (I i x).2 e1
    { tmps:=((ps.toArray.zip vs.toArray).foldl (λt (p,v)=>t.setIfInBounds p v) a.tmps),defers:=[] } Wb:=by
   have hz:(ps.toArray.zip vs.toArray).foldl (λt (p,v)=>t.setIfInBounds p v) a.tmps=(ps.zip vs).foldl (λt (g0:Nat×Value)=>t.setIfInBounds g0.1 g0.2) a.tmps:=by
    rw [List.zip_toArray,List.foldl_toArray]
   refine⟨hA,Marks.nil,?_,?_⟩
   ·show Array.size _=N;rw [hz,Kx];exact m.len
   ·intro t;show Rel _ e1 Wb _ (Array.getD _ t undef);rw [hz];refine Jo ps (xs[i]) vs Ls a.tmps j4 (λp hp=>by rw [m.len];exact g6 p hp) ?_ (e6 _ _ _ _ b6) t;refine O0.N1 (Af _) (λ_ _ _=>rfl) (λb _ j=>?_) _ _<|O0.env _ _ j5 hvs;rcases j with j|j
    ·have u:=(m.T1 b j).1;have E:=m.size;have q:=hh1.size;simp only at u E;have q:s.heap.size<=Wa.heap.size:=q;exact⟨by omega,.inl<|.inl j⟩
    ·have u:=hh1.lt b j;refine⟨u,?_⟩
     rcases (hh1.M3 b j).1 with E|E
     ·exact .inl<|.inr E
     ·exact .inr E
  refine wpIn_mono (h4 i hi x hp O Wb _ e1.an l e1 _ Wb mA) ?_;rintro ex a1 w1 (⟨G,L2,z,F,m2,rfl,hB⟩|⟨_,_,_,_,_,_,n,_⟩);rotate_left
  ·exact n.elim
  have b7:w1.heap[l]?=some (Obj.loop<|o .ready none):=(m2.block l (cz S)<|a9.Of S).trans S;have l0:Heap U (lo G) z F w1:=b6.FK (wb:=Wb) (Af _) rfl rfl rfl (λ_ _ _=>rfl) (show Heap ⟨P,τ,τok,O,Wb,λb=>b∈ah e1 (I i x).2,N,k,e1.an,some l,da,false,false⟩ (lo G) z F w1 from m2.toHeap) (λb f=>(b6.M3 b f).1)<|Af _;refine⟨w1.putObj l (.loop { o .ready none with state:=.busy }),run_beginRound b7 (by rw [V]),?_⟩
  have b2:U2 w1 (w1.putObj l<|.loop { o .ready none with state:=.busy }):=pj b7 rfl;have b3:Heap U (lo G) z F (w1.putObj l<|.loop { o .ready none with state:=.busy }):=l0.V3 (by simp) b2 rfl rfl rfl rfl λb _ n=>World.putObj_heap_other λa4=>n<|.inr a4
  generalize g1:w1.putObj l (.loop { o .ready none with state:=.busy })=Y at b2 b3 ⊢;have g2:w1.heap.size<=Y.heap.size:=by rw [<- g1];simp
  have c0:Y.heap[l]?=some (Obj.loop { o .ready none with state:=.busy }):=by rw [<- g1];exact World.putObj_heap_same<|cz b7
  have l1:Heap ⟨P,τ,τok,O,Y,λb=>b∈ah F z,N,k,F.an,some l,da,false,false⟩ (lo G) z F Y:=m2.toHeap.kJ g2 b2<|λa2 hj=>m2.L8 a2 hj;have mB:J0 ⟨P,τ,τok,O,Y,λb=>b∈ah F z,N,k,F.an,some l,da,false,false⟩ (lo G) L2 z F a1 Y:=by
   refine⟨l1,?_,m2.len,λt=>Rel.V3 g2 b2 _ _<|m2.slot t⟩
   obtain⟨rs,u,h0,_,_⟩:=m2.defers;rw [u,h0 rfl];exact Marks.nil
  show Code.wpIn (ob<|some l) 0 P body _ _ _;refine wpIn_mono (hB _ _ _ _ F a1 Y mB) ?_;have g3:∀ (k3:Nat) (H3:Hp) (e3:Env) (Z:World) (T:Option Code),Heap ⟨P,τ,τok,O,Y,λb=>b∈ah F z,N,k,F.an,some l,da,false,false⟩ k3 H3 e3 Z ->
    (Instr.endRound l T).run P Z=.ok (.bool T.isNone) (Z.putObj l<|.loop<|o (if T.isNone then .ready else .done) T)/\Heap U k3 H3 e3 (Z.putObj l<|.loop<|o (if T.isNone then .ready else .done) T) /\
    (Z.putObj l<|.loop<|o (if T.isNone then .ready else .done) T).heap[l]?=some (Obj.loop<|o (if T.isNone then .ready else .done) T):=by
   intro k3 H3 e3 Z T q;have c1:Z.heap[l]?=some (Obj.loop { o .ready none with state:=.busy }):=(q.block l (cz c0)<|b3.Of c0).trans c0;refine⟨?_,?_,World.putObj_heap_same<|cz c1⟩
   ·have:=run_endRound (P:=P) T c1
    rw [V] at this ⊢;exact this
   ·have l2:Heap U (lo k3) H3 e3 Z:=b3.FK (wb:=Y) (Af _) rfl rfl rfl (λ_ _ _=>rfl) (show Heap ⟨P,τ,τok,O,Y,λb=>b∈ah F z,N,k,F.an,some l,da,false,false⟩ (lo k3) H3 e3 Z from q) (λb f=>(b3.M3 b f).1)<|Af _;exact l2.V3 (by simp) (pj c1 rfl) rfl rfl rfl rfl λb _ n=>World.putObj_heap_other λa4=>n<|.inr a4
  rintro ex a3 Z (⟨k3,L3,H3,e3,m3,X⟩|⟨_,_,_,_,_,_,n,_⟩);rotate_left
  ·exact n.elim
  cases ex with
  | normal =>
   obtain⟨y,hy,c2⟩:=X;obtain⟨e4,m4⟩:=c2 _ _ _ m3;obtain⟨f1,f2,f3⟩:=g3 _ _ _ _ none m4.toHeap;exact⟨_,_,f1,.inl ⟨rfl,y,hy,e4,j0 _ _ _ _ f2 f3⟩⟩
  | ret =>
   obtain⟨k4,H4,c2,X⟩:=X;obtain⟨e4,m4⟩:=c2 _ _ _ m3;obtain⟨f1,f2,f3⟩:=g3 _ _ _ _ (some .ret) m4.toHeap;exact⟨_,_,f1,.inr ⟨rfl,(by rw [show (if (some Code.ret).isNone=true then LoopState.ready else LoopState.done)=LoopState.done from rfl] at f3 ⊢;rw [V] at f3 ⊢;exact f3),k4,H4,e4,f2,X⟩⟩
  | exit id=>exact X.elim
  | goto t=>exact X.elim
  | panic ch=>exact X.elim
  | outgrown=>exact X.elim
end
section
open Go Go.RowKit
variable [Y0]
def SV.flat:SV->Bool
 | .val _=>true
 | .V1=>true
 | .d (.int _ _)=>true
 | .d (.bool _)=>true
 | _=>false
def Rel.flat {X e w X' e' w'}:∀ (s:SV) (v:Value),s.flat=true->Rel X e w s v->Rel X' e' w' s v
 | .val _,_,_,h=>h
 | .V1,_,_,_=>trivial
 | .d (.int _ _),_,_,h=>by
  have a:Q0 _ _ _ _:=h
  cases a with
  | int g=>exact Q0.int g
 | .d (.bool _),_,_,h=>by
  have h:Q0 _ _ _ _:=h
  cases h
  exact Q0.bool
 | .d (.str _),_,h,_=>nomatch h
 | .d (.slice _ _),_,h,_=>nomatch h
 | .Q1,_,h,_=>nomatch h
 | .pd _,_,h,_=>nomatch h
 | .loc _ _,_,h,_=>nomatch h
 | .row _,_,h,_=>nomatch h
 | .mp _,_,h,_=>nomatch h
 | .md _ _,_,h,_=>nomatch h
 | .P3 _ _ _ _,_,h,_=>nomatch h
 | .sl _ _ _ _,_,h,_=>nomatch h
 | .R5 _ _ _ _,_,h,_=>nomatch h
 | .rg _ _ _,_,h,_=>nomatch h
 | .fn _ _,_,h,_=>nomatch h
 | .agg _,_,h,_=>nomatch h
 | .M2 _,_,h,_=>nomatch h
def Jp:Sl->Bool
 | []=>true
 | (_,s)::r=>s.flat&&Jp r
def mH:∀ {L:Sl},Jp L=true->∀ t,(L.get t).flat=true
 | [],_,_=>rfl
 | (d,s)::r,h,t=>by
  simp only [Jp,Ae] at h
  rw [Sl.C1]
  split
  ·exact h.1
  ·exact mH h.2 t
def MB {L:Sl}:∀ {L':Sl},Ge L L'->∀ t,L'.get t=.V1∨L'.get t=L.get t
 | [],_,_=>.inl rfl
 | (d,s)::r,h,t=>by
  rw [Sl.C1]
  split
  ·rename_i a;subst a;exact .inr h.1.symm
  ·exact MB h.2 t
structure Flat (N:Nat) (L:Sl) (a:Act):Prop where
 len:a.tmps.size=N
 defers:a.defers=[]
 slot:∀ t X e w,Rel X e w (L.get t) (a.tmps.getD t undef)
abbrev C8 (P:Program) (τ:List (Nat×TI)) (τok:c8 P τ) (O:Nat->Prop) (W:World) (N:Nat):Ctx:=⟨P,τ,τok,O,W,λ_=>False,N,0,λ_=>(0,undef),none,da,false,false⟩
section
variable {P : Program} {τ : List (Nat×TI)} {τok : c8 P τ} {O : Nat -> Prop} {N : Nat} {L : Sl}
def Flat.sD {a:Act} (h:Flat N L a) (W:World) (c:∀ b,O b->b<W.heap.size) (d:S7 P (λ_=>False) W):J0 (C8 P τ τok O W N) (lo 0) L [] ⟨λ_=>0,λ_=>undef,lo 0⟩ a W where
 top _:=Iff.rfl
 heap _ hp:=nomatch hp
 ids:=.nil
 nodup:=.nil
 M3 _ hb:=nomatch hb
 os:=rfl
 tape:=rfl
 output:=rfl
 drawn h:=nomatch h
 size:=Af _
 block _ _ _:=rfl
 T1 b hb:=⟨c b hb,id⟩
 S4:=d
 L8 _ hj:=nomatch hj
 anchor _ hj:=nomatch hj
 defers:=by rw [h.defers];exact Marks.nil
 len:=h.len
 slot t:=h.slot t _ _ _
def J0.flatten {W:World} {k:Nat->Prop} {H:Hp} {e:Env} {a:Act} {w:World} (m:J0 (C8 P τ τok O W N) k L H e a w) {Ls:Sl} (c:Ge L Ls) (d:Jp Ls=true):Flat N Ls a where
 len:=m.len
 defers:=by
  obtain⟨i,f,g,_⟩:=m.defers;rw [f,g rfl];rfl
 slot t X e' w':=by
  have b:=mH d t;rcases MB c t with h|h
  ·rw [h];trivial
  ·rw [h] at b ⊢;exact Rel.flat _ _ b<|m.slot t
def Heap.J7 {W:World} {k:Nat->Prop} {H:Hp} {e:Env} {w:World} (h:Heap (C8 P τ τok O W N) k H e w):Below W.heap.size W w:=⟨h.os,h.tape,h.output,h.size,λb a=>h.block b a id⟩
end
section
variable {Γ : Ctx} {k : Nat} {L : Sl} {H : Hp} {K : cn} {ops : List Oper} {rest : List Oper} {x y : Operand} {t ty : TypeId}
def tT {op:Op} {s:SV} (b:Sl) (c:∀ e a w,J0 Γ (lo k) L H e a w->J0 Γ (lo k) b H e a w) (h:Ev Γ (lo k) b H op ty s):Ev Γ (lo k) L H op ty s:=λe a w m=>h e a w<|c e a w m
def J0.AQ {e:Env} {a:Act} {w:World} {k:Nat->Prop} (m:J0 Γ k L H e a w) (t:Nat) {v:Value} {s:SV} (c:L.get t=.val v) (d:Rel (Γ.X e H) e w s v):J0 Γ k ((t,s)::L) H e a w where
 toHeap:=m.toHeap
 defers:=m.defers
 len:=m.len
 slot t':=by
  rw [Sl.C1];split
  ·rename_i h;subst h;have b:=m.slot t;rw [c] at b;have b:a.tmps.getD t undef=v:=b;rw [b];exact d
  ·exact m.slot t'
def nP {s:TypeId} {f off u p b o:Nat} {l} (v:Γ.sh s=.struct l) (a:l[f]?=some (off,u,p)) (q:Nat.beq p 0=false) (t:Nat) (z:L.get t=.val (.pointer (some ⟨b,o,none⟩))) :
  Ev Γ (lo k) L H (.fieldAddr s (.tmp t) f) ty (.val (.pointer (some ⟨b,o+off,none⟩))):=by
 obtain⟨r,B,C⟩:=Ctx.struct v;subst C;rw [Bh] at a;cases j:r.toList[f]? with
 | none=>rw [j] at a;cases a
 | some n =>
  rw [j] at a;simp only [Option.map_some,Option.some.injEq,Prod.mk.injEq] at a;obtain⟨d,J,g⟩:=a;have E:r[f]?=some n:=by rw [<- Bt];exact j
  have F:∃ c,Γ.P.info? n.type=some c/\c.size≠0:=by
   cases i:Γ.P.info? n.type with
   | none=>rw [i] at g;exact absurd g.symm<|By q
   | some c=>rw [i] at g;exact⟨c,rfl,λh=>By q<|by rw [<- g,<- h];rfl⟩
  obtain⟨c,i,G⟩:=F;intro e A w m;have I:A.eval (.tmp t)=.pointer (some ⟨b,o,none⟩):=by
   have d:=m.slot t;rw [z] at d;exact d
  refine⟨_,λM pos Q guard S _=>?_,rfl⟩
  simp [execOp,Instr.fieldAt,I,run_underlying B,E,Instr.sureAddr,fieldPlace,c9 i,G,d,Addr.Y3]
def mP {b o:Nat} {u:Value} (t2:Nat) (d:(Γ.sh t).known=true) (f:(Γ.sh t).isAgg=false) (g:L.get t2=.val (.pointer (some ⟨b,o,none⟩))) (hc:Γ.w0.cell? ⟨b,o,none⟩=some u) (h:∀ b,¬ Γ.E0 b) :
  Ev Γ (lo k) L H (.load t (.tmp t2)) ty (.val u):=by
 intro e a w m;have i:=Sh.Y1 d;have j:a.eval (.tmp t2)=.pointer (some ⟨b,o,none⟩):=by
  have c:=m.slot t2;rw [g] at c;exact c
 have l:b<Γ.w0.heap.size:=by
  unfold World.cell? at hc;split at hc
  ·rename_i n;exact cz n
  ·cases hc
 have p:w.cell? ⟨b,o,none⟩=some u:=(World.cell?_of_block (w:=Γ.w0)<|m.block b l<|h b).trans hc;exact⟨u,λ_ _ _ _ r q=>vc i f j (jp q p) _ _ _ _,rfl⟩
def oK {t':TypeId} {b:Option Addr} {n:Nat} {cap:Nat} (t2:Nat) (f:Γ.sh t=.slice t') (g:L.get t2=.val (.slice b n cap)) (h:n<=maxLen):Ev Γ (lo k) L H (.call { callee:=.builtin .len,args:=#[.tmp t2],argTypes:=#[t] }) ty (.d (.int .i64 n)):=by
 intro e a w m;have i:a.eval (.tmp t2)=.slice b n cap:=by
  have c:=m.slot t2;rw [g] at c;exact c
 refine⟨.int .i64 n,λ_ _ _ _ j _=>?_,.int<|WalkArith.wf_i64<|by unfold maxLen at h;omega⟩
 simp [execOp,resolve,invoke,builtin,i,Builtin.len_,goInt,run_underlying<|Ctx.slice f]
end
def Oper.BX {ro:Option Nat} {P:Program} {o:Oper} {a:Act} {w:World} {K f:Act->World->Prop} {Q Q':Exit->Act->World->Prop} (j:∀ c,o.op≠.defer c) (b:∀ a w,K a w->f a w)
  (g:∀ c a w,Q (.panic c) a w->Q' (.panic c) a w) (l:¬ LetsOut Q) (h:o.wp P a w K Q):o.wpIn (ob ro) 0 P a w f Q':=by
 refine⟨λ_ _=>trivial,?_⟩
 rw [Oper.semAt_eq _ _ _ j];unfold Oper.wp at h;generalize (execOp a.eval o).run P w=r at h;cases r with
 | ok x m =>
  cases x<;>simp only [Oper.upon,Oper.uponIn] at h ⊢<;>first
   | exact b _ _ h
   | exact h.elim
   | exact⟨ou,Zd<|h.mono λe i d=>by cases e<;>first|exact b _ _ d|exact g _ _ _ d|exact absurd d l⟩
   | exact⟨ou,λc n _=>let ⟨v,i,r,s⟩:=h c n;⟨v,i,b _ _ r,stepsIn_wide.2 s⟩⟩
 | halt x m=>cases x<;>simp only [Oper.upon,Oper.uponIn] at h ⊢<;>first|exact g _ _ _ h|exact h
def xb {ro:Option Nat} {P:Program} {ops:Array Oper} {Q Q':Exit->Act->World->Prop} (d:∀ c a w,Q (.panic c) a w->Q' (.panic c) a w) (b:¬ LetsOut Q) (post:List Oper)
  (e:∀ a w,Q .normal a w->wpListIn (ob ro) 0 P ops Q' post a w):∀ (l:List Oper),d8 l=true->∀ a w,wpList P ops Q l a w->wpListIn (ob ro) 0 P ops Q' (l++post) a w
 | [],_,a,w,h=>e a w h
 | o::l,f,a,w,h=>by
  have j:=rx f o (Ac ..);have i:d8 l=true:=by simp only [d8,Ae] at f;exact f.2
  unfold wpList at h;show wpListIn (ob ro) 0 P ops Q' (o::(l++post)) a w;unfold wpListIn;split at h
  ·rename_i g;rw [if_pos g];rcases h with h|h
   ·exact Oper.BX j (λa w=>xb d b post e l i a w) d b h
   ·exact absurd h.2 b
  ·rename_i g;rw [if_neg g];exact⟨λ_ _=>trivial,xb d b post e l i _ _ h⟩
def RM (Γ:Ctx) (c:Code) (R:Exit->Act->World->Prop) (k:Nat) (L:Sl) (H:Hp):Prop:=∀ e a w,J0 Γ (lo k) L H e a w->c.wpIn (ob Γ.rd) 0 Γ.P R a w
def mZ (Γ:Ctx) (R:Exit->Act->World->Prop):ey:=λb k L H=>∀ e a w,J0 Γ (lo k) L H e a w->R b a w
section
variable {Γ : Ctx} {k : Nat} {L : Sl} {H : Hp} {R : Exit -> Act -> World -> Prop}
def zY {c:Code} (b:Γ.vB=da) (h:DW Γ c (mZ Γ R) k L H):RM Γ c R k L H:=λe a w m=>wpIn_mono (h e a w m) (by
 rintro ex a' w' (⟨k',L',H',e',m',hq⟩|⟨v,_,_,_,_,_,hv,_⟩)
 ·exact hq _ _ _ m'
 ·rw [b] at hv;exact hv.elim)
def Rr {x y:Code} (b:Γ.vB=da) (h:DW Γ x (du (RM Γ y R) (mZ Γ R)) k L H):RM Γ (.seq x y) R k L H:=λe a w m=>by
 refine wpIn_seq<|wpIn_mono (h e a w m) ?_
 rintro c a' w' (⟨k',L',H',e',m',hq⟩|⟨v,_,_,_,_,_,hv,_⟩)
 ·cases c with
  | normal=>exact hq _ _ _ m'
  | _=>exact hq _ _ _ m'
 ·rw [b] at hv;exact hv.elim
def zM {c:Code} {e:Env} {a:Act} {w:World} (m:J0 Γ (lo k) L H e a w) (h:RM Γ c R k L H):c.wpIn (ob Γ.rd) 0 Γ.P R a w:=h e a w m
def BY {Q:ey} {c:Code} {e:Env} {a:Act} {w:World} (m:J0 Γ (lo k) L H e a w) (h:DW Γ c Q k L H):c.wpIn (ob Γ.rd) 0 Γ.P (ze Γ Q) a w:=h e a w m
end
section
variable {Γ : Ctx} {k : Nat} {L : Sl} {H : Hp} {R : Exit -> Act -> World -> Prop}
def FH {x y:Code} (h:RM Γ x (Exit.then (y.wpIn (ob Γ.rd) 0 Γ.P R) R) k L H):RM Γ (.seq x y) R k L H:=λe a w m=>wpIn_seq<|h e a w m
def xP {id:Nat} {c:Code} (h:RM Γ c (Exit.inBlock id R) k L H):RM Γ (.block id c) R k L H:=λe a w m=>wpIn_block<|h e a w m
end
abbrev wX (X:Nat->Prop) (a W:World):Nat->Prop:=λb=>b<W.heap.size/\(X b∨a.heap.size<=b)
def SS {P:Program} {τ:List (Nat×TI)} {τok:c8 P τ} {N:Nat} {X:Nat->Prop} {d W:World} (g:d.heap.size<=W.heap.size) (l:∀ b,b<d.heap.size->¬ X b->W.heap[b]?=d.heap[b]?)
  {s:SV} {v:Value} {e0:Env} (m:s.low 0=true) (h:Rel X e0 d s v) {k:Nat->Prop} {H:Hp} {e:Env} {w:World} (i:Heap (C8 P τ τok (wX X d W) W N) k H e w):Rel (Ctx.X (C8 P τ τok (wX X d W) W N) e H) e w s v:=by
 have j:=i.J7;refine Rel.N1 (Aw g j.size) (λb f a=>(j.block b<|As f g).trans<|l b f a) (λb f a=>?_) _ _<|Rel.env _ _ m h;rcases a with a|a
 ·rcases a.2 with c|c
  ·exact c
  ·omega
 ·rcases (i.M3 b a).1 with c|c
  ·exact c.elim
  ·have c:W.heap.size<=b:=c;omega
def Xx {Γ:Ctx} {k:Nat} {L:Sl} {H:Hp} (t i:Nat) {f:FuncId} {ty:TypeId} {ds:List D} (z:L.get t=.fn f [.loc i 0]) (hH:Hp.get H i=some (.M1 ty (ds.map .d))):X7 Γ k L H k ((t,.fn f [.pd ds])::L) (Hp.del H i):=by
 intro e a w m;obtain⟨g,A⟩:=m.del i;have l:=Hp.mem_of hH;refine⟨e,g.toHeap,g.defers,g.len,λB=>?_⟩
 rw [Sl.C1];split
 ·rename_i C;subst C;have n:=m.slot t;rw [z] at n;obtain⟨o,E,F⟩:=n;refine⟨o,E,?_⟩
  match o,F with
  | [v],⟨⟨_,G⟩,_⟩ =>
   refine⟨?_,trivial⟩
   obtain⟨U,q,I,_⟩:=(m.heap _ l).2;have r:HB.owned e (i,.M1 ty<|ds.map .d)=some (e.β i):=rfl;refine⟨e.β i,0,G,cz q,λc=>?_,λj J=>?_⟩
   ·rcases c with c|c
    ·exact (m.M3 _<|List.mem_filterMap.2 ⟨_,l,r⟩).2 c
    ·obtain⟨p,M,Q⟩:=List.mem_filterMap.1 c;have s:=Hp.N6 (i:=i) H m.ids p M;exact m.O5 s.1 l s.2 Q r
   ·obtain⟨u,S,T⟩:=O0.get _ _ I j (.d ds[j]) (by rw [Bh,Ad J];rfl);refine⟨u,?_,Q0.N1 (Af _) (λ_ _ _=>rfl) (λb _ h=>A b h) T⟩
    rw [cell_of_row w _ _ _ ty (0,0) q,C4];simpa using S
 ·exact g.slot B
def wP {P:Program} {τ:List (Nat×TI)} {τok:c8 P τ} {O:Nat->Prop} {W:World} {N:Nat} {k:Nat} {L:Sl} {H:Hp} {R:Exit->Act->World->Prop}
  {id l d:Nat} {xs:List Operand} {q:Array TypeId} {ty:TypeId} {pre post:List Oper} {n:Nat} (I:d8 pre=true) (J:d8 post=true) (M:d<N) (u:Sl) (S:Jp u=true) (C:Bool->Sl)
  (z A:World->Prop)
  (T:DL (C8 P τ τok O W N) (pre++⟨some d,.call { callee:=.value (.tmp n),args:=xs.toArray,argTypes:=q },ty,pos,af,none⟩::post) pre (λ_ L' _=>L'.get n=.val (.func (.yield l) #[] #[])/\dz xs=true/\Ge L' u /\
   ∀ e i vs,Below W.heap.size W i->O0 O e i (mt L' xs) vs->∃ r:Loop,i.heap[l]?=some (Obj.loop r)/\vs.toArray.size=r.params.size /\
    RoundIn Fence.wide 0 P l r.fn ((r.params.zip vs.toArray).foldl (λt (p,v)=>t.setIfInBounds p v) r.tmps) r.assign r.body i
     (λE F=>(E=.returned (.bool true)/\z F)∨(E=.returned (.bool false)/\A F))) k L H)
  (U:∀ (b:Bool) (i:World),DL (C8 P τ τok (λ_=>False) i N) (pre++⟨some d,.call { callee:=.value (.tmp n),args:=xs.toArray,argTypes:=q },ty,pos,af,none⟩::post) post (λ_ L' H'=>H'=[]/\Ge L' (C b)/\Jp (C b)=true) 0 ((d,.d (.bool b))::u) [])
  (V:∀ (b:Bool) g i,Flat N (C b) g->(∃ f,Below f.heap.size f i/\((b=true/\z f)∨(b=false/\A f)))->R .normal g i) (X:∀ f,z f∨A f->S7 P (λ_=>False) f) :
  RM (C8 P τ τok O W N) (.region id (pre++⟨some d,.call { callee:=.value (.tmp n),args:=xs.toArray,argTypes:=q },ty,pos,af,none⟩::post).toArray false) R k L H:=by
 intro e a w m;refine wpIn_region_lit ?_;refine xb (Q:=ze (C8 P τ τok O W N)<|ep _) ?_ ji _ ?_ pre I a w<|T e a w m
 ·rintro c g w' (⟨_,_,_,_,_,j,_⟩|⟨_,_,_,_,_,_,hv,_⟩)
  ·cases j
  ·exact hv.elim
 rintro g w' (⟨k',L',H',e',m',_,hy,hok,hkf,hround⟩|⟨_,_,_,_,_,j,_⟩);rotate_left
 ·cases j
 have Y:=m'.flatten hkf S;unfold wpListIn;rw [if_pos<|by rfl];refine⟨λ_ _=>trivial,?_⟩
 rw [Oper.semAt_eq _ _ _<|by intro c h;cases h];have Z:g.eval (.tmp n)=.func (.yield l) #[] #[]:=by
  have B:=m'.slot n;rw [hy] at B;exact B
 have hb:=m'.toHeap.J7;obtain⟨r,B,h2,h3⟩:=hround e' w' (xs.map g.eval) hb<|O0.N1 (Af _) (λ_ _ _=>rfl) (λb _ j=>.inl j) _ _<|ga m' xs hok;have a0:(execOp g.eval ⟨some d,.call { callee:=.value (.tmp n),args:=xs.toArray,argTypes:=q },ty,pos,af,none⟩).run P w' =
   .ok (.round l r.fn ((r.params.zip (xs.map g.eval).toArray).foldl (λt (p,v)=>t.setIfInBounds p v) r.tmps) r.assign r.body) w':=by
  simp only [execOp,resolve];simp only [Z];have:=run_yield (P:=P) (w:=w') B h2
  simp [Deferred.ofValue,invoke,this]
 rw [a0];rw [Oper.uponIn_round];refine⟨ou,h3.mono ?_⟩
 have G:∀ (b:Bool) f,((b=true/\z f)∨(b=false/\A f))->wpListIn (ob none) 0 P (pre++⟨some d,.call { callee:=.value (.tmp n),args:=xs.toArray,argTypes:=q },ty,pos,af,none⟩::post).toArray R post (g.put (some d)<|.bool b) f:=by
  intro b f o;have m2:J0 (C8 P τ τok (λ_=>False) f N) (lo 0) ((d,.d<|.bool b)::u) [] ⟨λ_=>0,λ_=>undef,lo 0⟩ (g.put (some d)<|.bool b) f:=
   (Y.sD f (λ_ h=>h.elim)<|X f<|o.imp And.right And.right).put (s:=.d<|.bool b) M Q0.bool
  have:=xb (ro:=none) (Q:=ze (C8 P τ τok (λ_=>False) f N)<|ep _) (Q':=R) ?_ ji [] ?_ post J _ _<|U b f _ _ _ m2
  ·rw [Bn] at this;exact this
  ·rintro c g w' (⟨_,_,_,_,_,j,_⟩|⟨_,_,_,_,_,_,hv,_⟩)
   ·cases j
   ·exact hv.elim
  ·rintro a3 w3 (⟨k3,L3,H3,e3,m3,_,rfl,hk3,hf3⟩|⟨_,_,_,_,_,j,_⟩)
   ·exact V b a3 w3 (m3.flatten hk3 hf3) ⟨f,m3.toHeap.J7,o⟩
   ·cases j
 rintro E f (⟨rfl,o⟩|⟨rfl,o⟩)
 ·exact G true f<|.inl ⟨rfl,o⟩
 ·exact G false f<|.inr ⟨rfl,o⟩
def zK {P:Program} {τ:List (Nat×TI)} {τok:c8 P τ} {O:Nat->Prop} {W:World} {N:Nat} {k:Nat} {L:Sl} {H:Hp} {R:Exit->Act->World->Prop}
  {id l d:Nat} {xs:List Operand} {q:Array TypeId} {ty:TypeId} {ops pre post:List Oper} {j:Nat} (s:ops=pre++⟨some d,.call { callee:=.value (.tmp j),args:=xs.toArray,argTypes:=q },ty,pos,af,none⟩::post)
  (u:d8 pre=true) (w:d8 post=true) (z:Nat.blt d N=true) (f:Sl) (A:Jp f=true) (g:Bool->Sl)
  (h i:World->Prop)
  (B:DS false (C8 P τ τok O W N) ops pre (λ_ L' _=>L'.get j=.val (.func (.yield l) #[] #[])/\dz xs=true/\Ge L' f /\
   ∀ e a vs,Below W.heap.size W a->O0 O e a (mt L' xs) vs->∃ r:Loop,a.heap[l]?=some (Obj.loop r)/\vs.toArray.size=r.params.size /\
    RoundIn Fence.wide 0 P l r.fn ((r.params.zip vs.toArray).foldl (λt (p,v)=>t.setIfInBounds p v) r.tmps) r.assign r.body a
     (λm n=>(m=.returned (.bool true)/\h n)∨(m=.returned (.bool false)/\i n))) k L H)
  (C:∀ (b:Bool) (a:World),DS false (C8 P τ τok (λ_=>False) a N) ops post (λ_ L' H'=>H'=[]/\Ge L' (g b)/\Jp (g b)=true) 0 ((d,.d (.bool b))::f) [])
  (E:∀ (b:Bool) o a,Flat N (g b) o->(∃ c,Below c.heap.size c a/\((b=true/\h c)∨(b=false/\i c)))->R .normal o a) (F:∀ c,h c∨i c->S7 P (λ_=>False) c) :
  RM (C8 P τ τok O W N) (.region id ops.toArray false) R k L H:=by
 subst s;exact wP u w (Nat.le_of_ble_eq_true z) f A g h i B C E F
def I3.imp {i:Bool} {P:Program} {τ:List (Nat×TI)} {τok:c8 P τ} {f:FuncId} {args:List SV} {R j:SV->Prop} (h:I3 i P τ τok f args R) (g:∀ r,R r->j r):I3 i P τ τok f args j:=
 ⟨h.1,λO e w l m n=>(h.2 O e w l m n).mono λ_ _ ⟨o,r,H',e',v,⟨a,b,c⟩,d⟩=>⟨o,r,H',e',v,⟨a,b,g r c⟩,d⟩⟩
attribute [local irreducible] DW DS DL DQ Ev X1 I3 du bl DT
def NB (l:List U0) (g:FuncId) (caps:List SV) (pr:U0->Bool) (a:SV.U1 0 caps=true) (c:l.length<=4398046511104) (e:∀ x∈l,x.args.length<=17592186044416) (f:∀ x∈l,Fn g ([jt x]++caps) (λr=>r=.b (pr x))) :
  Fn 145 [.s 2 (l.map aa),.fn g caps] (λr=>r=.d (.own Y0.B (.slice 2 ((bg (l.filter pr)).map aa)))):=
 I3.imp (RS l g caps pr a c e f) λr ⟨s,h1,h2,h3⟩=>by rw [h3,QS h1 h2]
def Tb (l:List U0) (b:l.length<=4398046511104) (c:∀ x∈l,x.args.length<=17592186044416):Fn 97 [.s 2 (l.map aa)] (λr=>r=.d (.own Y0.B (.slice 2 ((bg l).map aa)))):=by
 refine J2 func97 ?_;intro O e f g;have a:=NB l 146 [] (λ_=>true) rfl b c<|λx _=>tN x;rw [show l.filter (λ_=>true)=l from List.filter_eq_self.2 λ_ _=>rfl] at a;repeat' (first|refine zr ?_|refine z21 ?_ a|fail)
 exact⟨.inl rfl,_,rfl,rfl,rfl⟩
def KX (l:List U0) (a:l.length<=4398046511104) (b:∀ x∈l,x.args.length<=17592186044416):Fn 97 [.s 2 (l.map aa)] (λr=>r=.s 2 ((bg l).map aa)):=(Tb l a b).Z5
def jO (m:List U0) (x:U0) (a:m.length<=4398046511104) (c:N2 m):Fn 213 [jt x,.pd [.slice 2 (m.map aa)]] (λr=>r=.b (!Z4 m x)):=by
 refine J2 func213 ?_;intro O e f g;have d:=VS m x a c;repeat' (first|refine zr ?_|refine z21 ?_ d|fail)
 exact⟨.inl rfl,_,rfl,rfl,rfl⟩
def DB (l m:List U0) (a:l.length<=4398046511104) (b:m.length<=4398046511104) (c:∀ x∈l,x.args.length<=17592186044416) (hb:∀ x∈m,x.args.length<=17592186044416) :
  Fn 177 [.s 2 (l.map aa),.s 2 (m.map aa)] (λr=>r=.d (.own Y0.B (.slice 2 ((bg (l.filter λx=>!Z4 (bg m) x)).map aa)))):=by
 refine J2 func177 ?_;intro O h i j;have e:=KX m b hb;have f:(bg m).length<=4398046511104:=by have:=U8 m [];simp at this;unfold bg;omega
 have g:=NB l 213 [.pd [.slice 2<|(bg m).map aa]] (λx=>!Z4 (bg m) x) rfl a c<|λx _=>jO (bg m) x f (bu m).1;repeat' (first|refine zs ?_|refine z21 ?_ e|fail)
 refine dm (Xx (ds:=[.slice 2<|(bg m).map aa]) 9 0 rfl rfl) ?_;repeat' (first|refine zr ?_|refine z21 ?_ g|fail)
 exact⟨.inl rfl,_,rfl,rfl,rfl⟩
end
end Go.Proofs.YtapciiffpnociabGreat
