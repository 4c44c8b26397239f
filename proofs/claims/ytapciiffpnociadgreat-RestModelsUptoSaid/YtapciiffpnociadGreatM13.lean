/- Several texts in one: TokC TokD ScoB ScoC ScoD ScoF GxOrd RuP RuA. Condition: none. -/
import Derived.Test.YtapciiffpnociadGreatM12
import Derived.Test.YtapciiffpnociadGreatM08
import Derived.Test.YtapciiffpnociadGreatM10
set_option linter.all false
set_option maxHeartbeats 8000000
open Bool renaming and_true→Fo,false_and→Cm,false_or→Cb,not_eq_true→Dj,not_false→Hq,not_true→Ew,or_false→Hv,or_true→G4,true_and→Bo
open Int renaming toNat_of_nonneg→Az
open List renaming all_cons→Dp,count_cons→E4,drop_eq_getElem_cons→Ao,drop_of_length_le→Ax,foldl_cons→A2,getD→A9,getElem?_eq_getElem→Ab,getElem?_eq_none→Ba,getElem?_map→Bl,getElem?_set_ne→Cf,getElem?_set_self→By,getElem_mem→Ag,length_map→Aa,length_replicate→Ci,length_set→A3,length_take→Au,map_append→Av,map_cons→A7,map_replicate→C2,mem_cons_of_mem→Ah,mem_cons_self→Ae,replicate→An,take_of_length_le→Ak,take_succ_eq_append_getElem→Am
open Nat renaming not_lt_zero→A6,zero_le→Ai
namespace Go.Proofs.YtapciiffpnociadGreat
section
open Go Go.RowKit
variable [Bnds]
attribute [local irreducible] DW DS DL DQ Ev FnOk FnP dp bh DT
def scanInv (s:ByteArray) (x:List Tok×Nat):Prop :=
 x.2<=s.size/\x.1.length<=x.2/\cn s false 0=(cn s false x.2).map (x.1++·) /\
 ∀ h:x.2<s.size,¬ (s[x.2].toNat:Int)=37/\¬ (s[x.2].toNat:Int)=32/\¬ (s[x.2].toNat:Int)=9/\¬ (s[x.2].toNat:Int)=10
theorem scan_fn (s:ByteArray):Fn 286 [.d (.str s)] (λr=>r=encScan (vf s)):=by
 refine fqE Tryz.func286 ?_;intro O w0 E0 β0;repeat' (first|refine zs ?_|fail)
 refine bi rfl (λhbig=>?_) (λhbig=>?_)
 ·repeat' (first|refine zs ?_|fail)
  refine dw_nild 2 3 rfl ?_;repeat' (first|refine zr ?_|fail)
  exact ret_3 rfl (by rw [scanS_big s (by omega)];exact⟨rfl,rfl,rfl⟩)
 ·repeat' (first|refine zs ?_|fail)
  (refine bk id (skip_fn s 0 (by omega) (by omega)) rfl rfl rfl rfl ⟨rfl,trivial⟩ rfl rfl rfl rfl rfl rfl ?_ ?_)
  ·rintro k2 r H2 ⟨rfl,rfl,j,_,_,_,_,rfl⟩;exact⟨rfl,rfl⟩
  rintro k2 r H2 ⟨rfl,rfl,j0,g1,g2,g3,g4,rfl⟩;change DS _ _ _ _ _ _ _ _;repeat' (first|refine zs ?_|fail)
  refine dw_nilrow (t:=6) 319 3 rfl ?_;refine ak (ι:=List Tok×Nat) (λx=>⟨2,[(0,.d (.str s)),(5,.loc 0 0),(6,.row 1)],[(0,.blk 323 [.d (.str s),.d (.int .i64 x.2)]),(1,.row 319 3 (x.1.map encTok))]⟩)
   (scanInv s) (λx=>s.size-x.2) ([],j0) ⟨g2,Ai _,by rw [g3];cases cn s false j0<;>rfl,g4⟩
   (er id) ?_
  rintro⟨toks,i⟩ ⟨h1,h2,h3,h4⟩;dsimp only at h1 h2 h3 h4 ⊢;repeat' (first|refine zs ?_|fail)
  refine bi rfl (λhlt=>?_) (λhlt=>?_)
  ·have hlt':i<s.size:=by omega
   have h4':=h4 hlt';repeat' (first|refine zs ?_|fail)
   (refine bk id (token_fn s i hlt' (by omega)) rfl rfl rfl rfl ⟨rfl,trivial⟩ rfl rfl rfl rfl rfl rfl ?_ ?_)
   ·rintro k2 r H2 ⟨kd,e,tx,j,rfl,rfl,_,_⟩;exact⟨rfl,rfl⟩
   rintro k2 r H2 ⟨kd,e,tx,j,rfl,rfl,he,hz⟩;change DS _ _ _ _ _ _ _ _;have hS:=tok_step s false i hlt' rfl h4'.1 h4'.2.1 h4'.2.2.1 h4'.2.2.2 _ rfl;have hle:=tokAt_le (s.data.toList.drop i);have hpo:=tokAt_pos (s.data.toList.drop i);rw [List.length_drop,show s.data.toList.length=s.size by simp] at hle;generalize cb (s.data.toList.drop i)=q at hS hle hpo he hz;obtain⟨kind,n⟩:=q;dsimp only at hS hle hpo he hz;rw [hS] at h3;repeat' (first|refine zs ?_|fail)
   refine bi rfl (λhne=>?_) (λhne=>?_)
   ·repeat' (first|refine zs ?_|fail)
    refine dw_nild 2 3 rfl ?_;repeat' (first|refine zr ?_|fail)
    refine ret_3 rfl ?_;have:=scanS_err s (by omega) i e (by rw [h3,if_neg (by rw [<- he];exact hne),<- he];rfl)
    rw [this];exact⟨rfl,rfl,rfl⟩
   ·have he0:e=0:=Decidable.not_not.1 hne;obtain⟨z1,z2,z3⟩:=hz he0;rw [if_pos (by rw [<- he];exact he0)] at h3;have hn1:=hpo (by intro hk;rw [hk] at he;unfold ea at he;simp at he;omega);subst z1;subst z2;subst z3;repeat' (first|refine zs ?_|fail)
    (refine bk id (skip_fn s (i+n) (by omega) (by omega)) rfl rfl rfl rfl ⟨rfl,trivial⟩ rfl rfl rfl rfl rfl rfl ?_ ?_)
    ·rintro k2 r H2 ⟨rfl,rfl,j,_,_,_,_,rfl⟩;exact⟨rfl,rfl⟩
    rintro k2 r H2 ⟨rfl,rfl,j,q1,q2,q3,q4,rfl⟩;change DS _ _ _ _ _ _ _ _;repeat' (first|refine zs ?_|fail)
    refine⟨(toks++[⟨kd,i,s.extract i (i+n)⟩],j),⟨?_,?_,?_,q4⟩,?_,?_⟩
    ·exact q2
    ·show (toks++[_]).length<=j;rw [List.length_append];show _+1<=_;omega
    ·show cn s false 0=_;rw [h3,map_map,q3];simp only [List.append_assoc,List.singleton_append]
    ·dsimp only;rw [Av];exact er (λi=>match i with|0=>0|_=>3)
    ·show s.size-j<s.size-i;omega
  ·repeat' (first|refine zs ?_|fail)
   refine dw_seal 2 rfl rfl ?_;repeat' (apply dv)
   refine ret_3 rfl ?_;rw [scanS_ok s (by omega) toks (by rw [h3,tr s false i (by omega)];exact congrArg Except.ok (List.append_nil _))];exact⟨rfl,rfl,rfl⟩
variable [Bnds]
def oneS (kind:Int) (s:ByteArray):Bool:=match vf s with
 | ([t],_,e)=>decide (e=0) && (decide (t.kind=kind) && decide (t.text=s))
 | _=>false
theorem one_fn (kind:Int) (s:ByteArray):Fn 281 [.d (.int .i64 kind),.d (.str s)] (λr=>r = .d (.bool (oneS kind s))):=by
 refine fqE Tryz.func281 ?_;intro O w0 E0 β0;have hsc:=scan_fn s;unfold oneS;generalize vf s=q at hsc ⊢;obtain⟨l,p,e⟩:=q;unfold encScan encToks at hsc;dsimp only at hsc;rcases l with _|⟨t,_|⟨t',l⟩⟩
 ·repeat' (first|refine zr ?_|refine z21 ?_ (hc:=by apply hsc)|(refine zm ?_ ?_<;>intro hg)|fail)
  all_goals exact cm rfl (by simp)
 ·repeat' (first|refine zr ?_|refine z21 ?_ (hc:=by apply hsc)|(refine zm ?_ ?_<;>intro hg)|fail)
  all_goals exact cm rfl (by simp_all)
 ·repeat' (first|refine zr ?_|refine z21 ?_ (hc:=by apply hsc)|(refine zm ?_ ?_<;>intro hg)|fail)
  all_goals first
   | exact cm rfl (by simp_all)
   | (rename_i h;exfalso;revert h;simp;done)
   | (exfalso;simp at *;done)
   | (exfalso;simp at *;omega)
variable [Bnds]
def eqS (x y:ByteArray):Bool:=decide (y=x)
def eqB (x y:Bool):Bool:=y == x
abbrev elS (s:ByteArray):SV:=.d (.str s)
abbrev elB (b:Bool):SV:=.d (.bool b)
theorem indexS_fn (y:ByteArray) (l:List (ByteArray)):Fn 258 [.d (.slice 1 (l.map dl)),elS y] (λr=>r = .d (.int .i64 (n9 (λx=>eqS x y) l))):=by
 refine fqE Tryz.func258 ?_;intro O w0 E0 β0;refine c8 (t:=0) rfl λhb=>?_
 repeat' (first|refine zs ?_|fail)
 refine ak (ι:=Nat) (λi=>⟨0,[(0,.d (.slice 1 (l.map dl))),(1,.d (.str y)),(7,.d (.int .i64 l.length)),(8,.d (.int .i64 i))],[]⟩)
  (λi=>i<=l.length/\∀ j (hj:j<l.length),j<i->eqS l[j] y=false) (λi=>l.length-i) 0 ⟨Ai _,λj _ h=>absurd h (A6 j)⟩
  (ag id ⟨rfl,rfl,by simp;rfl,rfl,trivial⟩ trivial rfl rfl rfl rfl rfl rfl) ?_
 rintro i ⟨h1,h2⟩;repeat' (first|refine zs ?_|fail)
 refine bi rfl (λh=>?_) (λh=>?_)
 ·have hi:i<l.length:=by omega
  repeat' (first|refine zs ?_|fail)
  refine ff rfl (λhb=>?_) (λhb=>?_)
  ·repeat' (first|refine zr ?_|fail)
   exact br rfl (j8 (p:=λx=>eqS x y) h2 hi (id hb)).symm
  ·repeat' (first|refine zs ?_|fail)
   exact⟨i+1,⟨hi,jt (p:=λx=>eqS x y) h2 hi (id hb)⟩,er id,by omega⟩
 ·repeat' (first|refine zr ?_|fail)
  exact br rfl (iy λj hj=>h2 j hj (by omega)).symm
theorem indexB_fn (y:Bool) (l:List (Bool)):Fn 260 [.d (.slice 1 (l.map bz)),elB y] (λr=>r = .d (.int .i64 (n9 (λx=>eqB x y) l))):=by
 refine fqE Tryz.func260 ?_;intro O w0 E0 β0;refine c8 (t:=0) rfl λhb=>?_
 repeat' (first|refine zs ?_|fail)
 refine ak (ι:=Nat) (λi=>⟨0,[(0,.d (.slice 1 (l.map bz))),(1,.d (.bool y)),(7,.d (.int .i64 l.length)),(8,.d (.int .i64 i))],[]⟩)
  (λi=>i<=l.length/\∀ j (hj:j<l.length),j<i->eqB l[j] y=false) (λi=>l.length-i) 0 ⟨Ai _,λj _ h=>absurd h (A6 j)⟩
  (ag id ⟨rfl,rfl,by simp;rfl,rfl,trivial⟩ trivial rfl rfl rfl rfl rfl rfl) ?_
 rintro i ⟨h1,h2⟩;repeat' (first|refine zs ?_|fail)
 refine bi rfl (λh=>?_) (λh=>?_)
 ·have hi:i<l.length:=by omega
  repeat' (first|refine zs ?_|fail)
  refine ff rfl (λhb=>?_) (λhb=>?_)
  ·repeat' (first|refine zr ?_|fail)
   exact br rfl (j8 (p:=λx=>eqB x y) h2 hi (id hb)).symm
  ·repeat' (first|refine zs ?_|fail)
   exact⟨i+1,⟨hi,jt (p:=λx=>eqB x y) h2 hi (id hb)⟩,er id,by omega⟩
 ·repeat' (first|refine zr ?_|fail)
  exact br rfl (iy λj hj=>h2 j hj (by omega)).symm
theorem containsS_fn (y:ByteArray) (l:List ByteArray):Fn 212 [.d (.slice 1 (l.map dl)),.d (.str y)] (λr=>r = .d (.bool (l.any λx=>eqS x y))):=by
 refine fqE Tryz.func212 ?_;intro O w0 E0 β0;have hx:=indexS_fn y l;repeat' (first|refine zr ?_|refine z21 ?_ (hc:=by apply hx)|fail)
 exact cm rfl (qu _ l)
theorem containsB_fn (y:Bool) (l:List Bool):Fn 215 [.d (.slice 1 (l.map bz)),.d (.bool y)] (λr=>r = .d (.bool (l.any λx=>eqB x y))):=by
 refine fqE Tryz.func215 ?_;intro O w0 E0 β0;have hx:=indexB_fn y l;repeat' (first|refine zr ?_|refine z21 ?_ (hc:=by apply hx)|fail)
 exact cm rfl (qu _ l)
def wordsL:List ByteArray:=[⟨#[110,111,116]⟩,⟨#[99,111,117,110,116]⟩,⟨#[115,117,109]⟩,⟨#[108,101,97,115,116]⟩,⟨#[109,111,115,116]⟩]
def wordB (s:ByteArray):Bool:=wordsL.any λx=>eqS x s
def xh (s:ByteArray):Bool:=oneS 1 s && !wordB s
theorem words_fn:Fn 257 [] (λr=>r = .d (.slice 1 (wordsL.map dl))):=by
 refine fqE Tryz.func257 ?_;intro O w0 E0 β0;repeat' (first|refine zr ?_|fail)
 exact⟨.inl rfl,_,rfl,rfl,rfl⟩
theorem tokenName_fn (s:ByteArray):Fn 256 [.d (.str s)] (λr=>r = .d (.bool (oneS 1 s))):=by
 refine fqE Tryz.func256 ?_;intro O w0 E0 β0;repeat' (first|refine zr ?_|refine z21 ?_ (hc:=by apply one_fn)|fail)
 exact cm rfl rfl
theorem treeName_fn (s:ByteArray):Fn 211 [.d (.str s)] (λr=>r = .d (.bool (xh s))):=by
 refine fqE Tryz.func211 ?_;intro O w0 E0 β0;have h1:=containsS_fn s wordsL;have h2:=tokenName_fn s;unfold xh wordB;repeat' (first|refine zr ?_|refine z21 ?_ (hc:=by apply h1)|refine z21 ?_ (hc:=by apply h2)|refine z21 ?_ (hc:=by apply words_fn)|(refine zm ?_ ?_<;>intro hg)|fail)
 all_goals exact cm rfl (by simp_all)
theorem preds_fn (p:Prg) (hl:p.names.length=p.arity.length):Fn 158 [db p] (λr=>r = .d (.int .i64 (ij (o6 xh p) 0 p.names.length))):=by
 refine fqE Tryz.func158 ?_;intro O w0 E0 β0;have la:(p.arity.map ah).length=p.arity.length:=Aa _;have lb:(p.names.map dl).length=p.names.length:=Aa _;refine ew 0 1 rfl rfl (λhk=>?_);repeat' (first|refine zs ?_|fail)
 refine ak (ι:=Nat) (λi=>⟨1,[(1,.loc 0 0),(2,.d (.int .i64 0)),(6,.d (.slice 1 (p.names.map dl))),(7,.d (.int .i64 (p.names.map dl).length)),(8,.d (.int .i64 i))],[(0,.blk 26 [.d (.slice 1 (p.arity.map ah)),.d (.slice 1 (p.names.map dl)),.d (.slice 5 (p.rules.map a6))])]⟩)
  (λi=>i<=p.names.length/\ij (o6 xh p) 0 p.names.length=ij (o6 xh p) i (p.names.length-i)) (λi=>p.names.length-i) 0 ⟨Ai _,rfl⟩ (er id) ?_
 rintro i ⟨g1,g2⟩;by_cases hi:i<p.names.length
 ·have ha:p.arity.getD i 0=p.arity[i]'(by omega):=by rw [A9,Ab (by omega)];rfl
  have hn:p.names.getD i ⟨#[]⟩=p.names[i]:=by rw [A9,Ab hi];rfl
  rw [firstI_step hi,show o6 xh p i=if inR (p.arity.getD i 0) 0 3=false then 3 else if xh (p.names.getD i ⟨#[]⟩)=false then 1 else if (p.names.take i).any (λs=>decide (s=p.names.getD i ⟨#[]⟩)) then 6 else 0 from rfl,ha,hn] at g2;have hc:=containsS_fn p.names[i] (p.names.take i);have hq:(p.names.take i).any (λs=>decide (s=p.names[i]))=(p.names.take i).any (λx=>eqS x p.names[i]):=by
   congr 1;funext x;unfold eqS;exact decide_eq_decide.2 eq_comm
  rw [hq] at g2;generalize (p.names.take i).any (λx=>eqS x p.names[i])=bc at g2 hc;repeat' (first|(apply nr;exact rfl;exact rfl;exact rfl;exact rfl;exact rfl;exact rfl;(refine⟨?_,?_,?_⟩<;>(omega));((with_reducible apply ni);(exact rfl));exact rfl;exact rfl)|refine zr ?_|refine z21 ?_ (hc:=by apply ez)|refine z21 ?_ (hc:=by apply treeName_fn)|refine z21 ?_ (hc:=by apply hc)|(refine zm ?_ ?_<;>intro hg)|fail)
  all_goals first
   | exact absurd hg (by omega)
   | exact br rfl (by rw [g2];simp_all)
   | exact⟨i+1,⟨by omega,by rw [g2];simp_all⟩,er id,by show p.names.length-(i+1)<p.names.length-i;omega⟩
 ·rw [firstI_end (by omega)] at g2;repeat' (first|(apply nr;exact rfl;exact rfl;exact rfl;exact rfl;exact rfl;exact rfl;(refine⟨?_,?_,?_⟩<;>(omega));((with_reducible apply ni);(exact rfl));exact rfl;exact rfl)|refine zr ?_|refine z21 ?_ (hc:=by apply ez)|refine z21 ?_ (hc:=by apply treeName_fn)|(refine zm ?_ ?_<;>intro hg)|fail)
  all_goals first
   | exact absurd hg (by omega)
   | exact br rfl g2.symm
variable [Bnds]
abbrev FnW (f:FuncId) (args:List SV) (J k:Nat) (H:Hp) (R:Nat->SV->Hp->Prop):Prop:=FnOk false Tryz.prog tab bp f args J k H R
abbrev bsH (bs:List Bool):Hp:=[(0,.blk 95 [.row 1]),(1,.row 4 1 (bs.map bz))]
theorem isT_pos {bs:List Bool} {t:Trm} (h:t.var<0):isT bs t=true:=by unfold isT;rw [decide_eq_true h];rfl
theorem isT_neg {bs:List Bool} {t:Trm} (h:¬ t.var<0) (h2:t.var<(bs.length:Int)):isT bs t=bs[t.var.toNat]'(by omega):=by
 unfold isT;rw [decide_eq_false h,Cb,A9,Ab (by omega)];rfl
theorem isFn (bs:List Bool) (t:Trm) (hok:okT bs.length t):FnW 261 [elTrm t,.loc 0 0] 1 2 (bsH bs) (λk2 res H2=>k2=2/\res = .d (.bool (isT bs t))/\H2=bsH bs):=by
 refine frE Tryz.func261 ?_;intro O w0 E0 β0;have la:(bs.map bz).length=bs.length:=Aa _;unfold okT at hok;by_cases hneg:t.var<0
 ·rw [isT_pos hneg];repeat' (first|refine zr ?_|(refine zm ?_ ?_<;>intro hg)|fail)
  ·exact⟨.inl rfl,_,rfl,kp id 2 (.d (.bool true)) (bsH bs) ⟨rfl,rfl,rfl⟩⟩
  all_goals exact absurd hneg hg
 ·rw [isT_neg hneg hok];repeat' (first|refine zr ?_|(refine zm ?_ ?_<;>intro hg)|fail)
  ·exact absurd hg hneg
  all_goals exact⟨.inl rfl,_,rfl,kp id 2 (.d (.bool _)) (bsH bs) ⟨rfl,rfl,rfl⟩⟩
def Fl (b0 bs:List Bool) (ch:Bool):Prop:=bs.length=b0.length/\bs.count false<=b0.count false/\(ch=false->bs=b0)/\(ch=true->bs.count false<b0.count false)
theorem Fl.refl (b0:List Bool):Fl b0 b0 false:=⟨rfl,Nat.le_refl _,λ_=>rfl,λh=>by cases h⟩
theorem count_set:∀ {bs:List Bool} {i:Nat} (_:i<bs.length),bs[i]?=some false->(bs.set i true).count false+1=bs.count false
 | [],_,h,_=>by simp at h
 | b::bs,0,_,hb=>by simp at hb;subst hb;simp
 | b::bs,i+1,h,hb=>by
  have:=count_set (bs:=bs) (i:=i) (by simpa using h) (by simpa using hb)
  rw [List.set_cons_succ,E4,E4]
  omega
theorem setT_count {bs:List Bool} {t:Trm} (hok:okT bs.length t) (h:isT bs t=false):(jb bs t).count false+1=bs.count false/\¬ t.var<0:=by
 have hn:¬ t.var<0:=λhn=>by rw [isT_pos hn] at h;cases h
 unfold okT at hok;rw [isT_neg hn hok] at h;unfold jb;rw [if_neg hn];exact⟨count_set (by omega) (by rw [Ab (by omega),h]),hn⟩
theorem Fl.step {b0 bs:List Bool} {ch:Bool} {t:Trm} (h:Fl b0 bs ch) (hok:okT bs.length t):Fl b0 (jb bs t) (ch || !isT bs t):=by
 obtain⟨h1,h2,h3,h4⟩:=h;cases ht:isT bs t with
 | true=>rw [p5 ht,Ew,Hv];exact⟨h1,h2,h3,h4⟩
 | false =>
  obtain⟨g1,_⟩:=setT_count hok ht;rw [Hq,G4];exact⟨by rw [wq,h1],by omega,λh=>by (cases h),λ_=>by omega⟩
abbrev nu (r:Rul):HB:=.blk 64 [.d (.int .i64 r.pred),.d (.slice 2 (r.terms.map aw)),.d (.int .i64 r.fold),.d (.slice 4 (r.body.map ay)),.d (.int .i64 r.vars)]
abbrev bndH (r:Rul) (bs:List Bool):Hp:=[(0,nu r),(1,.row 4 1 (bs.map bz)),(2,.blk 95 [.row 1])]
abbrev bndL (ch:Bool):Sl:=[(1,.loc 0 0),(2,.nils),(3,.loc 2 0),(4,.fn 261 [.loc 2 0]),(5,.d (.bool ch))]
theorem fires4 {bs:List Bool} {l:Ltl} (k1:¬ l.kind=1) (k4:l.kind=4) (h:l.terms.length=3):b9 bs l=(isT bs (l.terms[0]'(by omega)) && isT bs (l.terms[1]'(by omega))):=by
 unfold b9;rw [decide_eq_false k1,decide_eq_true k4];obtain⟨kind,op,pred,terms⟩:=l;dsimp only at h ⊢;match terms,h with
 | [a,b,c],_=>simp
theorem litTs_sub {l:Ltl} {t:Trm} (h:t∈dq l):t∈l.terms:=by
 unfold dq at h;split at h
 ·exact h
 ·exact List.mem_of_mem_drop h
theorem foldl_take {α β:Type} (f:β->α->β) (b:β) {l:List α} {i:Nat} (h:i<l.length):(l.take (i+1)).foldl f b=f ((l.take i).foldl f b) l[i]:=by
 rw [Am h,List.foldl_append];rfl
theorem bLits_len:∀ (l:List Ltl) (bs:List Bool),(l.foldl k9 bs).length=bs.length:=bRound_len
theorem bound_fn (r:Rul) (h0:0<=r.vars) (h8:r.vars<=8) (hok:∀ l∈r.body,∀ t∈l.terms,okT r.vars.toNat t) (h3:∀ l∈r.body,l.kind=4->l.terms.length=3) :
  Fn 216 [k8 r] (λres=>res = .d (.slice 1 ((u7 r).map bz))):=by
 refine fqE Tryz.func216 ?_;intro O w0 E0 β0;have lb:(r.body.map ay).length=r.body.length:=Aa _;refine ew 0 3 rfl rfl (λhk=>?_);repeat' (first|refine zs ?_|fail)
 refine ds_mk ((An r.vars.toNat false).map bz) rfl rfl (Az h0).symm rfl rfl rfl rfl rfl rfl (by show 1*_<=_;omega) (by unfold maxLen;omega) (by rw [C2];rfl) rfl rfl ?_;repeat' (first|refine zs ?_|fail)
 refine ak (ι:=Bool×List Bool×Nat) (λx=>⟨3,bndL x.1,bndH r x.2.1⟩)
  (λx=>x.2.1=e9 r.body x.2.2 (An r.vars.toNat false)/\(x.1=false->ik r.body x.2.1=x.2.1)) (λx=>2*x.2.1.count false+(if x.1 then 1 else 0))
  (true,An r.vars.toNat false,0) ⟨rfl,λh=>by cases h⟩ (er id) ?_
 rintro⟨ch,b0,m⟩ ⟨g1,g2⟩;dsimp only at g1 g2 ⊢;have hlen:b0.length=r.vars.toNat:=by rw [g1,tf,Ci]
 cases ch with
 | false =>
  repeat' (first|refine zs ?_|fail)
  refine au (cr 2 rfl rfl rfl) ?_;repeat' (apply dv)
  have hb:b0=u7 r:=by
   rw [g1];exact rest_is (λl hl t ht=>hok l hl t (litTs_sub ht)) (g1▸g2 rfl)
  rw [<- hb];exact⟨.inl rfl,_,rfl,rfl,rfl⟩
 | true =>
  repeat' (first|refine zs ?_|fail)
  refine ak (ι:=Nat×List Bool×Bool) (λx=>⟨3,(17,.d (.slice 4 (r.body.map ay)))::(18,.d (.int .i64 (r.body.map ay).length))::(19,.d (.int .i64 x.1))::bndL x.2.2,bndH r x.2.1⟩)
   (λx=>x.1<=r.body.length/\x.2.1=(r.body.take x.1).foldl k9 b0/\Fl b0 x.2.1 x.2.2) (λx=>r.body.length-x.1)
   (0,b0,false) ⟨Ai _,rfl,Fl.refl b0⟩ (er id) ?_
  rintro⟨i,bs,ch⟩ ⟨f1,f2,f3⟩;dsimp only at f1 f2 f3 ⊢;have hbl:bs.length=r.vars.toNat:=by rw [f2,bLits_len,hlen]
  by_cases hi:i<r.body.length
  ·have hlok:=hok r.body[i] (Ag hi);have h3':=h3 r.body[i] (Ag hi);have hf:k9 bs r.body[i]=(r.body.take (i+1)).foldl k9 b0:=by rw [foldl_take k9 b0 hi,<- f2]
   repeat' ((fail_if_success (apply dw_stop 4));(first|refine zs ?_|(refine zm ?_ ?_<;>intro hg)|fail))
   ·generalize r.body[i]=l at hlok h3' hf ⊢;refine dw_cut (ι:=List Trm) (λts=>⟨4,(8,.d (.slice 2 (ts.map aw)))::(17,.d (.slice 4 (r.body.map ay)))::(18,.d (.int .i64 (r.body.map ay).length))::(19,.d (.int .i64 i))::bndL ch,bndH r bs⟩) (λts=>ts=if b9 bs l then dq l else []) ?_ ?_
    ·have ll:(l.terms.map aw).length=l.terms.length:=Aa _;by_cases k1:l.kind=1
     ·repeat' (first|refine zs ?_|(refine zm ?_ ?_<;>intro hg)|fail)
      ·exact⟨l.terms,by unfold b9 dq;simp [k1],er id⟩
      all_goals (exfalso;omega)
     ·by_cases k4:l.kind=4
      ·have h3l:=h3' k4;have hlok':∀ t∈l.terms,okT bs.length t:=by rw [hbl];exact hlok
       have hf4:=fires4 (bs:=bs) k1 k4 h3l;have hl4:dq l=l.terms.drop 2:=by unfold dq;rw [if_neg k1]
       repeat' (first|refine zs ?_|(refine zm ?_ ?_<;>intro hg)|(exfalso;omega))
       refine qa (λj=>match j with|0=>2|_=>1) (isFn bs (l.terms[0]'(by omega)) (hlok' _ (Ag _))) rfl rfl rfl rfl rfl rfl ⟨rfl,rfl,trivial⟩ rfl rfl rfl rfl rfl rfl ?_ ?_
       ·rintro k2 res H2 ⟨rfl,rfl,rfl⟩;exact⟨rfl,rfl⟩
       rintro k2 res H2 ⟨rfl,rfl,rfl⟩;change DS _ _ _ _ _ _ _ _;rw [hf4];generalize isT bs (l.terms[0]'(by omega))=q0;cases q0 with
       | false =>
        repeat' (first|refine zs ?_|fail)
        all_goals exact⟨[],rfl,oc (dz 8 2 rfl) (er (λj=>match j with|0=>0|1=>5|j=>j))⟩
       | true =>
        repeat' refine z0 ?_
        refine qa (λj=>match j with|0=>2|_=>5) (isFn bs (l.terms[1]'(by omega)) (hlok' _ (Ag _))) rfl rfl rfl rfl rfl rfl ⟨rfl,rfl,trivial⟩ rfl rfl rfl rfl rfl rfl ?_ ?_
        ·rintro k2 res H2 ⟨rfl,rfl,rfl⟩;exact⟨rfl,rfl⟩
        rintro k2 res H2 ⟨rfl,rfl,rfl⟩;change DS _ _ _ _ _ _ _ _;generalize isT bs (l.terms[1]'(by omega))=q1;cases q1 with
        | false =>
         repeat' (first|refine zs ?_|fail)
         all_goals exact⟨[],rfl,oc (dz 8 2 rfl) (er (λj=>match j with|0=>0|1=>7|j=>j))⟩
        | true =>
         repeat' (first|(apply nr;exact rfl;exact rfl;exact rfl;exact rfl;exact rfl;exact rfl;(refine⟨?_,?_,?_⟩<;>(omega));((with_reducible apply hv_drop);(exact bg _));exact rfl;exact rfl)|refine zs ?_|fail)
         all_goals exact⟨(l.terms.take (l.terms.map aw).length).drop 2,by rw [Ak (by omega),hl4];rfl,er (λj=>match j with|0=>0|1=>7|j=>j)⟩
      ·have hf5:b9 bs l=false:=by unfold b9;rw [decide_eq_false k1,decide_eq_false k4];rfl
       repeat' (first|refine zs ?_|(refine zm ?_ ?_<;>intro hg)|fail)
       all_goals first
        | exact absurd hg k1
        | exact absurd hg k4
        | exact⟨[],by rw [hf5];rfl,oc (dz 8 2 rfl) (er id)⟩
    ·rintro ts hts;have hbs:ts.foldl jb bs=(r.body.take (i+1)).foldl k9 b0:=by
      rw [<- hf,hts];unfold k9;split<;>rfl
     have htok:∀ t∈ts,okT bs.length t:=by
      intro t ht;rw [hbl];rw [hts] at ht;split at ht
      ·exact hlok t (litTs_sub ht)
      ·simp at ht
     clear hts;have lt:(ts.map aw).length=ts.length:=Aa _;refine l9 (t:=8) rfl (λhkt=>?_);repeat' (first|refine zs ?_|fail)
     refine ak (ι:=Nat×List Bool×Bool) (λx=>⟨4,(52,.d (.slice 2 (ts.map aw)))::(53,.d (.int .i64 (ts.map aw).length))::(54,.d (.int .i64 x.1))::(17,.d (.slice 4 (r.body.map ay)))::(18,.d (.int .i64 (r.body.map ay).length))::(19,.d (.int .i64 i))::bndL x.2.2,bndH r x.2.1⟩)
      (λx=>x.1<=ts.length/\x.2.1=(ts.take x.1).foldl jb bs/\Fl b0 x.2.1 x.2.2) (λx=>ts.length-x.1)
      (0,bs,ch) ⟨Ai _,rfl,f3⟩ (er id) ?_
     rintro⟨j,bj,cj⟩ ⟨e1,e2,e3⟩;dsimp only at e1 e2 e3 ⊢;have hjl:bj.length=bs.length:=by rw [e2,setTs_len]
     by_cases hj:j<ts.length
     ·repeat' (first|refine zs ?_|(refine zm ?_ ?_<;>intro hg)|(exfalso;omega))
      have hq:=htok ts[j] (Ag hj);rw [<- hjl] at hq;have e4:=e3.step hq;have e5:(ts.take (j+1)).foldl jb bs=jb bj ts[j]:=by rw [foldl_take jb bs hj,<- e2]
      refine qa (λj=>match j with|0=>2|_=>1) (isFn bj ts[j] hq) rfl rfl rfl rfl rfl rfl ⟨rfl,rfl,trivial⟩ rfl rfl rfl rfl rfl rfl ?_ ?_
      ·rintro k2 res H2 ⟨rfl,rfl,rfl⟩;exact⟨rfl,rfl⟩
      rintro k2 res H2 ⟨rfl,rfl,rfl⟩;change DS _ _ _ _ _ _ _ _;have lbj:(bj.map bz).length=bj.length:=Aa _;cases hb:isT bj ts[j] with
      | true =>
       rw [hb,Ew,Hv,p5 hb] at e4;rw [p5 hb] at e5;repeat' (first|refine zs ?_|fail)
       exact⟨(j+1,bj,cj),⟨by omega,e5.symm,e4⟩,er (λj=>match j with|0=>0|1=>6|j=>j),by show ts.length-(j+1)<ts.length-j;omega⟩
      | false =>
       obtain⟨_,hneg⟩:=setT_count hq hb;have hset:jb bj ts[j]=bj.set ts[j].var.toNat true:=by unfold jb;rw [if_neg hneg]
       rw [hb,Hq,G4,hset] at e4;rw [hset] at e5;unfold okT at hq;repeat' (first|refine z0 ?_|apply jj|(apply ke;exact rfl;exact rfl;(apply ig;(omega));exact rfl;exact rfl;(exact j9 rfl);exact rfl;exact rfl;exact rfl;exact rfl;exact rfl;exact rfl)|refine zs ?_|fail)
       exact⟨(j+1,bj.set ts[j].var.toNat true,true),⟨by omega,e5.symm,e4⟩,er (λj=>match j with|0=>0|1=>6|j=>j),by show ts.length-(j+1)<ts.length-j;omega⟩
     ·repeat' (first|refine zs ?_|(refine zm ?_ ?_<;>intro hg)|(exfalso;omega))
      ·refine⟨(i+1,bj,cj),⟨by omega,?_,e3⟩,er id,by show r.body.length-(i+1)<r.body.length-i;omega⟩
       dsimp only;rw [<- hbs,e2,Ak (by omega)]
   ·exfalso;omega
  ·repeat' (first|refine zs ?_|(refine zm ?_ ?_<;>intro hg)|(exfalso;omega))
   ·refine⟨(ch,bs,m+1),⟨?_,?_⟩,er id,?_⟩
    ·dsimp only;rw [ma,<- g1,f2,Ak (by omega)];rfl
    ·rintro rfl;have hb:=f3.2.2.1 rfl;have hr:bs=ik r.body b0:=by rw [f2,Ak (by omega)];rfl
     show ik r.body bs=bs;rw [hb];rw [hb] at hr;exact hr.symm
    ·show 2*bs.count false+(if ch=true then 1 else 0)<2*b0.count false+(if true=true then 1 else 0);have h1:=f3.2.1;have h2:=f3.2.2.2;cases ch with
     | false=>simp;omega
     | true=>have:=h2 rfl;simp;omega
variable [Bnds]
theorem rq {α:Type} {f:α->Int}:∀ {l:List α},b8 f l=0->∀ x∈l,f x=0
 | [],_,x,hx=>by simp at hx
 | y::l,h,x,hx=>by
  unfold b8 at h
  split at h
  ·rename_i hn;exact absurd h hn
  ·rename_i hn
   rcases List.mem_cons.1 hx with rfl|hx
   ·exact Decidable.not_not.1 hn
   ·exact rq h x hx
theorem termE_ok {vars:Int} {t:Trm} (h0:0<=vars) (h:vd vars t=0):okT vars.toNat t:=by
 unfold vd at h;split at h
 ·cases h
 ·rename_i hn;rw [Bool.not_eq_false] at hn;have:=k5 hn
  unfold okT;omega
theorem litE_ok {ar:List Int} {vars:Int} {l:Ltl} (h0:0<=vars) (h:j7 ar vars l=0):(∀ t∈l.terms,okT vars.toNat t)/\(l.kind=4->l.terms.length=3):=by
 have ht:nw vars l.terms=0->∀ t∈l.terms,okT vars.toNat t:=λh t ht=>termE_ok h0 (rq h t ht)
 unfold j7 at h;split at h
 ·cases h
 split at h
 ·cases h
 split at h
 ·split at h
  ·cases h
  split at h
  ·cases h
  exact⟨ht h,λhk=>by omega⟩
 ·split at h
  ·cases h
  exact⟨ht h,λhk=>by omega⟩
theorem any_false (l:List Bool):(l.any λx=>eqB x false) = !l.all id:=by
 induction l with
 | nil=>rfl
 | cons b l ih=>rw [List.any_cons,Dp,ih];cases b<;>rfl
abbrev prgB (p:Prg):HB:=.blk 26 [.d (.slice 1 (p.arity.map ah)),.d (.slice 1 (p.names.map dl)),.d (.slice 5 (p.rules.map a6))]
theorem rule_fn (p:Prg) (r:Rul):Fn 159 [db p,k8 r] (λx=>x = .d (.int .i64 (mg p.arity r))):=by
 refine fqE Tryz.func159 ?_;intro O w0 E0 β0;have la:(p.arity.map ah).length=p.arity.length:=Aa _;have lb:(r.terms.map aw).length=r.terms.length:=Aa _;have lc:(r.body.map ay).length=r.body.length:=Aa _;refine ew 0 0 rfl rfl (λhk=>?_);refine ew 1 1 rfl rfl (λhk2=>?_);refine ew 1 3 rfl rfl (λhk3=>?_);have w1:=ez r.pred 0 (((p.arity.map ah).length:Int)-1);have w2:=ez r.vars 0 8;have w3:=ez r.fold 0 4;unfold mg;rw [<- la,<- lb,<- lc];by_cases hp:inR r.pred 0 (((p.arity.map ah).length:Int)-1)=true
 ·have hp':=k5 hp;have hA:=arity_at (p:=p) (n:=r.pred) (by omega) (by omega);rw [hp] at w1 ⊢;rw [if_neg (show ¬ (true=false) by decide),hA];by_cases hv:inR r.vars 0 8=true
  ·have hv':=k5 hv;rw [hv] at w2 ⊢;rw [if_neg (show ¬ (true=false) by decide)];have w4:=terms_fn r.terms r.vars hv'.1 hv'.2;clear hv hp hA;have w5:=λl=>lit_fn p l r.vars hv'.1 hv'.2
   generalize nw r.vars r.terms=te at w4 ⊢;generalize inR r.fold 0 4=fo at w3 ⊢;repeat' (first|refine zr ?_|refine z21 ?_ (hc:=by apply w1)|refine z21 ?_ (hc:=by apply w2)|refine z21 ?_ (hc:=by apply w3)|refine z21 ?_ (hc:=by apply w4)|(refine zm ?_ ?_<;>intro hg)|fail)
   all_goals try (refine br rfl ?_;(repeat' split)<;>(first|rfl|(exfalso;omega)|(exfalso;simp_all;done)))
   all_goals
    have hfin:∀ e,b8 (j7 p.arity r.vars) r.body=e->(if (((r.terms.map aw).length:Nat):Int)≠p.arity[r.pred.toNat]'(by omega) then 1 else if te≠0 then te else if fo=false then 7 else if r.fold≠0/\((r.terms.map aw).length=0∨(r.body.map ay).length=0) then 1 else if 4<(r.body.map ay).length then 2 else if b8 (j7 p.arity r.vars) r.body≠0 then b8 (j7 p.arity r.vars) r.body else if ri r=false then 4 else 0)=if e≠0 then e else if ri r=false then 4 else 0:=by
     rintro e rfl;(repeat' split)<;>(first|rfl|(exfalso;omega)|(exfalso;simp_all;done))
    generalize (if (((r.terms.map aw).length:Nat):Int)≠p.arity[r.pred.toNat]'(by omega) then 1 else if te≠0 then te else if fo=false then 7 else if r.fold≠0/\((r.terms.map aw).length=0∨(r.body.map ay).length=0) then 1 else if 4<(r.body.map ay).length then 2 else if b8 (j7 p.arity r.vars) r.body≠0 then b8 (j7 p.arity r.vars) r.body else if ri r=false then 4 else 0)=res at hfin ⊢;refine ak (ι:=Nat) (λi=>⟨2,[(2,.loc 0 0),(3,.loc 1 0),(4,.d (.int .i64 0)),(69,.d (.slice 4 (r.body.map ay))),(70,.d (.int .i64 (r.body.map ay).length)),(71,.d (.int .i64 i))],[(0,prgB p),(1,nu r)]⟩)
     (λi=>i<=r.body.length/\b8 (j7 p.arity r.vars) r.body=b8 (j7 p.arity r.vars) (r.body.drop i)) (λi=>r.body.length-i) 0 ⟨Ai _,rfl⟩ (er id) ?_
    rintro i ⟨g1,g2⟩;by_cases hi:i<r.body.length
    ·rw [gz hi] at g2;have w6:=w5 r.body[i];generalize j7 p.arity r.vars r.body[i]=le at w6 g2;repeat' (first|refine zr ?_|refine z21 ?_ (hc:=by apply w6)|(refine zm ?_ ?_<;>intro hg)|fail)
     all_goals first
      | (exfalso;omega)
      | (refine br rfl ?_;rw [hfin le (by rw [g2,if_pos (by assumption)]),if_pos (by assumption)];done)
      | exact⟨i+1,⟨by omega,by rw [g2,if_neg (by assumption)]⟩,er id,by show r.body.length-(i+1)<r.body.length-i;omega⟩
    ·rw [jh (by omega)] at g2;have hall:=rq g2;have w7:=bound_fn r hv'.1 hv'.2 (λl hl=>(litE_ok hv'.1 (hall l hl)).1) (λl hl=>(litE_ok hv'.1 (hall l hl)).2);have w8:=containsB_fn false (u7 r);rw [any_false] at w8;rw [hfin 0 g2,if_neg (by decide)];unfold ri;generalize (u7 r).all id=sb at w8 ⊢;repeat' (first|refine zr ?_|refine z21 ?_ (hc:=by apply w7)|refine z21 ?_ (hc:=by apply w8)|(refine zm ?_ ?_<;>intro hg)|fail)
     all_goals first
      | (exfalso;omega)
      | (refine br rfl ?_;simp_all;done)
  ·rw [Dj] at hv;rw [hv] at w2 ⊢;repeat' (first|refine zr ?_|refine z21 ?_ (hc:=by apply w1)|refine z21 ?_ (hc:=by apply w2)|(refine zm ?_ ?_<;>intro hg)|fail)
   all_goals exact br rfl (by simp_all)
 ·rw [Dj] at hp;rw [hp] at w1 ⊢;rw [if_pos rfl];repeat' (first|refine zr ?_|refine z21 ?_ (hc:=by apply w1)|fail)
  all_goals exact br rfl rfl
theorem check_fn (p:Prg):Fn 109 [db p] (λx=>x = .d (.int .i64 (dw xh p))):=by
 refine fqE Tryz.func109 ?_;intro O w0 E0 β0;have la:(p.arity.map ah).length=p.arity.length:=Aa _;have lb:(p.names.map dl).length=p.names.length:=Aa _;have lc:(p.rules.map a6).length=p.rules.length:=Aa _;refine ew 0 0 rfl rfl (λhk=>?_);refine ew 0 2 rfl rfl (λhk2=>?_);unfold dw;by_cases h1:10<p.arity.length∨12<p.rules.length
 ·rw [if_pos h1];repeat' (first|refine zr ?_|(refine zm ?_ ?_<;>intro hg)|fail)
  all_goals first
   | (exfalso;omega)
   | exact br rfl rfl
 ·rw [if_neg h1];by_cases h2:p.names.length≠p.arity.length
  ·rw [if_pos h2];repeat' (first|refine zr ?_|(refine zm ?_ ?_<;>intro hg)|fail)
   all_goals first
    | (exfalso;omega)
    | exact br rfl rfl
  ·rw [if_neg h2];have w1:=preds_fn p (by omega);generalize ij (o6 xh p) 0 p.names.length=ne at w1 ⊢;repeat' (first|refine zr ?_|refine z21 ?_ (hc:=by apply w1)|(refine zm ?_ ?_<;>intro hg)|(exfalso;omega))
   ·exact br rfl (by rw [if_pos hg])
   rw [if_neg hg];refine ak (ι:=Nat) (λi=>⟨1,[(1,.loc 0 0),(2,.d (.int .i64 0)),(32,.d (.slice 5 (p.rules.map a6))),(33,.d (.int .i64 (p.rules.map a6).length)),(34,.d (.int .i64 i))],[(0,prgB p)]⟩)
    (λi=>i<=p.rules.length/\b8 (mg p.arity) p.rules=b8 (mg p.arity) (p.rules.drop i)) (λi=>p.rules.length-i) 0 ⟨Ai _,rfl⟩ (er id) ?_
   rintro i ⟨g1,g2⟩;by_cases hi:i<p.rules.length
   ·rw [gz hi] at g2;have w6:=rule_fn p p.rules[i];generalize mg p.arity p.rules[i]=le at w6 g2;repeat' (first|refine zr ?_|refine z21 ?_ (hc:=by apply w6)|(refine zm ?_ ?_<;>intro hg)|fail)
    all_goals first
     | (exfalso;omega)
     | (refine br rfl ?_;rw [g2,if_pos (by assumption)];done)
     | exact⟨i+1,⟨by omega,by rw [g2,if_neg (by assumption)]⟩,er id,by show p.rules.length-(i+1)<p.rules.length-i;omega⟩
   ·rw [jh (by omega)] at g2;repeat' (first|refine zr ?_|(refine zm ?_ ?_<;>intro hg)|fail)
    all_goals first
     | (exfalso;omega)
     | exact br rfl g2.symm
variable [Bnds]
theorem em (n a b:Int):Fn 87 [.d (.int .i64 n),.d (.int .i64 a),.d (.int .i64 b)] (λr=>r = .d (.bool (inR n a b))):=ra n a b
theorem kh (n:Int):Fn 88 [.d (.int .i64 n)] (λr=>r = .d (.bool (numB n))):=by
 refine fqE Tryz.func88 ?_;intro O w0 E0 β0;unfold numB;repeat' (first|refine zr ?_|refine z21 ?_ (hc:=by apply em)|fail)
 exact cm rfl rfl
theorem rterms_fn (l:List Trm) (vars:Int) (h0:0<=vars) (h8:vars<=8):Fn 205 [.d (.slice 2 (l.map aw)),.d (.int .i64 vars)] (λr=>r = .d (.int .i64 (nw vars l))):=by
 refine fqE Tryz.func205 ?_;intro O w0 E0 β0;have la:(l.map aw).length=l.length:=Aa _;unfold nw;refine l9 (t:=0) rfl (λhk=>?_);repeat' (first|refine zs ?_|fail)
 refine ak (ι:=Nat) (λi=>⟨0,[(0,.d (.slice 2 (l.map aw))),(1,.d (.int .i64 vars)),(4,.d (.int .i64 0)),(5,.d (.int .i64 i))],[]⟩)
  (λi=>i<=l.length/\b8 (vd vars) l=b8 (vd vars) (l.drop i)) (λi=>l.length-i) 0 ⟨Ai _,rfl⟩ (er id) ?_
 rintro i ⟨g1,g2⟩;by_cases hi:i<l.length
 ·rw [gz hi,show vd vars l[i]=if inR l[i].var (-1) (vars-1)=false then 5 else if numB l[i].n=false∨(0<=l[i].var/\l[i].n≠0) then 3 else 0 from rfl] at g2;repeat' (first|refine zr ?_|refine z21 ?_ (hc:=by apply em)|refine z21 ?_ (hc:=by apply kh)|(refine zm ?_ ?_<;>intro hg)|fail)
  all_goals first
   | exact absurd hg (by omega)
   | exact br rfl (by rw [g2];simp_all<;>omega)
   | exact⟨i+1,⟨by omega,by rw [g2];simp_all<;>omega⟩,er id,by show l.length-(i+1)<l.length-i;omega⟩
 ·rw [jh (by omega)] at g2;repeat' (first|refine zr ?_|refine z21 ?_ (hc:=by apply em)|refine z21 ?_ (hc:=by apply kh)|(refine zm ?_ ?_<;>intro hg)|fail)
  all_goals first
   | exact absurd hg (by omega)
   | exact br rfl g2.symm
theorem isWord_fn (s:ByteArray):Fn 204 [.d (.str s)] (λr=>r = .d (.bool (wordB s))):=by
 refine fqE Tryz.func204 ?_;intro O w0 E0 β0;unfold wordB wordsL;repeat' (first|refine zr ?_|(refine zm ?_ ?_<;>intro hg)|fail)
 all_goals exact cm rfl (by simp_all [eqS])
def dx (s:ByteArray):Bool:=isTok 1 s && !wordB s
theorem isName_fn (s:ByteArray):Fn 142 [.d (.str s)] (λr=>r = .d (.bool (dx s))):=by
 refine fqE Tryz.func142 ?_;intro O w0 E0 β0;unfold dx;repeat' (first|refine zr ?_|refine z21 ?_ (hc:=by apply isToken_fn)|refine z21 ?_ (hc:=by apply isWord_fn)|(refine zm ?_ ?_<;>intro hg)|fail)
 all_goals exact cm rfl (by simp_all)
def lq (bs:List Bool) (l:Ltl):Nat:=if l.kind=4 then (if b9 bs l then 2 else 3) else 0
theorem bLit_first {bs:List Bool} {l:Ltl} (h3:l.kind=4->l.terms.length=3):k9 bs l=if l.kind=1∨l.kind=4 then (l.terms.drop (lq bs l)).foldl jb bs else bs:=by
 unfold k9 lq dq;by_cases k1:l.kind=1
 ·have hf:b9 bs l=true:=by unfold b9;rw [decide_eq_true k1];rfl
  simp [hf,k1]
 ·by_cases k4:l.kind=4
  ·cases hf:b9 bs l with
   | true=>simp [k4]
   | false =>
    have hd:l.terms.drop 3=[]:=Ax (by have:=h3 k4;omega);simp [k4,hd]
  ·have hf:b9 bs l=false:=by unfold b9;rw [decide_eq_false k1,decide_eq_false k4];rfl
   simp [hf,k1,k4]
abbrev litB (l:Ltl):HB:=.blk 68 [.d (.int .i64 l.kind),.d (.int .i64 l.op),.d (.int .i64 l.pred),.d (.slice 2 (l.terms.map aw))]
theorem safe_fn (r:Rul) (hb4:r.body.length<=4) (h0:0<=r.vars) (h8:r.vars<=8) (hok:∀ l∈r.body,∀ t∈l.terms,okT r.vars.toNat t) (h3:∀ l∈r.body,l.kind=4->l.terms.length=3) :
  Fn 206 [k8 r] (λx=>x = .d (.bool (ri r))):=by
 refine fqE Tryz.func206 ?_;intro O w0 E0 β0;have lb:(r.body.map ay).length=r.body.length:=Aa _;refine ew 0 3 rfl rfl (λhk=>?_);repeat' (first|refine zs ?_|fail)
 refine ds_mk ((An r.vars.toNat false).map bz) rfl rfl (Az h0).symm rfl rfl rfl rfl rfl rfl (by show 1*_<=_;omega) (by unfold maxLen;omega) (by rw [C2];rfl) rfl rfl ?_;repeat' (first|refine zs ?_|fail)
 refine ak (ι:=Nat×List Bool) (λx=>⟨2,[(1,.loc 0 0),(2,.d (.bool false)),(3,.row 1),(4,.d (.int .i64 x.1))],[(0,nu r),(1,.row 4 1 (x.2.map bz))]⟩)
  (λx=>x.1<=r.body.length+1/\x.2=e9 r.body x.1 (An r.vars.toNat false)) (λx=>r.body.length+1-x.1)
  (0,An r.vars.toNat false) ⟨Ai _,rfl⟩ (er id) ?_
 rintro⟨n,b0⟩ ⟨g1,g2⟩;dsimp only at g1 g2 ⊢;have hlen:b0.length=r.vars.toNat:=by rw [g2,tf,Ci]
 by_cases hn:n<r.body.length+1
 ·repeat' (first|refine zs ?_|(refine zm ?_ ?_<;>intro hg)|(exfalso;omega))
  refine ak (ι:=Nat×List Bool) (λx=>⟨2,[(1,.loc 0 0),(2,.d (.bool false)),(3,.row 1),(4,.d (.int .i64 n)),(5,.d (.int .i64 x.1))],[(0,nu r),(1,.row 4 1 (x.2.map bz))]⟩)
   (λx=>x.1<=r.body.length/\x.2=(r.body.take x.1).foldl k9 b0) (λx=>r.body.length-x.1)
   (0,b0) ⟨Ai _,rfl⟩ (er id) ?_
  rintro⟨i,bs⟩ ⟨f1,f2⟩;dsimp only at f1 f2 ⊢;have hbl:bs.length=r.vars.toNat:=by rw [f2,bLits_len,hlen]
  by_cases hi:i<r.body.length
  ·have hlok:=hok r.body[i] (Ag hi);have h3':=h3 r.body[i] (Ag hi);have hf:k9 bs r.body[i]=(r.body.take (i+1)).foldl k9 b0:=by rw [foldl_take k9 b0 hi,<- f2]
   rw [bLit_first h3'] at hf;repeat' ((fail_if_success (apply iz 10));(first|refine zs ?_|(refine zm ?_ ?_<;>intro hg)|fail))
   all_goals try (exfalso;omega)
   generalize r.body[i]=l at hlok h3' hf ⊢;have ll:(l.terms.map aw).length=l.terms.length:=Aa _;have lbs:(bs.map bz).length=bs.length:=Aa _;refine dw_cut (ι:=Unit) (λ_=>⟨3,[(1,.loc 0 0),(2,.d (.bool false)),(3,.row 1),(4,.d (.int .i64 n)),(5,.d (.int .i64 i)),(6,.loc 2 0),(7,.d (.int .i64 (lq bs l)))],[(0,nu r),(1,.row 4 1 (bs.map bz)),(2,litB l)]⟩) (λ_=>True) ?_ ?_
   ·by_cases k4:l.kind=4
    ·have h3l:=h3' k4;have hf4:=fires4 (bs:=bs) (by omega) k4 h3l;have hlok':∀ t∈l.terms,okT bs.length t:=by rw [hbl];exact hlok
     repeat' (first|refine zs ?_|(refine zm ?_ ?_<;>intro hg)|(exfalso;omega))
     refine ak (ι:=Nat×Int) (λx=>⟨3,[(1,.loc 0 0),(2,.d (.bool false)),(3,.row 1),(4,.d (.int .i64 n)),(5,.d (.int .i64 i)),(6,.loc 2 0),(7,.d (.int .i64 x.2)),(8,.d (.int .i64 x.1))],[(0,nu r),(1,.row 4 1 (bs.map bz)),(2,litB l)]⟩)
      (λx=>x.1<=2/\x.2=if (l.terms.take x.1).all (isT bs) then 2 else 3) (λx=>2-x.1)
      (0,2) ⟨Ai _,rfl⟩ (er id) ?_
     rintro⟨j,f⟩ ⟨e1,e2⟩;dsimp only at e1 e2 ⊢;by_cases hj:j<2
     ·have hq:=hlok' (l.terms[j]'(by omega)) (Ag _);have e3:(l.terms.take (j+1)).all (isT bs)=((l.terms.take j).all (isT bs) && isT bs (l.terms[j]'(by omega))):=by
       rw [Am (by omega),List.all_append];simp
      by_cases hneg:(l.terms[j]'(by omega)).var<0
      ·rw [isT_pos hneg,Fo] at e3;repeat' (first|refine zs ?_|(refine zm ?_ ?_<;>intro hg)|(exfalso;omega))
       all_goals exact⟨(j+1,f),⟨by omega,by dsimp only;rw [e3,e2]⟩,er id,by show 2-(j+1)<2-j;omega⟩
      ·rw [isT_neg hneg hq] at e3;unfold okT at hq;repeat' (first|refine zs ?_|(refine zm ?_ ?_<;>intro hg)|(exfalso;omega))
       ·have hb:bs[(l.terms[j]'(by omega)).var.toNat]'(by omega)=false:=by simpa using hg
        exact⟨(j+1,3),⟨by omega,by dsimp only;rw [e3,hb,Bool.and_false];rfl⟩,er id,by show 2-(j+1)<2-j;omega⟩
       ·have hb:bs[(l.terms[j]'(by omega)).var.toNat]'(by omega)=true:=by simpa using hg
        exact⟨(j+1,f),⟨by omega,by dsimp only;rw [e3,hb,Fo,e2]⟩,er id,by show 2-(j+1)<2-j;omega⟩
     ·repeat' (first|refine zs ?_|(refine zm ?_ ?_<;>intro hg)|(exfalso;omega))
      refine⟨(),trivial,?_⟩
      have hff:f=(lq bs l:Int):=by
       unfold lq;rw [if_pos k4,e2,show j=2 by omega];have:b9 bs l=(l.terms.take 2).all (isT bs):=by unfold b9;rw [decide_eq_false (by omega),decide_eq_true k4];simp
       rw [this];split<;>rfl
      rw [hff];exact er id
    ·repeat' (first|refine zs ?_|(refine zm ?_ ?_<;>intro hg)|(exfalso;omega))
     refine⟨(),trivial,?_⟩
     unfold lq;rw [if_neg k4];exact er id
   ·intro _ _;have hfl:lq bs l<=3:=by unfold lq;split<;>(try split)<;>omega
    refine dw_lenC 2 3 rfl rfl (λhkl=>?_);repeat' (first|refine zs ?_|fail)
    by_cases hk14:l.kind=1∨l.kind=4
    ·rw [if_pos hk14] at hf;have hlok':∀ t∈l.terms,okT bs.length t:=by rw [hbl];exact hlok
     refine ak (ι:=Nat×List Bool) (λx=>⟨3,[(1,.loc 0 0),(2,.d (.bool false)),(3,.row 1),(4,.d (.int .i64 n)),(5,.d (.int .i64 i)),(6,.loc 2 0),(9,.d (.int .i64 x.1))],[(0,nu r),(1,.row 4 1 (x.2.map bz)),(2,litB l)]⟩)
      (λx=>x.2.length=bs.length/\(l.terms.drop x.1).foldl jb x.2=(l.terms.drop (lq bs l)).foldl jb bs/\x.1<=l.terms.length+3) (λx=>l.terms.length+3-x.1)
      (lq bs l,bs) ⟨rfl,rfl,by dsimp only;omega⟩ (er id) ?_
     rintro⟨j,bj⟩ ⟨e1,e2,e3⟩;dsimp only at e1 e2 e3 ⊢;have lbj:(bj.map bz).length=bj.length:=Aa _;by_cases hj:j<l.terms.length
     ·have hq:=hlok' l.terms[j] (Ag hj);rw [<- e1] at hq;rw [Ao hj,A2] at e2;by_cases hneg:l.terms[j].var<0
      ·have hst:jb bj l.terms[j]=bj:=by unfold jb;rw [if_pos hneg]
       rw [hst] at e2;repeat' (first|refine z0 ?_|refine z12 ?_|apply jj|(apply ke;exact rfl;exact rfl;(apply ig;(omega));exact rfl;exact rfl;(exact j9 rfl);exact rfl;exact rfl;exact rfl;exact rfl;exact rfl;exact rfl)|refine zs ?_|(refine zm ?_ ?_<;>intro hg)|(exfalso;omega))
       all_goals exact⟨(j+1,bj),⟨e1,e2,by dsimp only;omega⟩,er id,by show l.terms.length+3-(j+1)<l.terms.length+3-j;omega⟩
      ·have hst:jb bj l.terms[j]=bj.set l.terms[j].var.toNat true:=by unfold jb;rw [if_neg hneg]
       rw [hst] at e2;unfold okT at hq;repeat' (first|refine z0 ?_|refine z12 ?_|apply jj|(apply ke;exact rfl;exact rfl;(apply ig;(omega));exact rfl;exact rfl;(exact j9 rfl);exact rfl;exact rfl;exact rfl;exact rfl;exact rfl;exact rfl)|refine zs ?_|(refine zm ?_ ?_<;>intro hg)|(exfalso;omega))
       all_goals exact⟨(j+1,bj.set l.terms[j].var.toNat true),⟨by dsimp only;rw [A3];exact e1,e2,by dsimp only;omega⟩,er id,by show l.terms.length+3-(j+1)<l.terms.length+3-j;omega⟩
     ·rw [Ax (by omega)] at e2;have e2:bj=(l.terms.drop (lq bs l)).foldl jb bs:=e2;repeat' (first|refine z0 ?_|refine z12 ?_|apply jj|(apply ke;exact rfl;exact rfl;(apply ig;(omega));exact rfl;exact rfl;(exact j9 rfl);exact rfl;exact rfl;exact rfl;exact rfl;exact rfl;exact rfl)|refine zs ?_|(refine zm ?_ ?_<;>intro hg)|(exfalso;omega))
      all_goals exact⟨(i+1,bj),⟨by omega,by dsimp only;rw [e2,hf]⟩,er id,by show r.body.length-(i+1)<r.body.length-i;omega⟩
    ·rw [if_neg hk14] at hf;refine ak (ι:=Unit) (λ_=>⟨3,[(1,.loc 0 0),(2,.d (.bool false)),(3,.row 1),(4,.d (.int .i64 n)),(5,.d (.int .i64 i)),(6,.loc 2 0),(9,.d (.int .i64 (lq bs l)))],[(0,nu r),(1,.row 4 1 (bs.map bz)),(2,litB l)]⟩)
      (λ_=>True) (λ_=>0) () trivial (er id) ?_
     intro _ _;repeat' (first|refine z0 ?_|refine z12 ?_|apply jj|(apply ke;exact rfl;exact rfl;(apply ig;(omega));exact rfl;exact rfl;(exact j9 rfl);exact rfl;exact rfl;exact rfl;exact rfl;exact rfl;exact rfl)|refine zs ?_|(refine zm ?_ ?_<;>intro hg)|(exfalso;omega))
     all_goals exact⟨(i+1,bs),⟨by omega,by rw [hf]⟩,er id,by show r.body.length-(i+1)<r.body.length-i;omega⟩
  ·repeat' (first|refine zs ?_|(refine zm ?_ ?_<;>intro hg)|(exfalso;omega))
   refine⟨(n+1,bs),⟨by omega,?_⟩,er id,by show r.body.length+1-(n+1)<r.body.length+1-n;omega⟩
   dsimp only;rw [ma,<- g2,f2,Ak (by omega)];rfl
 ·repeat' (first|refine zs ?_|(refine zm ?_ ?_<;>intro hg)|(exfalso;omega))
  have hb:b0=u7 r:=by rw [g2,show n=r.body.length+1 by omega];rfl
  unfold ri;rw [<- hb];have lb0:(b0.map bz).length=b0.length:=Aa _;refine ak (ι:=Nat) (λx=>⟨2,[(1,.loc 0 0),(2,.d (.bool false)),(3,.row 1),(10,.d (.int .i64 x))],[(0,nu r),(1,.row 4 1 (b0.map bz))]⟩)
   (λx=>x<=b0.length/\b0.all id=(b0.drop x).all id) (λx=>b0.length-x)
   0 ⟨Ai _,rfl⟩ (er id) ?_
  rintro j ⟨e1,e2⟩;dsimp only at e1 e2 ⊢;by_cases hj:j<b0.length
  ·rw [Ao hj,Dp] at e2;repeat' (first|refine zr ?_|(refine zm ?_ ?_<;>intro hg)|(exfalso;omega))
   ·refine cm rfl ?_;have hbj:b0[j]=false:=by simpa using hg
    rw [e2,hbj];rfl
   ·have hbj:b0[j]=true:=by simpa using hg
    exact⟨j+1,⟨by omega,by rw [e2,hbj];rfl⟩,er id,by show b0.length-(j+1)<b0.length-j;omega⟩
  ·rw [Ax (by omega)] at e2;repeat' (first|refine zr ?_|(refine zm ?_ ?_<;>intro hg)|(exfalso;omega))
   all_goals exact cm rfl (by rw [e2];rfl)
end
section
open Go Go.RowKit
variable [Bnds]
section
variable {Γ : Ctx} {l : List Oper} {κ : Nat}
structure GoO (l:List Oper) (listed:Array Bool) (rem:List (Nat×Oper)):Prop where
 size:listed.size=l.length
 closed:∀ j o,l[j]?=some o->listed.getD j false=true->∀ e∈o.after,Region.binds .any e=true->listed.getD e.on false=true
 left:∀ q,q∈rem↔l[q.1]?=some q.2/\listed.getD q.1 true=false
 sorted:rem.Pairwise (λp q=>p.1≠q.1/\mt l p.1 q.1=false)
theorem GoO.rest {listed:Array Bool} {rem pre post:List (Nat×Oper)} {i:Nat} {o:Oper} (g:GoO l listed rem) (hr:i∈Region.ready .any l.toArray listed) (he:rem=pre++(i,o)::post) (hi:l[i]?=some o):GoO l (listed.setIfInBounds i true) (pre++post) where
 size:=by simp [g.size]
 closed j oj hj hl e he' hb:=by
  have key:∀ x,listed.getD x false=true->(listed.setIfInBounds i true).getD x false=true:=by
   intro x hx;by_cases hix:i=x
   ·subst hix;have:i<listed.size:=by rw [g.size];exact bf hi
    simp [this]
   ·rw [getD_set_ne false hix];exact hx
  by_cases hij:i=j
  ·subst hij;obtain⟨_,o',ho',hall⟩:=mem_ready.1 hr;have ho2:l[i]?=some o':=by simpa using ho'
   rw [hj] at ho2;cases ho2;exact key _ (hall e he' hb)
  ·rw [getD_set_ne false hij] at hl;exact key _ (g.closed j oj hj hl e he' hb)
 left q:=by
  have hs:=g.sorted;rw [he] at hs;have hne:∀ q∈pre++post,q.1≠i:=by
   intro q hq hqi;rw [List.pairwise_append] at hs;obtain⟨_,h2,h3⟩:=hs;rcases List.mem_append.1 hq with h|h
   ·exact (h3 q h (i,o) (Ae ..)).1 hqi
   ·exact ((List.pairwise_cons.1 h2).1 q h).1 hqi.symm
  constructor
  ·intro hq;have h1:q∈rem:=by rw [he];rcases List.mem_append.1 hq with h|h<;>simp [h]
   obtain⟨a,b⟩:=(g.left q).1 h1;exact⟨a,by rw [getD_set_ne true (Ne.symm (hne q hq))];exact b⟩
  ·rintro⟨a,b⟩;have hqi:i≠q.1:=by
    intro h;have:i<listed.size:=by rw [g.size];exact bf hi
    rw [<- h] at b;simp [this] at b
   rw [getD_set_ne true hqi] at b;have h1:=(g.left q).2 ⟨a,b⟩;rw [he] at h1;simp only [List.mem_append,List.mem_cons] at h1 ⊢;rcases h1 with h|h|h
   ·exact .inl h
   ·exact absurd (by rw [h]) hqi
   ·exact .inr h
 sorted:=by
  have hs:=g.sorted;rw [he] at hs;exact hs.sublist (List.Sublist.append (List.Sublist.refl _) (List.sublist_cons_self _ _))
end
variable [Bnds]
abbrev RE:=List (Option Int)
def vOf (e:RE) (t:Trm):Option Int:=if t.var<0 then some t.n else e.getD t.var.toNat none
def vA (a:List Int) (t:Trm):Int:=if t.var<0 then t.n else a.getD t.var.toNat 0
def bm (e:RE):List Bool:=e.map Option.isSome
def bl (e:RE):List Int:=e.map λx=>x.getD 0
def kb (e:RE) (a:List Int):Prop:=a.length=e.length/\∀ (v:Nat) (x:Int),e[v]?=some (some x)->a[v]?=some x
def ce:RE->List Trm->List Int->Option RE
 | e,t::ts,n::ns=>match vOf e t with
  | some x=>if x=n then ce e ts ns else none
  | none=>ce (e.set t.var.toNat (some n)) ts ns
 | e,_,_=>some e
theorem cg (e:RE):(bm e).length=e.length:=Aa _
theorem dn (e:RE):(bl e).length=e.length:=Aa _
theorem qr (e:RE) (t:Trm):isT (bm e) t=(vOf e t).isSome:=by
 unfold isT vOf bm;by_cases h:t.var<0
 ·simp [h]
 ·simp only [h,decide_false,Cb,if_false,A9,Bl];cases e[t.var.toNat]?<;>rfl
theorem vOf_out {e:RE} {t:Trm} {x:Int} (h:vOf e t=some x):vA (bl e) t=x:=by
 unfold vOf at h;unfold vA bl;by_cases hv:t.var<0
 ·simp [hv] at h ⊢;exact h
 ·simp only [hv,if_false,A9,Bl] at h ⊢;cases he:e[t.var.toNat]? with
  | none=>rw [he] at h;simp at h
  | some y=>rw [he] at h;simp at h;subst h;rfl
theorem vOf_ext {e:RE} {a:List Int} {t:Trm} {x:Int} (h:kb e a) (hx:vOf e t=some x):vA a t=x:=by
 unfold vOf at hx;unfold vA;by_cases hv:t.var<0
 ·simp [hv] at hx ⊢;exact hx
 ·simp only [hv,if_false,A9] at hx ⊢;cases he:e[t.var.toNat]? with
  | none=>rw [he] at hx;simp at hx
  | some y =>
   rw [he] at hx;simp at hx;subst hx;rw [h.2 _ _ he];rfl
theorem vA_same {e:RE} {a:List Int} {t:Trm} (h:kb e a) (hx:(vOf e t).isSome=true):vA a t=vA (bl e) t:=by
 obtain⟨x,hx⟩:=Option.isSome_iff_exists.1 hx;rw [vOf_ext h hx,vOf_out hx]
theorem set_ext' {e:RE} {a:List Int} {t:Trm} {n:Int} (ho:okT e.length t) (hn:vOf e t=none):kb (e.set t.var.toNat (some n)) a↔kb e a/\vA a t=n:=by
 unfold vOf at hn;unfold okT at ho;have hv:¬ t.var<0:=λh=>by simp [h] at hn
 simp only [hv,if_false,A9] at hn;have hlt:t.var.toNat<e.length:=by omega
 have he:e[t.var.toNat]?=some none:=by
  rw [Ab hlt] at hn ⊢;simpa using hn
 unfold kb vA;rw [A3];simp only [hv,if_false];constructor
 ·rintro⟨h1,h2⟩;have h3:=h2 t.var.toNat n (by rw [By hlt]);refine⟨⟨h1,λv x hx=>?_⟩,by rw [A9,h3];rfl⟩
  by_cases hq:t.var.toNat=v
  ·subst hq;rw [he] at hx;cases hx
  ·exact h2 v x (by rw [Cf hq];exact hx)
 ·rintro⟨⟨h1,h2⟩,h3⟩;refine⟨h1,λv x hx=>?_⟩
  by_cases hq:t.var.toNat=v
  ·subst hq;rw [By hlt] at hx;simp at hx;subst hx;rw [A9,Ab (by omega)] at h3;rw [Ab (by omega)];simpa using h3
  ·exact h2 v x (by rw [Cf hq] at hx;exact hx)
theorem set_has {e:RE} {t:Trm} {n:Int} (hn:vOf e t=none):bm (e.set t.var.toNat (some n))=jb (bm e) t:=by
 have hv:¬ t.var<0:=λh=>by unfold vOf at hn;simp [h] at hn
 unfold bm jb;rw [if_neg hv,List.map_set];rfl
theorem fh:∀ {ts:List Trm} {ns:List Int} {e e':RE},ts.length=ns.length->(∀ t∈ts,okT e.length t)->ce e ts ns=some e' ->
  e'.length=e.length/\(∀ a,kb e' a↔kb e a/\ts.map (vA a)=ns)/\bm e'=ts.foldl jb (bm e)
 | [],[],e,e',_,_,h=>by
  simp only [ce,Option.some.injEq] at h;subst h;exact⟨rfl,λa=>by simp,rfl⟩
 | t::ts,n::ns,e,e',hl,ho,h=>by
  have hl':ts.length=ns.length:=by simpa using hl
  rw [ce] at h;cases hv:vOf e t with
  | some x =>
   rw [hv] at h;simp only at h;split at h
   ·rename_i hx;subst hx;obtain⟨h1,h2,h3⟩:=fh hl' (λy hy=>ho y (Ah _ hy)) h;refine⟨h1,λa=>?_,?_⟩
    ·rw [h2,A7,List.cons.injEq];exact⟨fun⟨g1,g2⟩=>⟨g1,vOf_ext g1 hv,g2⟩,fun⟨g1,_,g2⟩=>⟨g1,g2⟩⟩
    ·rw [h3,A2,p5 (by rw [qr,hv];rfl)]
   ·cases h
  | none =>
   rw [hv] at h;simp only at h;obtain⟨h1,h2,h3⟩:=fh hl' (λy hy=>by rw [A3];exact ho y (Ah _ hy)) h;refine⟨by rw [h1,A3],λa=>?_,?_⟩
   ·rw [h2,set_ext' (ho t (Ae ..)) hv,A7,List.cons.injEq,and_assoc]
   ·rw [h3,A2,set_has hv]
 | [],_::_,_,_,hl,_,_=>by simp at hl
 | _::_,[],_,_,hl,_,_=>by simp at hl
theorem rl:∀ {ts:List Trm} {ns:List Int} {e:RE},ts.length=ns.length->(∀ t∈ts,okT e.length t)->ce e ts ns=none->∀ a,kb e a->ts.map (vA a)≠ns
 | [],[],e,_,_,h,_,_=>by simp [ce] at h
 | t::ts,n::ns,e,hl,ho,h,a,ha=>by
  have hl':ts.length=ns.length:=by simpa using hl
  rw [ce] at h;intro hm;rw [A7,List.cons.injEq] at hm;cases hv:vOf e t with
  | some x =>
   rw [hv] at h;simp only at h;split at h
   ·exact rl hl' (λy hy=>ho y (Ah _ hy)) h a ha hm.2
   ·rename_i hx;exact hx ((vOf_ext ha hv).symm.trans hm.1)
  | none =>
   rw [hv] at h;simp only at h;exact rl hl' (λy hy=>by rw [A3];exact ho y (Ah _ hy)) h a ((set_ext' (ho t (Ae ..)) hv).2 ⟨ha,hm.1⟩) hm.2
 | [],_::_,_,hl,_,_,_,_=>by simp at hl
 | _::_,[],_,hl,_,_,_,_=>by simp at hl
def zu (op a b:Int):Bool:=if op=1 then decide (a<b) else if op=2 then decide (a<=b) else if op=3 then decide (a=b) else decide (a≠b)
def mu (op a b:Int):Int:=if op=5 then a+b else if op=6 then a-b else a*b
def ku (l:Ltl) (a:List Int):Int:=mu l.op ((l.terms.map (vA a)).getD 0 0) ((l.terms.map (vA a)).getD 1 0)
def holdE (S:List Fct) (l:Ltl) (a:List Int):Bool :=
 if l.kind=1 then hasF S ⟨l.pred,l.terms.map (vA a)⟩
 else if l.kind=2 then !hasF S ⟨l.pred,l.terms.map (vA a)⟩
 else if l.kind=3 then zu l.op ((l.terms.map (vA a)).getD 0 0) ((l.terms.map (vA a)).getD 1 0)
 else numB (ku l a) && decide (ku l a=(l.terms.map (vA a)).getD 2 0)
theorem map_same {e:RE} {a:List Int} (h:kb e a) {ts:List Trm} (hr:∀ t∈ts,(vOf e t).isSome=true):ts.map (vA a)=ts.map (vA (bl e)) :=
 List.map_congr_left λt ht=>vA_same h (hr t ht)
theorem holdE_same {S:List Fct} {l:Ltl} {e:RE} {a:List Int} (h:kb e a) (hr:∀ t∈l.terms,(vOf e t).isSome=true):holdE S l a=holdE S l (bl e):=by
 unfold holdE ku;rw [map_same h hr]
structure okL (S:List Fct) (v:Nat) (l:Ltl):Prop where
 kind:1<=l.kind/\l.kind<=4
 terms:∀ t∈l.terms,okT v t
 test2:l.kind=3->l.terms.length=2
 calc3:l.kind=4->l.terms.length=3
 facts:l.kind=1->∀ x∈S,x.pred=l.pred->x.args.length=l.terms.length
def zi (body:List Ltl) (bs:List Bool):Prop:=∀ l∈body,b9 bs l=true->∀ t∈dq l,isT bs t=true
def Bd (body:List Ltl) (bs:List Bool):Prop:=∀ cs,leB bs cs->zi body cs->∀ v,v<cs.length->cs.getD v false=true
theorem full_out {e:RE} (h:∀ v,v<(bm e).length->(bm e).getD v false=true) (a:List Int):kb e a↔a=bl e:=by
 rw [cg] at h;have he:∀ v,v<e.length->∃ x,e[v]?=some (some x):=λv hv=>by
  have:=h v hv
  unfold bm at this;rw [A9,Bl,Ab hv] at this;simp at this;obtain⟨x,hx⟩:=Option.isSome_iff_exists.1 this;exact⟨x,by rw [Ab hv,hx]⟩
 constructor
 ·rintro⟨h1,h2⟩;refine List.ext_getElem? λv=>?_
  by_cases hv:v<e.length
  ·obtain⟨x,hx⟩:=he v hv;rw [h2 v x hx];unfold bl;rw [Bl,hx];rfl
  ·rw [Ba (by omega),Ba (by rw [dn];omega)]
 ·rintro rfl;refine⟨dn e,λv x hx=>?_⟩
  unfold bl;rw [Bl,hx];rfl
theorem full_some {e:RE} (h:∀ v,v<(bm e).length->(bm e).getD v false=true) {t:Trm} (ho:okT e.length t):(vOf e t).isSome=true:=by
 rw [<- qr];unfold isT;unfold okT at ho;by_cases hv:t.var<0
 ·rw [decide_eq_true hv];rfl
 ·rw [h _ (by rw [cg];omega),G4]
variable [Bnds]
theorem numB_iff {n:Int}:numB n=true↔-1000000<=n/\n<=1000000:=by unfold numB inR;simp
theorem mul_small {a b:Int} (ha:-1000000<=a/\a<=1000000) (hb:-1000000<=b/\b<=1000000):-1000000000000<=a*b/\a*b<=1000000000000:=by
 have h1:a.natAbs<=1000000:=by omega
 have h2:b.natAbs<=1000000:=by omega
 have h3:(a*b).natAbs<=1000000*1000000:=by rw [Int.natAbs_mul];exact Nat.mul_le_mul h1 h2
 omega
attribute [local irreducible] DW DS DL DQ Ev FnOk FnP dp bh DT
theorem calcOf_fn (op a b:Int) (ha:-1000000<=a/\a<=1000000) (hb:-1000000<=b/\b<=1000000):Fn 263 [.d (.int .i64 op),.d (.int .i64 a),.d (.int .i64 b)] (λr=>r = .d (.int .i64 (mu op a b))):=by
 refine fqE Tryz.func263 ?_;intro O w0 E0 β0;have hm:=mul_small ha hb;unfold mu;by_cases h5:op=5
 ·rw [if_pos h5];repeat' (first|refine zr ?_|(refine zm ?_ ?_<;>intro hg)|(exfalso;omega))
  all_goals exact⟨.inl rfl,_,rfl,rfl,rfl⟩
 ·rw [if_neg h5];by_cases h6:op=6
  ·rw [if_pos h6];repeat' (first|refine zr ?_|(refine zm ?_ ?_<;>intro hg)|(exfalso;omega))
   all_goals exact⟨.inl rfl,_,rfl,rfl,rfl⟩
  ·rw [if_neg h6];repeat' (first|refine zr ?_|(refine zm ?_ ?_<;>intro hg)|(exfalso;omega))
   exact⟨.inl rfl,_,rfl,rfl,rfl⟩
theorem isReady_fn (l:List Trm) (bs:List Bool) (hok:∀ t∈l,okT bs.length t):Fn 262 [.d (.slice 2 (l.map aw)),.d (.slice 1 (bs.map bz))] (λr=>r = .d (.bool (l.all (isT bs)))):=by
 refine fqE Tryz.func262 ?_;intro O w0 E0 β0;have ll:(l.map aw).length=l.length:=Aa _;have lb:(bs.map bz).length=bs.length:=Aa _;refine l9 (t:=0) rfl (λhk=>?_);repeat' (first|refine zs ?_|fail)
 refine ak (ι:=Nat) (λi=>⟨0,[(0,.d (.slice 2 (l.map aw))),(1,.d (.slice 1 (bs.map bz))),(5,.d (.int .i64 i))],[]⟩)
  (λi=>i<=l.length/\l.all (isT bs)=(l.drop i).all (isT bs)) (λi=>l.length-i) 0 ⟨Ai _,rfl⟩ (er id) ?_
 rintro i ⟨g1,g2⟩;dsimp only at g1 g2 ⊢;by_cases hi:i<l.length
 ·have ho:=hok l[i] (Ag hi);unfold okT at ho;rw [Ao hi,Dp] at g2;by_cases hv:l[i].var<0
  ·have ht:isT bs l[i]=true:=by unfold isT;rw [decide_eq_true hv];rfl
   rw [ht,Bo] at g2;repeat' (first|refine zs ?_|(refine zm ?_ ?_<;>intro hg)|(exfalso;omega))
   all_goals exact⟨i+1,⟨hi,g2⟩,er id,by omega⟩
  ·have hlt:l[i].var.toNat<bs.length:=by omega
   have hve:l[i].var=((l[i].var.toNat:Nat):Int):=by omega
   have ht:isT bs l[i]=bs[l[i].var.toNat]:=by
    unfold isT;rw [decide_eq_false hv,Cb,A9,Ab hlt];rfl
   rw [ht] at g2;cases hb:bs[l[i].var.toNat] with
   | false =>
    rw [hb,Cm] at g2;rw [g2];repeat' (first|refine zr ?_|(refine zm ?_ ?_<;>intro hg)|(exfalso;omega))
    all_goals try (exfalso;rw [hb] at hg;cases hg;done)
    exact⟨.inl rfl,_,rfl,rfl,rfl⟩
   | true =>
    rw [hb,Bo] at g2;repeat' (first|refine zs ?_|(refine zm ?_ ?_<;>intro hg)|(exfalso;omega))
    all_goals try (exfalso;rw [hb] at hg;cases hg;done)
    exact⟨i+1,⟨hi,g2⟩,er id,by omega⟩
 ·rw [Ax (by omega)] at g2;rw [g2];repeat' (first|refine zr ?_|(refine zm ?_ ?_<;>intro hg)|(exfalso;omega))
  exact⟨.inl rfl,_,rfl,rfl,rfl⟩
theorem isReadyR_fn (l:List Trm) (bs:List Bool) (hok:∀ t∈l,okT bs.length t):FnOk false Tryz.prog tab bp 262 [.d (.slice 2 (l.map aw)),.row 0] 1 1 [(0,.row 4 1 (bs.map bz))] (λ_ r H=>r = .d (.bool (l.all (isT bs)))/\H=[(0,.row 4 1 (bs.map bz))]):=by
 refine frE Tryz.func262 ?_;intro O w0 E0 β0;have ll:(l.map aw).length=l.length:=Aa _;have lb:(bs.map bz).length=bs.length:=Aa _;refine l9 (t:=0) rfl (λhk=>?_);repeat' (first|refine zs ?_|fail)
 refine ak (ι:=Nat) (λi=>⟨1,[(0,.d (.slice 2 (l.map aw))),(1,.row 0),(5,.d (.int .i64 i))],[(0,.row 4 1 (bs.map bz))]⟩)
  (λi=>i<=l.length/\l.all (isT bs)=(l.drop i).all (isT bs)) (λi=>l.length-i) 0 ⟨Ai _,rfl⟩ (er id) ?_
 rintro i ⟨g1,g2⟩;dsimp only at g1 g2 ⊢;by_cases hi:i<l.length
 ·have ho:=hok l[i] (Ag hi);unfold okT at ho;rw [Ao hi,Dp] at g2;by_cases hv:l[i].var<0
  ·have ht:isT bs l[i]=true:=by unfold isT;rw [decide_eq_true hv];rfl
   rw [ht,Bo] at g2;repeat' (first|refine zs ?_|(refine zm ?_ ?_<;>intro hg)|(exfalso;omega))
   all_goals exact⟨i+1,⟨hi,g2⟩,er id,by omega⟩
  ·have hlt:l[i].var.toNat<bs.length:=by omega
   have hve:l[i].var=((l[i].var.toNat:Nat):Int):=by omega
   have ht:isT bs l[i]=bs[l[i].var.toNat]:=by
    unfold isT;rw [decide_eq_false hv,Cb,A9,Ab hlt];rfl
   rw [ht] at g2;cases hb:bs[l[i].var.toNat] with
   | false =>
    rw [hb,Cm] at g2;rw [g2];repeat' (first|refine zr ?_|(refine zm ?_ ?_<;>intro hg)|(exfalso;omega))
    all_goals try (exfalso;rw [hb] at hg;cases hg;done)
    exact⟨.inl rfl,_,rfl,kp id 1 _ ([(0,.row 4 1 (bs.map bz))]) ⟨rfl,rfl⟩⟩
   | true =>
    rw [hb,Bo] at g2;repeat' (first|refine zs ?_|(refine zm ?_ ?_<;>intro hg)|(exfalso;omega))
    all_goals try (exfalso;rw [hb] at hg;cases hg;done)
    exact⟨i+1,⟨hi,g2⟩,er id,by omega⟩
 ·rw [Ax (by omega)] at g2;rw [g2];repeat' (first|refine zr ?_|(refine zm ?_ ?_<;>intro hg)|(exfalso;omega))
  exact⟨.inl rfl,_,rfl,kp id 1 _ ([(0,.row 4 1 (bs.map bz))]) ⟨rfl,rfl⟩⟩
theorem zn (l:List Trm) (a:List Int) (hok:∀ t∈l,okT a.length t) (hl:l.length<=4398046511104):Fn 162 [.d (.slice 2 (l.map aw)),.d (.slice 1 (a.map ah))] (λr=>r = .d (.slice 1 ((l.map (vA a)).map ah))):=by
 refine fqE Tryz.func162 ?_;intro O w0 E0 β0;have ll:(l.map aw).length=l.length:=Aa _;have la:(a.map ah).length=a.length:=Aa _;repeat' (first|refine zs ?_|fail)
 refine au (dm (t:=5) 3 1 rfl) ?_;refine ak (ι:=Nat) (λi=>⟨1,[(0,.d (.slice 2 (l.map aw))),(1,.d (.slice 1 (a.map ah))),(5,.row 0),(6,.d (.int .i64 i))],(0,.row 3 1 (((l.take i).map (vA a)).map ah))::[]⟩)
  (λi=>i<=l.length) (λi=>l.length-i) 0 (Ai _) (er id) ?_
 intro i g1;by_cases hi:i<l.length
 ·have ho:=hok l[i] (Ag hi);unfold okT at ho;have lr:(((l.take i).map (vA a)).map ah).length=i:=by rw [Aa,Aa,Au];omega
  have hst:((l.take (i+1)).map (vA a)).map ah=((l.take i).map (vA a)).map ah++[ah (vA a l[i])]:=by rw [Am hi,Av,Av];rfl
  by_cases hv:l[i].var<0
  ·have ht:vA a l[i]=l[i].n:=by unfold vA;rw [if_pos hv]
   rw [ht] at hst;repeat' (first|refine zs ?_|(refine zm ?_ ?_<;>intro hg)|(exfalso;omega))
   exact⟨i+1,by omega,ag (λ_=>1) ⟨rfl,rfl,rfl,rfl,trivial⟩ ⟨by rw [hst];rfl,trivial⟩ rfl rfl rfl rfl rfl rfl,by omega⟩
  ·have hlt:l[i].var.toNat<a.length:=by omega
   have ht:vA a l[i]=a[l[i].var.toNat]:=by
    unfold vA;rw [if_neg hv,A9,Ab hlt];rfl
   rw [ht] at hst;repeat' (first|refine zs ?_|(refine zm ?_ ?_<;>intro hg)|(exfalso;omega))
   exact⟨i+1,by omega,ag (λ_=>1) ⟨rfl,rfl,rfl,rfl,trivial⟩ ⟨by rw [hst];rfl,trivial⟩ rfl rfl rfl rfl rfl rfl,by omega⟩
 ·rw [Ak (by omega)];repeat' (first|refine zs ?_|(refine zm ?_ ?_<;>intro hg)|(exfalso;omega))
  refine au (cr 4 rfl rfl rfl) ?_;repeat' (apply dv)
  exact⟨.inl rfl,_,rfl,rfl,rfl⟩
theorem argsOfR_fn (l:List Trm) (a:List Int) (hok:∀ t∈l,okT a.length t) (hl:l.length<=4398046511104):FnOk false Tryz.prog tab bp 162 [.d (.slice 2 (l.map aw)),.row 0] 1 1 [(0,.row 3 1 (a.map ah))] (λ_ r H=>r = .d (.slice 1 ((l.map (vA a)).map ah))/\H=[(0,.row 3 1 (a.map ah))]):=by
 refine frE Tryz.func162 ?_;intro O w0 E0 β0;have ll:(l.map aw).length=l.length:=Aa _;have la:(a.map ah).length=a.length:=Aa _;repeat' (first|refine zs ?_|fail)
 refine au (dm (t:=5) 3 1 rfl) ?_;refine ak (ι:=Nat) (λi=>⟨2,[(0,.d (.slice 2 (l.map aw))),(1,.row 0),(5,.row 1),(6,.d (.int .i64 i))],(1,.row 3 1 (((l.take i).map (vA a)).map ah))::[(0,.row 3 1 (a.map ah))]⟩)
  (λi=>i<=l.length) (λi=>l.length-i) 0 (Ai _) (ag id ⟨rfl,rfl,rfl,rfl,trivial⟩ ⟨rfl,⟨rfl,trivial⟩⟩ rfl rfl rfl rfl rfl rfl) ?_
 intro i g1;by_cases hi:i<l.length
 ·have ho:=hok l[i] (Ag hi);unfold okT at ho;have lr:(((l.take i).map (vA a)).map ah).length=i:=by rw [Aa,Aa,Au];omega
  have hst:((l.take (i+1)).map (vA a)).map ah=((l.take i).map (vA a)).map ah++[ah (vA a l[i])]:=by rw [Am hi,Av,Av];rfl
  by_cases hv:l[i].var<0
  ·have ht:vA a l[i]=l[i].n:=by unfold vA;rw [if_pos hv]
   rw [ht] at hst;repeat' (first|refine zs ?_|(refine zm ?_ ?_<;>intro hg)|(exfalso;omega))
   exact⟨i+1,by omega,ag (λj=>match j with|1=>2|j=>j) ⟨rfl,rfl,rfl,rfl,trivial⟩ ⟨by rw [hst];rfl,⟨rfl,trivial⟩⟩ rfl rfl rfl rfl rfl rfl,by omega⟩
  ·have hlt:l[i].var.toNat<a.length:=by omega
   have ht:vA a l[i]=a[l[i].var.toNat]:=by
    unfold vA;rw [if_neg hv,A9,Ab hlt];rfl
   rw [ht] at hst;repeat' (first|refine zs ?_|(refine zm ?_ ?_<;>intro hg)|(exfalso;omega))
   exact⟨i+1,by omega,ag (λj=>match j with|1=>2|j=>j) ⟨rfl,rfl,rfl,rfl,trivial⟩ ⟨by rw [hst];rfl,⟨rfl,trivial⟩⟩ rfl rfl rfl rfl rfl rfl,by omega⟩
 ·rw [Ak (by omega)];repeat' (first|refine zs ?_|(refine zm ?_ ?_<;>intro hg)|(exfalso;omega))
  refine au (cr 4 rfl rfl rfl) ?_;repeat' (apply dv)
  exact⟨.inl rfl,_,rfl,kp id 1 _ ([(0,.row 3 1 (a.map ah))]) ⟨rfl,rfl⟩⟩
end
end Go.Proofs.YtapciiffpnociadGreat
