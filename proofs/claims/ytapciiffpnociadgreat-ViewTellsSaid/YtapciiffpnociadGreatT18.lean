/- Several texts in one: TokB TokC TokD ScoB ScoC ScoD ScoF GxOrd. Condition: none. -/
import Derived.Test.YtapciiffpnociadGreatT17
import Derived.Test.YtapciiffpnociadGreatT13
set_option maxHeartbeats 8000000
open Bool renaming and_true→Ib,false_ne_true→C5,not_eq_true→Cm,not_false→H7,not_true→E5,or_false→Ia,or_true→Ie
open Int renaming toNat_of_nonneg→Az
open List renaming all_cons→Do,count_cons→Fb,drop_eq_getElem_cons→Am,drop_eq_nil_of_le→Ec,drop_of_length_le→As,getD→A6,getElem?_eq_getElem→Ad,getElem_mem→Aj,length_drop→A7,length_map→Aa,length_replicate→Cb,map_replicate→Dm,replicate→Ap,take_of_length_le→Ai,take_succ_eq_append_getElem→An
open Nat renaming not_lt_zero→A9,zero_le→Ak
namespace Go.Proofs.YtapciiffpnociadGreat
section
open Go Go.RowKit
attribute [local irreducible] DW DS DL DQ Ev FnOk FnP ef bt DT
section
variable (s : ByteArray) (i : Nat) (hi : i<s.size)
include hi
theorem za:s.data.toList.drop i=s[i]::s.data.toList.drop (i+1):=by
 have hl0:s.data.toList.length=s.size:=by simp
 rw [Am (by omega),oa]
theorem takeW_one (p:UInt8->Bool) (h:p s[i]=true):dq p (s.data.toList.drop i)=1+dq p (s.data.toList.drop (i+1)):=by
 have:=tk p s.data.toList i (by simpa using hi) (by rw [oa _ _ hi];exact h)
 omega
theorem tok_letter (h:e7 s[i]=true):ct (s.data.toList.drop i)=(if gv s[i] then 1 else 2,dq eh (s.data.toList.drop i)):=by
 rw [takeW_one s i hi eh (by unfold eh;rw [h];rfl),za s i hi,fb,if_pos h]
theorem tok_digit (h:e7 s[i]=false) (hd:da s[i]=true):ct (s.data.toList.drop i)=(3,dq da (s.data.toList.drop i)):=by
 rw [takeW_one s i hi da hd,za s i hi,fb,if_neg (by rw [h];exact C5),if_pos hd]
theorem tok_sign (h:e7 s[i]=false) (hd:da s[i]=false):ct (s.data.toList.drop i)=if ml (s[i]::s.data.toList.drop (i+1)) then (4,2) else if signs.contains s[i] then (4,1) else (0,0):=by
 rw [za s i hi,fb,if_neg (by rw [h];exact C5),if_neg (by rw [hd];exact C5)]
omit hi in
theorem ext_ext (k:Nat) (h:i+k<=s.size):(s.extract i s.size).extract 0 k=s.extract i (i+k):=by
 rw [ByteArray.extract_extract];congr 1;omega
theorem pair_at:decide (o5 (s.extract i s.size) ≥ 0)=ml (s[i]::s.data.toList.drop (i+1)):=by
 have hsz:(s.extract i s.size).size=s.size-i:=by rw [ByteArray.size_extract];omega
 by_cases h2:i+1<s.size
 ·rw [pair_ext s i h2];have hp:∀ t:ByteArray,t.size=2->fv (s.extract i s.size) t=decide (s.extract i (i+2)=t):=by
   intro t ht;unfold fv;rw [ht,hsz,ext_ext s i 2 (by omega),decide_eq_true (by omega),Bool.true_and]
  unfold o5;rw [hp _ rfl,hp _ rfl,hp _ rfl];by_cases a:s.extract i (i+2)=⟨#[58,45]⟩
  ·simp [a]
  ·by_cases b:s.extract i (i+2)=⟨#[60,61]⟩
   ·simp [b]
   ·by_cases c:s.extract i (i+2)=⟨#[33,61]⟩
    ·simp [c]
    ·simp [a,b,c]
 ·have hp:∀ t:ByteArray,t.size=2->fv (s.extract i s.size) t=false:=by
   intro t ht;unfold fv;rw [ht,hsz,decide_eq_false (by omega),Bool.false_and]
  have hl:s.data.toList.drop (i+1)=[]:=Ec (by simp;omega);unfold o5;rw [hp _ rfl,hp _ rfl,hp _ rfl,hl];simp [ml]
theorem pair_room (h:o5 (s.extract i s.size) ≥ 0):i+2<=s.size:=by
 have hq:=pair_at s i hi;rw [decide_eq_true h] at hq;rcases Nat.lt_or_ge (i+1) s.size with h2|h2
 ·omega
 ·have hl:s.data.toList.drop (i+1)=[]:=Ec (by simp;omega);rw [hl] at hq;simp [ml] at hq
end
theorem idx_signs (c:UInt8):decide ((0:Int)<=firstIdx ⟨#[40,41,44,46,60,61,43,45,42]⟩ c)=signs.contains c:=by
 have key:∀ n:Fin 256,decide ((0:Int)<=firstIdx ⟨#[40,41,44,46,60,61,43,45,42]⟩ (UInt8.ofNat n.1))=signs.contains (UInt8.ofNat n.1):=by decide +kernel
 have:=key ⟨c.toNat,c.toNat_lt⟩
 simpa using this
theorem signs_low (c:UInt8) (h:signs.contains c=true):(c.toNat:Int)<128:=by
 have key:∀ n:Fin 256,signs.contains (UInt8.ofNat n.1)=true->(n.1:Int)<128:=by decide +kernel
 exact key ⟨c.toNat,c.toNat_lt⟩ (by simpa using h)
theorem use1 {A C G:Prop} (c:A->C) (a:A) (k:C->G):G:=k (c a)
theorem use2 {A B C G:Prop} (c:A->B->C) (a:A) (b:B) (k:C->G):G:=k (c a b)
theorem use3 {A B E C G:Prop} (c:A->B->E->C) (a:A) (b:B) (e:E) (k:C->G):G:=k (c a b e)
theorem errL (kd:Int) (n:Nat) (c:UInt8) (h:kd=1∨kd=2):eu kd n c=if 12<n then 2 else 0:=by
 unfold eu;rcases h with rfl|rfl<;>simp
theorem errD (n:Nat) (c:UInt8):eu 3 n c=if 7<n then 2 else if 1<n/\(c.toNat:Int)=48 then 1 else 0:=by
 rw [tokErr_int];simp only [if_false,true_and,Int.reduceEq,or_self,false_and,false_or];by_cases h1:7<n
 ·rw [if_pos h1,if_pos (by omega)]
 ·rw [if_neg h1,if_neg (by omega)];by_cases h2:1<n/\(c.toNat:Int)=48
  ·rw [if_pos h2,if_pos (by omega)]
  ·rw [if_neg h2,if_neg (by omega)]
theorem errP (n:Nat) (c:UInt8):eu 4 n c=0:=by
 unfold eu;simp
theorem small_great {c:UInt8} (h:gv c=true):ju c=false:=by
 unfold gv at h;unfold ju;simp at h ⊢;omega
def tokenR (s:ByteArray) (i:Nat) (hi:i<s.size) (r:SV) (H2:Hp):Prop :=
 ∃ (kd e:Int) (tx:ByteArray) (j:Nat),r = .tup [.agg [.d (.int .i64 kd),.d (.int .i64 i),.d (.str tx)],.d (.int .i64 e)]/\H2=scH s j/\e=eu (ct (s.data.toList.drop i)).1 (ct (s.data.toList.drop i)).2 s[i] /\
  (e=0->kd=(ct (s.data.toList.drop i)).1/\tx=s.extract i (i+(ct (s.data.toList.drop i)).2)/\j=i+(ct (s.data.toList.drop i)).2)
theorem token_fn (s:ByteArray) (i:Nat) (hi:i<s.size) (hs:s.size<=5000) :
  FnS 289 [.loc 0 0] 1 1 (scH s i) (λ_ r H2=>tokenR s i hi r H2):=by
 refine fn_enterF _ Tryz.func289 rfl rfl (by kernel_rfl) ?_;intro O w0 E0 β0;repeat' (first|refine zs ?_|fail)
 (refine bg id (sign_fn s i) rfl rfl rfl rfl ⟨rfl,trivial⟩ rfl rfl rfl rfl rfl rfl ?_ ?_)
 ·rintro k2 r H2 ⟨rfl,rfl,rfl⟩;exact⟨rfl,rfl⟩
 rintro k2 r H2 ⟨rfl,rfl,rfl⟩;rw [dif_pos hi];change DS _ _ _ _ _ _ _ _;have hl0:s.data.toList.length=s.size:=by simp
 have hla:=vq eh (s.data.toList.drop i);have hld:=vq da (s.data.toList.drop i);rw [A7,hl0] at hla hld;have hea:(s.extract i (i+dq eh (s.data.toList.drop i))).size=dq eh (s.data.toList.drop i):=by rw [ByteArray.size_extract];omega
 have hed:(s.extract i (i+dq da (s.data.toList.drop i))).size=dq da (s.data.toList.drop i):=by rw [ByteArray.size_extract];omega
 have cS:gv s[i]=true->(ct (s.data.toList.drop i)).1=1/\(ct (s.data.toList.drop i)).2=dq eh (s.data.toList.drop i):=by
  intro h;rw [tok_letter s i hi (by unfold e7;simp [h]),if_pos h];exact⟨rfl,rfl⟩
 have cG:gv s[i]=false->ju s[i]=true->(ct (s.data.toList.drop i)).1=2/\(ct (s.data.toList.drop i)).2=dq eh (s.data.toList.drop i):=by
  intro h h2;rw [tok_letter s i hi (by unfold e7;simp [h2]),if_neg (by rw [h];exact C5)];exact⟨rfl,rfl⟩
 have cD:gv s[i]=false->ju s[i]=false->da s[i]=true->(ct (s.data.toList.drop i)).1=3/\(ct (s.data.toList.drop i)).2=dq da (s.data.toList.drop i):=by
  intro h h2 h3;rw [tok_digit s i hi (by unfold e7;simp [h,h2]) h3];exact⟨rfl,rfl⟩
 have cN:gv s[i]=false->ju s[i]=false->da s[i]=false->ct (s.data.toList.drop i)=if o5 (s.extract i s.size) ≥ 0 then (4,2) else if signs.contains s[i] then (4,1) else (0,0):=by
  intro h h2 h3;rw [tok_sign s i hi (by unfold e7;simp [h,h2]) h3,<- pair_at s i hi];by_cases hp:o5 (s.extract i s.size) ≥ 0
  ·rw [if_pos hp,if_pos (by simpa using hp)]
  ·rw [if_neg hp,if_neg (by simpa using hp)]
 have cX:gv s[i]=true->ju s[i]=true->False:=λh h2=>by rw [small_great h] at h2;cases h2
 have cY:ju s[i]=true->ju s[i]=false->False:=λh h2=>by rw [h] at h2;cases h2
 have hroom:=pair_room s i hi;clear hl0;repeat' (first|refine zs ?_|refine z21 ?_ (hc:=by apply small_fn)|refine z21 ?_ (hc:=by apply great_fn)|refine z21 ?_ (hc:=by apply digit_fn)|(refine zm ?_ ?_<;>intro hg)|fail)
 all_goals first
  | ((refine bg id (run_fn s i (by omega) hs _ eh alnum_fn) rfl rfl rfl rfl ⟨rfl,trivial⟩ rfl rfl rfl rfl rfl rfl ?_ ?_)
     ·rintro k2 r H2 ⟨rfl,rfl,rfl⟩;exact⟨rfl,rfl⟩
     rintro k2 r H2 ⟨rfl,rfl,rfl⟩;change DS _ _ _ _ _ _ _ _)
  | ((refine bg id (run_fn s i (by omega) hs _ da digit_fn) rfl rfl rfl rfl ⟨rfl,trivial⟩ rfl rfl rfl rfl rfl rfl ?_ ?_)
     ·rintro k2 r H2 ⟨rfl,rfl,rfl⟩;exact⟨rfl,rfl⟩
     rintro k2 r H2 ⟨rfl,rfl,rfl⟩;change DS _ _ _ _ _ _ _ _)
  | skip
 repeat' (first|refine zr ?_|refine z21 ?_ (hc:=by apply pairs_fn)|(refine zm ?_ ?_<;>intro hg)|fail)
 all_goals first
  | (refine use2 cX ?_ ?_ False.elim;assumption;assumption)
  | (refine use2 cY ?_ ?_ False.elim;assumption;assumption)
  | (refine use1 cS ?_ ?_;assumption;rintro⟨t1,t2⟩
     refine⟨.inl rfl,_,rfl,1,scH s _,⟨rfl,trivial⟩,rfl,rfl,rfl,rfl,_,_,_,_,rfl,rfl,?_,?_⟩
     ·rw [t1,t2,errL _ _ _ (.inl rfl)];first|rw [if_pos (by omega)]|rw [if_neg (by omega)]
     ·intro he;first|exact absurd he (by decide)|(rw [t1,t2];exact⟨rfl,rfl,rfl⟩))
  | (refine use2 cG ?_ ?_ ?_;assumption;assumption;rintro⟨t1,t2⟩
     refine⟨.inl rfl,_,rfl,1,scH s _,⟨rfl,trivial⟩,rfl,rfl,rfl,rfl,_,_,_,_,rfl,rfl,?_,?_⟩
     ·rw [t1,t2,errL _ _ _ (.inr rfl)];first|rw [if_pos (by omega)]|rw [if_neg (by omega)]
     ·intro he;first|exact absurd he (by decide)|(rw [t1,t2];exact⟨rfl,rfl,rfl⟩))
  | (refine use3 cD ?_ ?_ ?_ ?_;assumption;assumption;assumption;rintro⟨t1,t2⟩
     refine⟨.inl rfl,_,rfl,1,scH s _,⟨rfl,trivial⟩,rfl,rfl,rfl,rfl,_,_,_,_,rfl,rfl,?_,?_⟩
     ·rw [t1,t2,errD];first|rw [if_pos (by omega)]|rw [if_neg (by omega),if_pos (by omega)]|rw [if_neg (by omega),if_neg (by omega)]
     ·intro he;first|exact absurd he (by decide)|(rw [t1,t2];exact⟨rfl,rfl,rfl⟩))
  | skip
 have hT:=cN ‹_› ‹_› ‹_›;(refine bg id (containsFunc_fn s i (by omega)) rfl rfl rfl rfl ⟨rfl,rfl,trivial⟩ rfl rfl rfl rfl rfl rfl ?_ ?_)
 ·rintro k2 r H2 ⟨rfl,rfl⟩;exact⟨rfl,rfl⟩
 rintro k2 r H2 ⟨rfl,rfl⟩;change DS _ _ _ _ _ _ _ _;repeat' (first|refine zs ?_|fail)
 refine bf rfl (λhp=>?_) (λhp=>?_)
 ·have hr:=hroom hp;rw [if_pos hp] at hT;repeat' (first|refine zr ?_|fail)
  refine⟨.inl rfl,_,rfl,1,scH s _,⟨rfl,trivial⟩,rfl,rfl,rfl,rfl,_,_,_,_,rfl,rfl,?_,?_⟩
  ·rw [hT,errP]
  ·intro he;rw [hT];exact⟨rfl,rfl,rfl⟩
 ·rw [if_neg hp] at hT;repeat' (first|refine zs ?_|refine z21 ?_ (hc:=by apply indexByte_fn)|fail)
  have hidx:=idx_signs s[i];have hu:((s[i].toNat:Int).toNat.toUInt8)=s[i]:=by simp
  refine bf rfl (λhq=>?_) (λhq=>?_)
  ·rw [hu] at hq;rw [decide_eq_true (by exact hq)] at hidx;have hlow:=signs_low s[i] hidx.symm;have hlow0:(0:Int)<=(s[i].toNat:Int):=by omega
   rw [if_pos hidx.symm] at hT;have hone:(⟨#[s[i]]⟩:ByteArray)=s.extract i (i+1):=by
    apply ByteArray.ext;simp only [ByteArray.data_extract];apply Array.toList_inj.1;rw [Array.toList_extract,List.extract_eq_take_drop,show i+1-i=1 by omega,za s i hi];rfl
   repeat' (first|refine zr ?_|fail)
   refine⟨.inl rfl,_,rfl,1,scH s _,⟨rfl,trivial⟩,rfl,rfl,rfl,rfl,_,_,_,_,rfl,rfl,?_,?_⟩
   ·rw [hT,errP]
   ·intro he;rw [hT];exact⟨rfl,hone,rfl⟩
  ·rw [hu] at hq;rw [decide_eq_false (by exact hq)] at hidx;rw [if_neg (by rw [<- hidx];exact C5)] at hT;repeat' (first|refine zr ?_|fail)
   refine⟨.inl rfl,_,rfl,1,scH s _,⟨rfl,trivial⟩,rfl,rfl,rfl,rfl,_,_,_,_,rfl,rfl,?_,?_⟩
   ·rw [hT];unfold eu;simp
   ·intro he;exact absurd he (by decide)
def scanInv (s:ByteArray) (x:List Tok×Nat):Prop :=
 x.2<=s.size/\x.1.length<=x.2/\c7 s false 0=(c7 s false x.2).map (x.1++·) /\
 ∀ h:x.2<s.size,¬ (s[x.2].toNat:Int)=37/\¬ (s[x.2].toNat:Int)=32/\¬ (s[x.2].toNat:Int)=9/\¬ (s[x.2].toNat:Int)=10
theorem scan_fn (s:ByteArray):Fn 286 [.d (.str s)] (λr=>r=encScan (vd s)):=by
 refine fqE Tryz.func286 ?_;intro O w0 E0 β0;repeat' (first|refine zs ?_|fail)
 refine bf rfl (λhbig=>?_) (λhbig=>?_)
 ·repeat' (first|refine zs ?_|fail)
  refine dw_nild 2 3 rfl ?_;repeat' (first|refine zr ?_|fail)
  exact ret_3 rfl (by rw [scanS_big s (by omega)];exact⟨rfl,rfl,rfl⟩)
 ·repeat' (first|refine zs ?_|fail)
  (refine bg id (skip_fn s 0 (by omega) (by omega)) rfl rfl rfl rfl ⟨rfl,trivial⟩ rfl rfl rfl rfl rfl rfl ?_ ?_)
  ·rintro k2 r H2 ⟨rfl,rfl,j,_,_,_,_,rfl⟩;exact⟨rfl,rfl⟩
  rintro k2 r H2 ⟨rfl,rfl,j0,g1,g2,g3,g4,rfl⟩;change DS _ _ _ _ _ _ _ _;repeat' (first|refine zs ?_|fail)
  refine dw_nilrow (t:=6) 319 3 rfl ?_;refine ag (ι:=List Tok×Nat) (λx=>⟨2,[(0,.d (.str s)),(5,.loc 0 0),(6,.row 1)],[(0,.blk 323 [.d (.str s),.d (.int .i64 x.2)]),(1,.row 319 3 (x.1.map encTok))]⟩)
   (scanInv s) (λx=>s.size-x.2) ([],j0) ⟨g2,Ak _,by rw [g3];cases c7 s false j0<;>rfl,g4⟩
   (er id) ?_
  rintro⟨toks,i⟩ ⟨h1,h2,h3,h4⟩;dsimp only at h1 h2 h3 h4 ⊢;repeat' (first|refine zs ?_|fail)
  refine bf rfl (λhlt=>?_) (λhlt=>?_)
  ·have hlt':i<s.size:=by omega
   have h4':=h4 hlt';repeat' (first|refine zs ?_|fail)
   (refine bg id (token_fn s i hlt' (by omega)) rfl rfl rfl rfl ⟨rfl,trivial⟩ rfl rfl rfl rfl rfl rfl ?_ ?_)
   ·rintro k2 r H2 ⟨kd,e,tx,j,rfl,rfl,_,_⟩;exact⟨rfl,rfl⟩
   rintro k2 r H2 ⟨kd,e,tx,j,rfl,rfl,he,hz⟩;change DS _ _ _ _ _ _ _ _;have hS:=tok_step s false i hlt' rfl h4'.1 h4'.2.1 h4'.2.2.1 h4'.2.2.2 _ rfl;have hle:=tokAt_le (s.data.toList.drop i);have hpo:=tokAt_pos (s.data.toList.drop i);rw [A7,show s.data.toList.length=s.size by simp] at hle;generalize ct (s.data.toList.drop i)=q at hS hle hpo he hz;obtain⟨kind,n⟩:=q;dsimp only at hS hle hpo he hz;rw [hS] at h3;repeat' (first|refine zs ?_|fail)
   refine bf rfl (λhne=>?_) (λhne=>?_)
   ·repeat' (first|refine zs ?_|fail)
    refine dw_nild 2 3 rfl ?_;repeat' (first|refine zr ?_|fail)
    refine ret_3 rfl ?_;have:=scanS_err s (by omega) i e (by rw [h3,if_neg (by rw [<- he];exact hne),<- he];rfl)
    rw [this];exact⟨rfl,rfl,rfl⟩
   ·have he0:e=0:=Decidable.not_not.1 hne;obtain⟨z1,z2,z3⟩:=hz he0;rw [if_pos (by rw [<- he];exact he0)] at h3;have hn1:=hpo (by intro hk;rw [hk] at he;unfold eu at he;simp at he;omega);subst z1;subst z2;subst z3;repeat' (first|refine zs ?_|fail)
    (refine bg id (skip_fn s (i+n) (by omega) (by omega)) rfl rfl rfl rfl ⟨rfl,trivial⟩ rfl rfl rfl rfl rfl rfl ?_ ?_)
    ·rintro k2 r H2 ⟨rfl,rfl,j,_,_,_,_,rfl⟩;exact⟨rfl,rfl⟩
    rintro k2 r H2 ⟨rfl,rfl,j,q1,q2,q3,q4,rfl⟩;change DS _ _ _ _ _ _ _ _;repeat' (first|refine zs ?_|fail)
    refine⟨(toks++[⟨kd,i,s.extract i (i+n)⟩],j),⟨?_,?_,?_,q4⟩,?_,?_⟩
    ·exact q2
    ·show (toks++[_]).length<=j;rw [List.length_append];show _+1<=_;omega
    ·show c7 s false 0=_;rw [h3,map_map,q3];simp only [List.append_assoc,List.singleton_append]
    ·dsimp only;rw [List.map_append];exact er (λi=>match i with|0=>0|_=>3)
    ·show s.size-j<s.size-i;omega
  ·repeat' (first|refine zs ?_|fail)
   refine dw_seal 2 rfl rfl ?_;repeat' (apply c9)
   refine ret_3 rfl ?_;rw [scanS_ok s (by omega) toks (by rw [h3,tp s false i (by omega)];exact congrArg Except.ok (List.append_nil _))];exact⟨rfl,rfl,rfl⟩
def oneS (kind:Int) (s:ByteArray):Bool:=match vd s with
 | ([t],_,e)=>decide (e=0) && (decide (t.kind=kind) && decide (t.text=s))
 | _=>false
theorem one_fn (kind:Int) (s:ByteArray):Fn 281 [.d (.int .i64 kind),.d (.str s)] (λr=>r = .d (.bool (oneS kind s))):=by
 refine fqE Tryz.func281 ?_;intro O w0 E0 β0;have hsc:=scan_fn s;unfold oneS;generalize vd s=q at hsc ⊢;obtain⟨l,p,e⟩:=q;unfold encScan encToks at hsc;dsimp only at hsc;rcases l with _|⟨t,_|⟨t',l⟩⟩
 ·repeat' (first|refine zr ?_|refine z21 ?_ (hc:=by apply hsc)|(refine zm ?_ ?_<;>intro hg)|fail)
  all_goals exact a7 rfl (by simp)
 ·repeat' (first|refine zr ?_|refine z21 ?_ (hc:=by apply hsc)|(refine zm ?_ ?_<;>intro hg)|fail)
  all_goals exact a7 rfl (by simp_all)
 ·repeat' (first|refine zr ?_|refine z21 ?_ (hc:=by apply hsc)|(refine zm ?_ ?_<;>intro hg)|fail)
  all_goals first
   | exact a7 rfl (by simp_all)
   | (rename_i h;exfalso;revert h;simp;done)
   | (exfalso;simp at *;done)
   | (exfalso;simp at *;omega)
def eqS (x y:ByteArray):Bool:=decide (y=x)
def eqB (x y:Bool):Bool:=y == x
abbrev elS (s:ByteArray):SV:=.d (.str s)
abbrev elB (b:Bool):SV:=.d (.bool b)
theorem indexS_fn (y:ByteArray) (l:List (ByteArray)):Fn 258 [.d (.slice 1 (l.map oq)),elS y] (λr=>r = .d (.int .i64 (kr (λx=>eqS x y) l))):=by
 refine fqE Tryz.func258 ?_;intro O w0 E0 β0;refine cp (t:=0) rfl λhb=>?_
 repeat' (first|refine zs ?_|fail)
 refine ag (ι:=Nat) (λi=>⟨0,[(0,.d (.slice 1 (l.map oq))),(1,.d (.str y)),(7,.d (.int .i64 l.length)),(8,.d (.int .i64 i))],[]⟩)
  (λi=>i<=l.length/\∀ j (hj:j<l.length),j<i->eqS l[j] y=false) (λi=>l.length-i) 0 ⟨Ak _,λj _ h=>absurd h (A9 j)⟩
  (ai id ⟨rfl,rfl,by simp;rfl,rfl,trivial⟩ trivial rfl rfl rfl rfl rfl rfl) ?_
 rintro i ⟨h1,h2⟩;repeat' (first|refine zs ?_|fail)
 refine bf rfl (λh=>?_) (λh=>?_)
 ·have hi:i<l.length:=by omega
  repeat' (first|refine zs ?_|fail)
  refine d7 rfl (λhb=>?_) (λhb=>?_)
  ·repeat' (first|refine zr ?_|fail)
   exact a6 rfl (jp (p:=λx=>eqS x y) h2 hi (id hb)).symm
  ·repeat' (first|refine zs ?_|fail)
   exact⟨i+1,⟨hi,gz (p:=λx=>eqS x y) h2 hi (id hb)⟩,er id,by omega⟩
 ·repeat' (first|refine zr ?_|fail)
  exact a6 rfl (ja λj hj=>h2 j hj (by omega)).symm
theorem indexB_fn (y:Bool) (l:List (Bool)):Fn 260 [.d (.slice 1 (l.map cu)),elB y] (λr=>r = .d (.int .i64 (kr (λx=>eqB x y) l))):=by
 refine fqE Tryz.func260 ?_;intro O w0 E0 β0;refine cp (t:=0) rfl λhb=>?_
 repeat' (first|refine zs ?_|fail)
 refine ag (ι:=Nat) (λi=>⟨0,[(0,.d (.slice 1 (l.map cu))),(1,.d (.bool y)),(7,.d (.int .i64 l.length)),(8,.d (.int .i64 i))],[]⟩)
  (λi=>i<=l.length/\∀ j (hj:j<l.length),j<i->eqB l[j] y=false) (λi=>l.length-i) 0 ⟨Ak _,λj _ h=>absurd h (A9 j)⟩
  (ai id ⟨rfl,rfl,by simp;rfl,rfl,trivial⟩ trivial rfl rfl rfl rfl rfl rfl) ?_
 rintro i ⟨h1,h2⟩;repeat' (first|refine zs ?_|fail)
 refine bf rfl (λh=>?_) (λh=>?_)
 ·have hi:i<l.length:=by omega
  repeat' (first|refine zs ?_|fail)
  refine d7 rfl (λhb=>?_) (λhb=>?_)
  ·repeat' (first|refine zr ?_|fail)
   exact a6 rfl (jp (p:=λx=>eqB x y) h2 hi (id hb)).symm
  ·repeat' (first|refine zs ?_|fail)
   exact⟨i+1,⟨hi,gz (p:=λx=>eqB x y) h2 hi (id hb)⟩,er id,by omega⟩
 ·repeat' (first|refine zr ?_|fail)
  exact a6 rfl (ja λj hj=>h2 j hj (by omega)).symm
theorem containsS_fn (y:ByteArray) (l:List ByteArray):Fn 212 [.d (.slice 1 (l.map oq)),.d (.str y)] (λr=>r = .d (.bool (l.any λx=>eqS x y))):=by
 refine fqE Tryz.func212 ?_;intro O w0 E0 β0;have hx:=indexS_fn y l;repeat' (first|refine zr ?_|refine z21 ?_ (hc:=by apply hx)|fail)
 exact a7 rfl (ol _ l)
theorem containsB_fn (y:Bool) (l:List Bool):Fn 215 [.d (.slice 1 (l.map cu)),.d (.bool y)] (λr=>r = .d (.bool (l.any λx=>eqB x y))):=by
 refine fqE Tryz.func215 ?_;intro O w0 E0 β0;have hx:=indexB_fn y l;repeat' (first|refine zr ?_|refine z21 ?_ (hc:=by apply hx)|fail)
 exact a7 rfl (ol _ l)
def wordsL:List ByteArray:=[⟨#[110,111,116]⟩,⟨#[99,111,117,110,116]⟩,⟨#[115,117,109]⟩,⟨#[108,101,97,115,116]⟩,⟨#[109,111,115,116]⟩]
def wordB (s:ByteArray):Bool:=wordsL.any λx=>eqS x s
def xh (s:ByteArray):Bool:=oneS 1 s && !wordB s
theorem words_fn:Fn 257 [] (λr=>r = .d (.slice 1 (wordsL.map oq))):=by
 refine fqE Tryz.func257 ?_;intro O w0 E0 β0;repeat' (first|refine zr ?_|fail)
 exact⟨.inl rfl,_,rfl,rfl,rfl⟩
theorem tokenName_fn (s:ByteArray):Fn 256 [.d (.str s)] (λr=>r = .d (.bool (oneS 1 s))):=by
 refine fqE Tryz.func256 ?_;intro O w0 E0 β0;repeat' (first|refine zr ?_|refine z21 ?_ (hc:=by apply one_fn)|fail)
 exact a7 rfl rfl
theorem treeName_fn (s:ByteArray):Fn 211 [.d (.str s)] (λr=>r = .d (.bool (xh s))):=by
 refine fqE Tryz.func211 ?_;intro O w0 E0 β0;have h1:=containsS_fn s wordsL;have h2:=tokenName_fn s;unfold xh wordB;repeat' (first|refine zr ?_|refine z21 ?_ (hc:=by apply h1)|refine z21 ?_ (hc:=by apply h2)|refine z21 ?_ (hc:=by apply words_fn)|(refine zm ?_ ?_<;>intro hg)|fail)
 all_goals exact a7 rfl (by simp_all)
theorem preds_fn (p:Prg) (hl:p.names.length=p.arity.length):Fn 158 [gu p] (λr=>r = .d (.int .i64 (jw (qr xh p) 0 p.names.length))):=by
 refine fqE Tryz.func158 ?_;intro O w0 E0 β0;have la:(p.arity.map aq).length=p.arity.length:=Aa _;have lb:(p.names.map oq).length=p.names.length:=Aa _;refine fx 0 1 rfl rfl (λhk=>?_);repeat' (first|refine zs ?_|fail)
 refine ag (ι:=Nat) (λi=>⟨1,[(1,.loc 0 0),(2,.d (.int .i64 0)),(6,.d (.slice 1 (p.names.map oq))),(7,.d (.int .i64 (p.names.map oq).length)),(8,.d (.int .i64 i))],[(0,.blk 26 [.d (.slice 1 (p.arity.map aq)),.d (.slice 1 (p.names.map oq)),.d (.slice 5 (p.rules.map dj))])]⟩)
  (λi=>i<=p.names.length/\jw (qr xh p) 0 p.names.length=jw (qr xh p) i (p.names.length-i)) (λi=>p.names.length-i) 0 ⟨Ak _,rfl⟩ (er id) ?_
 rintro i ⟨g1,g2⟩;by_cases hi:i<p.names.length
 ·have ha:p.arity.getD i 0=p.arity[i]'(by omega):=by rw [A6,Ad (by omega)];rfl
  have hn:p.names.getD i ⟨#[]⟩=p.names[i]:=by rw [A6,Ad hi];rfl
  rw [firstI_step hi,show qr xh p i=if inR (p.arity.getD i 0) 0 3=false then 3 else if xh (p.names.getD i ⟨#[]⟩)=false then 1 else if (p.names.take i).any (λs=>decide (s=p.names.getD i ⟨#[]⟩)) then 6 else 0 from rfl,ha,hn] at g2;have hc:=containsS_fn p.names[i] (p.names.take i);have hq:(p.names.take i).any (λs=>decide (s=p.names[i]))=(p.names.take i).any (λx=>eqS x p.names[i]):=by
   congr 1;funext x;unfold eqS;exact decide_eq_decide.2 eq_comm
  rw [hq] at g2;generalize (p.names.take i).any (λx=>eqS x p.names[i])=bc at g2 hc;repeat' (first|(apply pa;exact rfl;exact rfl;exact rfl;exact rfl;exact rfl;exact rfl;(refine⟨?_,?_,?_⟩<;>(omega));((with_reducible apply oe);(exact rfl));exact rfl;exact rfl)|refine zr ?_|refine z21 ?_ (hc:=by apply fc)|refine z21 ?_ (hc:=by apply treeName_fn)|refine z21 ?_ (hc:=by apply hc)|(refine zm ?_ ?_<;>intro hg)|fail)
  all_goals first
   | exact absurd hg (by omega)
   | exact a6 rfl (by rw [g2];simp_all)
   | exact⟨i+1,⟨by omega,by rw [g2];simp_all⟩,er id,by show p.names.length-(i+1)<p.names.length-i;omega⟩
 ·rw [firstI_end (by omega)] at g2;repeat' (first|(apply pa;exact rfl;exact rfl;exact rfl;exact rfl;exact rfl;exact rfl;(refine⟨?_,?_,?_⟩<;>(omega));((with_reducible apply oe);(exact rfl));exact rfl;exact rfl)|refine zr ?_|refine z21 ?_ (hc:=by apply fc)|refine z21 ?_ (hc:=by apply treeName_fn)|(refine zm ?_ ?_<;>intro hg)|fail)
  all_goals first
   | exact absurd hg (by omega)
   | exact a6 rfl g2.symm
abbrev FnW (f:FuncId) (args:List SV) (J k:Nat) (H:Hp) (R:Nat->SV->Hp->Prop):Prop:=FnOk false Tryz.prog tab b9 f args J k H R
abbrev bsH (bs:List Bool):Hp:=[(0,.blk 95 [.row 1]),(1,.row 4 1 (bs.map cu))]
theorem isT_pos {bs:List Bool} {t:Trm} (h:t.var<0):isT bs t=true:=by unfold isT;rw [decide_eq_true h];rfl
theorem isT_neg {bs:List Bool} {t:Trm} (h:¬ t.var<0) (h2:t.var<(bs.length:Int)):isT bs t=bs[t.var.toNat]'(by omega):=by
 unfold isT;rw [decide_eq_false h,Bool.false_or,A6,Ad (by omega)];rfl
theorem isFn (bs:List Bool) (t:Trm) (hok:okT bs.length t):FnW 261 [elTrm t,.loc 0 0] 1 2 (bsH bs) (λk2 res H2=>k2=2/\res = .d (.bool (isT bs t))/\H2=bsH bs):=by
 refine frE Tryz.func261 ?_;intro O w0 E0 β0;have la:(bs.map cu).length=bs.length:=Aa _;unfold okT at hok;by_cases hneg:t.var<0
 ·rw [isT_pos hneg];repeat' (first|refine zr ?_|(refine zm ?_ ?_<;>intro hg)|fail)
  ·exact⟨.inl rfl,_,rfl,kp id 2 (.d (.bool true)) (bsH bs) ⟨rfl,rfl,rfl⟩⟩
  all_goals exact absurd hneg hg
 ·rw [isT_neg hneg hok];repeat' (first|refine zr ?_|(refine zm ?_ ?_<;>intro hg)|fail)
  ·exact absurd hg hneg
  all_goals exact⟨.inl rfl,_,rfl,kp id 2 (.d (.bool _)) (bsH bs) ⟨rfl,rfl,rfl⟩⟩
def Fl (b0 bs:List Bool) (ch:Bool):Prop:=bs.length=b0.length/\bs.count false<=b0.count false/\(ch=false->bs=b0)/\(ch=true->bs.count false<b0.count false)
theorem Fl.refl (b0:List Bool):Fl b0 b0 false:=⟨rfl,Nat.le_refl _,λ_=>rfl,λh=>by cases h⟩
theorem count_set:∀ {bs:List Bool} {i:Nat} (_:i<bs.length),bs[i]?=some false->(bs.set i true).count false+1=bs.count false
 | [],_,h,_=>by simp at h
 | b::bs,0,_,hb=>by simp at hb;subst hb;simp
 | b::bs,i+1,h,hb=>by
  have:=count_set (bs:=bs) (i:=i) (by simpa using h) (by simpa using hb)
  rw [List.set_cons_succ,Fb,Fb]
  omega
theorem setT_count {bs:List Bool} {t:Trm} (hok:okT bs.length t) (h:isT bs t=false):(ji bs t).count false+1=bs.count false/\¬ t.var<0:=by
 have hn:¬ t.var<0:=λhn=>by rw [isT_pos hn] at h;cases h
 unfold okT at hok;rw [isT_neg hn hok] at h;unfold ji;rw [if_neg hn];exact⟨count_set (by omega) (by rw [Ad (by omega),h]),hn⟩
theorem Fl.step {b0 bs:List Bool} {ch:Bool} {t:Trm} (h:Fl b0 bs ch) (hok:okT bs.length t):Fl b0 (ji bs t) (ch || !isT bs t):=by
 obtain⟨h1,h2,h3,h4⟩:=h;cases ht:isT bs t with
 | true=>rw [pz ht,E5,Ia];exact⟨h1,h2,h3,h4⟩
 | false =>
  obtain⟨g1,_⟩:=setT_count hok ht;rw [H7,Ie];exact⟨by rw [v7,h1],by omega,λh=>by (cases h),λ_=>by omega⟩
abbrev sg (r:Rul):HB:=.blk 64 [.d (.int .i64 r.pred),.d (.slice 2 (r.terms.map av)),.d (.int .i64 r.fold),.d (.slice 4 (r.body.map ay)),.d (.int .i64 r.vars)]
abbrev bndH (r:Rul) (bs:List Bool):Hp:=[(0,sg r),(1,.row 4 1 (bs.map cu)),(2,.blk 95 [.row 1])]
abbrev bndL (ch:Bool):Sl:=[(1,.loc 0 0),(2,.nils),(3,.loc 2 0),(4,.fn 261 [.loc 2 0]),(5,.d (.bool ch))]
theorem fires4 {bs:List Bool} {l:Ltl} (k1:¬ l.kind=1) (k4:l.kind=4) (h:l.terms.length=3):co bs l=(isT bs (l.terms[0]'(by omega)) && isT bs (l.terms[1]'(by omega))):=by
 unfold co;rw [decide_eq_false k1,decide_eq_true k4];obtain⟨kind,op,pred,terms⟩:=l;dsimp only at h ⊢;match terms,h with
 | [a,b,c],_=>simp
theorem litTs_sub {l:Ltl} {t:Trm} (h:t∈d8 l):t∈l.terms:=by
 unfold d8 at h;split at h
 ·exact h
 ·exact List.mem_of_mem_drop h
theorem foldl_take {α β:Type} (f:β->α->β) (b:β) {l:List α} {i:Nat} (h:i<l.length):(l.take (i+1)).foldl f b=f ((l.take i).foldl f b) l[i]:=by
 rw [An h,List.foldl_append];rfl
theorem bLits_len:∀ (l:List Ltl) (bs:List Bool),(l.foldl l4 bs).length=bs.length:=bRound_len
theorem bound_fn (r:Rul) (h0:0<=r.vars) (h8:r.vars<=8) (hok:∀ l∈r.body,∀ t∈l.terms,okT r.vars.toNat t) (h3:∀ l∈r.body,l.kind=4->l.terms.length=3) :
  Fn 216 [vf r] (λres=>res = .d (.slice 1 ((u6 r).map cu))):=by
 refine fqE Tryz.func216 ?_;intro O w0 E0 β0;have lb:(r.body.map ay).length=r.body.length:=Aa _;refine fx 0 3 rfl rfl (λhk=>?_);repeat' (first|refine zs ?_|fail)
 refine ds_mk ((Ap r.vars.toNat false).map cu) rfl rfl (Az h0).symm rfl rfl rfl rfl rfl rfl (by show 1*_<=_;omega) (by unfold maxLen;omega) (by rw [Dm];rfl) rfl rfl ?_;repeat' (first|refine zs ?_|fail)
 refine ag (ι:=Bool×List Bool×Nat) (λx=>⟨3,bndL x.1,bndH r x.2.1⟩)
  (λx=>x.2.1=fk r.body x.2.2 (Ap r.vars.toNat false)/\(x.1=false->iv r.body x.2.1=x.2.1)) (λx=>2*x.2.1.count false+(if x.1 then 1 else 0))
  (true,Ap r.vars.toNat false,0) ⟨rfl,λh=>by cases h⟩ (er id) ?_
 rintro⟨ch,b0,m⟩ ⟨g1,g2⟩;dsimp only at g1 g2 ⊢;have hlen:b0.length=r.vars.toNat:=by rw [g1,tf,Cb]
 cases ch with
 | false =>
  repeat' (first|refine zs ?_|fail)
  refine ak (bh 2 rfl rfl rfl) ?_;repeat' (apply c9)
  have hb:b0=u6 r:=by
   rw [g1];exact rest_is (λl hl t ht=>hok l hl t (litTs_sub ht)) (g1▸g2 rfl)
  rw [<- hb];exact⟨.inl rfl,_,rfl,rfl,rfl⟩
 | true =>
  repeat' (first|refine zs ?_|fail)
  refine ag (ι:=Nat×List Bool×Bool) (λx=>⟨3,(17,.d (.slice 4 (r.body.map ay)))::(18,.d (.int .i64 (r.body.map ay).length))::(19,.d (.int .i64 x.1))::bndL x.2.2,bndH r x.2.1⟩)
   (λx=>x.1<=r.body.length/\x.2.1=(r.body.take x.1).foldl l4 b0/\Fl b0 x.2.1 x.2.2) (λx=>r.body.length-x.1)
   (0,b0,false) ⟨Ak _,rfl,Fl.refl b0⟩ (er id) ?_
  rintro⟨i,bs,ch⟩ ⟨f1,f2,f3⟩;dsimp only at f1 f2 f3 ⊢;have hbl:bs.length=r.vars.toNat:=by rw [f2,bLits_len,hlen]
  by_cases hi:i<r.body.length
  ·have hlok:=hok r.body[i] (Aj hi);have h3':=h3 r.body[i] (Aj hi);have hf:l4 bs r.body[i]=(r.body.take (i+1)).foldl l4 b0:=by rw [foldl_take l4 b0 hi,<- f2]
   repeat' ((fail_if_success (apply dw_stop 4));(first|refine zs ?_|(refine zm ?_ ?_<;>intro hg)|fail))
   ·generalize r.body[i]=l at hlok h3' hf ⊢;refine dw_cut (ι:=List Trm) (λts=>⟨4,(8,.d (.slice 2 (ts.map av)))::(17,.d (.slice 4 (r.body.map ay)))::(18,.d (.int .i64 (r.body.map ay).length))::(19,.d (.int .i64 i))::bndL ch,bndH r bs⟩) (λts=>ts=if co bs l then d8 l else []) ?_ ?_
    ·have ll:(l.terms.map av).length=l.terms.length:=Aa _;by_cases k1:l.kind=1
     ·repeat' (first|refine zs ?_|(refine zm ?_ ?_<;>intro hg)|fail)
      ·exact⟨l.terms,by unfold co d8;simp [k1],er id⟩
      all_goals (exfalso;omega)
     ·by_cases k4:l.kind=4
      ·have h3l:=h3' k4;have hlok':∀ t∈l.terms,okT bs.length t:=by rw [hbl];exact hlok
       have hf4:=fires4 (bs:=bs) k1 k4 h3l;have hl4:d8 l=l.terms.drop 2:=by unfold d8;rw [if_neg k1]
       repeat' (first|refine zs ?_|(refine zm ?_ ?_<;>intro hg)|(exfalso;omega))
       refine qc (λj=>match j with|0=>2|_=>1) (isFn bs (l.terms[0]'(by omega)) (hlok' _ (Aj _))) rfl rfl rfl rfl rfl rfl ⟨rfl,rfl,trivial⟩ rfl rfl rfl rfl rfl rfl ?_ ?_
       ·rintro k2 res H2 ⟨rfl,rfl,rfl⟩;exact⟨rfl,rfl⟩
       rintro k2 res H2 ⟨rfl,rfl,rfl⟩;change DS _ _ _ _ _ _ _ _;rw [hf4];generalize isT bs (l.terms[0]'(by omega))=q0;cases q0 with
       | false =>
        repeat' (first|refine zs ?_|fail)
        all_goals exact⟨[],rfl,mr (cr 8 2 rfl) (er (λj=>match j with|0=>0|1=>5|j=>j))⟩
       | true =>
        repeat' refine z0 ?_
        refine qc (λj=>match j with|0=>2|_=>5) (isFn bs (l.terms[1]'(by omega)) (hlok' _ (Aj _))) rfl rfl rfl rfl rfl rfl ⟨rfl,rfl,trivial⟩ rfl rfl rfl rfl rfl rfl ?_ ?_
        ·rintro k2 res H2 ⟨rfl,rfl,rfl⟩;exact⟨rfl,rfl⟩
        rintro k2 res H2 ⟨rfl,rfl,rfl⟩;change DS _ _ _ _ _ _ _ _;generalize isT bs (l.terms[1]'(by omega))=q1;cases q1 with
        | false =>
         repeat' (first|refine zs ?_|fail)
         all_goals exact⟨[],rfl,mr (cr 8 2 rfl) (er (λj=>match j with|0=>0|1=>7|j=>j))⟩
        | true =>
         repeat' (first|(apply pa;exact rfl;exact rfl;exact rfl;exact rfl;exact rfl;exact rfl;(refine⟨?_,?_,?_⟩<;>(omega));((with_reducible apply hv_drop);(exact bl _));exact rfl;exact rfl)|refine zs ?_|fail)
         all_goals exact⟨(l.terms.take (l.terms.map av).length).drop 2,by rw [Ai (by omega),hl4];rfl,er (λj=>match j with|0=>0|1=>7|j=>j)⟩
      ·have hf5:co bs l=false:=by unfold co;rw [decide_eq_false k1,decide_eq_false k4];rfl
       repeat' (first|refine zs ?_|(refine zm ?_ ?_<;>intro hg)|fail)
       all_goals first
        | exact absurd hg k1
        | exact absurd hg k4
        | exact⟨[],by rw [hf5];rfl,mr (cr 8 2 rfl) (er id)⟩
    ·rintro ts hts;have hbs:ts.foldl ji bs=(r.body.take (i+1)).foldl l4 b0:=by
      rw [<- hf,hts];unfold l4;split<;>rfl
     have htok:∀ t∈ts,okT bs.length t:=by
      intro t ht;rw [hbl];rw [hts] at ht;split at ht
      ·exact hlok t (litTs_sub ht)
      ·simp at ht
     clear hts;have lt:(ts.map av).length=ts.length:=Aa _;refine o9 (t:=8) rfl (λhkt=>?_);repeat' (first|refine zs ?_|fail)
     refine ag (ι:=Nat×List Bool×Bool) (λx=>⟨4,(52,.d (.slice 2 (ts.map av)))::(53,.d (.int .i64 (ts.map av).length))::(54,.d (.int .i64 x.1))::(17,.d (.slice 4 (r.body.map ay)))::(18,.d (.int .i64 (r.body.map ay).length))::(19,.d (.int .i64 i))::bndL x.2.2,bndH r x.2.1⟩)
      (λx=>x.1<=ts.length/\x.2.1=(ts.take x.1).foldl ji bs/\Fl b0 x.2.1 x.2.2) (λx=>ts.length-x.1)
      (0,bs,ch) ⟨Ak _,rfl,f3⟩ (er id) ?_
     rintro⟨j,bj,cj⟩ ⟨e1,e2,e3⟩;dsimp only at e1 e2 e3 ⊢;have hjl:bj.length=bs.length:=by rw [e2,setTs_len]
     by_cases hj:j<ts.length
     ·repeat' (first|refine zs ?_|(refine zm ?_ ?_<;>intro hg)|(exfalso;omega))
      have hq:=htok ts[j] (Aj hj);rw [<- hjl] at hq;have e4:=e3.step hq;have e5:(ts.take (j+1)).foldl ji bs=ji bj ts[j]:=by rw [foldl_take ji bs hj,<- e2]
      refine qc (λj=>match j with|0=>2|_=>1) (isFn bj ts[j] hq) rfl rfl rfl rfl rfl rfl ⟨rfl,rfl,trivial⟩ rfl rfl rfl rfl rfl rfl ?_ ?_
      ·rintro k2 res H2 ⟨rfl,rfl,rfl⟩;exact⟨rfl,rfl⟩
      rintro k2 res H2 ⟨rfl,rfl,rfl⟩;change DS _ _ _ _ _ _ _ _;have lbj:(bj.map cu).length=bj.length:=Aa _;cases hb:isT bj ts[j] with
      | true =>
       rw [hb,E5,Ia,pz hb] at e4;rw [pz hb] at e5;repeat' (first|refine zs ?_|fail)
       exact⟨(j+1,bj,cj),⟨by omega,e5.symm,e4⟩,er (λj=>match j with|0=>0|1=>6|j=>j),by show ts.length-(j+1)<ts.length-j;omega⟩
      | false =>
       obtain⟨_,hneg⟩:=setT_count hq hb;have hset:ji bj ts[j]=bj.set ts[j].var.toNat true:=by unfold ji;rw [if_neg hneg]
       rw [hb,H7,Ie,hset] at e4;rw [hset] at e5;unfold okT at hq;repeat' (first|refine z0 ?_|apply gy|(apply kh;exact rfl;exact rfl;(apply iq;(omega));exact rfl;exact rfl;(exact kb rfl);exact rfl;exact rfl;exact rfl;exact rfl;exact rfl;exact rfl)|refine zs ?_|fail)
       exact⟨(j+1,bj.set ts[j].var.toNat true,true),⟨by omega,e5.symm,e4⟩,er (λj=>match j with|0=>0|1=>6|j=>j),by show ts.length-(j+1)<ts.length-j;omega⟩
     ·repeat' (first|refine zs ?_|(refine zm ?_ ?_<;>intro hg)|(exfalso;omega))
      ·refine⟨(i+1,bj,cj),⟨by omega,?_,e3⟩,er id,by show r.body.length-(i+1)<r.body.length-i;omega⟩
       dsimp only;rw [<- hbs,e2,Ai (by omega)]
   ·exfalso;omega
  ·repeat' (first|refine zs ?_|(refine zm ?_ ?_<;>intro hg)|(exfalso;omega))
   ·refine⟨(ch,bs,m+1),⟨?_,?_⟩,er id,?_⟩
    ·dsimp only;rw [mf,<- g1,f2,Ai (by omega)];rfl
    ·rintro rfl;have hb:=f3.2.2.1 rfl;have hr:bs=iv r.body b0:=by rw [f2,Ai (by omega)];rfl
     show iv r.body bs=bs;rw [hb];rw [hb] at hr;exact hr.symm
    ·show 2*bs.count false+(if ch=true then 1 else 0)<2*b0.count false+(if true=true then 1 else 0);have h1:=f3.2.1;have h2:=f3.2.2.2;cases ch with
     | false=>simp;omega
     | true=>have:=h2 rfl;simp;omega
theorem ru {α:Type} {f:α->Int}:∀ {l:List α},bm f l=0->∀ x∈l,f x=0
 | [],_,x,hx=>by simp at hx
 | y::l,h,x,hx=>by
  unfold bm at h
  split at h
  ·rename_i hn;exact absurd h hn
  ·rename_i hn
   rcases List.mem_cons.1 hx with rfl|hx
   ·exact Decidable.not_not.1 hn
   ·exact ru h x hx
theorem termE_ok {vars:Int} {t:Trm} (h0:0<=vars) (h:vb vars t=0):okT vars.toNat t:=by
 unfold vb at h;split at h
 ·cases h
 ·rename_i hn;rw [Bool.not_eq_false] at hn;have:=ly hn
  unfold okT;omega
theorem litE_ok {ar:List Int} {vars:Int} {l:Ltl} (h0:0<=vars) (h:kz ar vars l=0):(∀ t∈l.terms,okT vars.toNat t)/\(l.kind=4->l.terms.length=3):=by
 have ht:nr vars l.terms=0->∀ t∈l.terms,okT vars.toNat t:=λh t ht=>termE_ok h0 (ru h t ht)
 unfold kz at h;split at h
 ·cases h
 split at h
 ·cases h
 split at h
 ·split at h
  ·cases h
  split at h
  ·cases h
  exact⟨ht h,λhk=>by omega⟩
 ·split at h
  ·cases h
  exact⟨ht h,λhk=>by omega⟩
theorem any_false (l:List Bool):(l.any λx=>eqB x false) = !l.all id:=by
 induction l with
 | nil=>rfl
 | cons b l ih=>rw [List.any_cons,Do,ih];cases b<;>rfl
abbrev prgB (p:Prg):HB:=.blk 26 [.d (.slice 1 (p.arity.map aq)),.d (.slice 1 (p.names.map oq)),.d (.slice 5 (p.rules.map dj))]
theorem rule_fn (p:Prg) (r:Rul):Fn 159 [gu p,vf r] (λx=>x = .d (.int .i64 (nk p.arity r))):=by
 refine fqE Tryz.func159 ?_;intro O w0 E0 β0;have la:(p.arity.map aq).length=p.arity.length:=Aa _;have lb:(r.terms.map av).length=r.terms.length:=Aa _;have lc:(r.body.map ay).length=r.body.length:=Aa _;refine fx 0 0 rfl rfl (λhk=>?_);refine fx 1 1 rfl rfl (λhk2=>?_);refine fx 1 3 rfl rfl (λhk3=>?_);have w1:=fc r.pred 0 (((p.arity.map aq).length:Int)-1);have w2:=fc r.vars 0 8;have w3:=fc r.fold 0 4;unfold nk;rw [<- la,<- lb,<- lc];by_cases hp:inR r.pred 0 (((p.arity.map aq).length:Int)-1)=true
 ·have hp':=ly hp;have hA:=arity_at (p:=p) (n:=r.pred) (by omega) (by omega);rw [hp] at w1 ⊢;rw [if_neg (show ¬ (true=false) by decide),hA];by_cases hv:inR r.vars 0 8=true
  ·have hv':=ly hv;rw [hv] at w2 ⊢;rw [if_neg (show ¬ (true=false) by decide)];have w4:=terms_fn r.terms r.vars hv'.1 hv'.2;clear hv hp hA;have w5:=λl=>lit_fn p l r.vars hv'.1 hv'.2
   generalize nr r.vars r.terms=te at w4 ⊢;generalize inR r.fold 0 4=fo at w3 ⊢;repeat' (first|refine zr ?_|refine z21 ?_ (hc:=by apply w1)|refine z21 ?_ (hc:=by apply w2)|refine z21 ?_ (hc:=by apply w3)|refine z21 ?_ (hc:=by apply w4)|(refine zm ?_ ?_<;>intro hg)|fail)
   all_goals try (refine a6 rfl ?_;(repeat' split)<;>(first|rfl|(exfalso;omega)|(exfalso;simp_all;done)))
   all_goals
    have hfin:∀ e,bm (kz p.arity r.vars) r.body=e->(if (((r.terms.map av).length:Nat):Int)≠p.arity[r.pred.toNat]'(by omega) then 1 else if te≠0 then te else if fo=false then 7 else if r.fold≠0/\((r.terms.map av).length=0∨(r.body.map ay).length=0) then 1 else if 4<(r.body.map ay).length then 2 else if bm (kz p.arity r.vars) r.body≠0 then bm (kz p.arity r.vars) r.body else if rk r=false then 4 else 0)=if e≠0 then e else if rk r=false then 4 else 0:=by
     rintro e rfl;(repeat' split)<;>(first|rfl|(exfalso;omega)|(exfalso;simp_all;done))
    generalize (if (((r.terms.map av).length:Nat):Int)≠p.arity[r.pred.toNat]'(by omega) then 1 else if te≠0 then te else if fo=false then 7 else if r.fold≠0/\((r.terms.map av).length=0∨(r.body.map ay).length=0) then 1 else if 4<(r.body.map ay).length then 2 else if bm (kz p.arity r.vars) r.body≠0 then bm (kz p.arity r.vars) r.body else if rk r=false then 4 else 0)=res at hfin ⊢;refine ag (ι:=Nat) (λi=>⟨2,[(2,.loc 0 0),(3,.loc 1 0),(4,.d (.int .i64 0)),(69,.d (.slice 4 (r.body.map ay))),(70,.d (.int .i64 (r.body.map ay).length)),(71,.d (.int .i64 i))],[(0,prgB p),(1,sg r)]⟩)
     (λi=>i<=r.body.length/\bm (kz p.arity r.vars) r.body=bm (kz p.arity r.vars) (r.body.drop i)) (λi=>r.body.length-i) 0 ⟨Ak _,rfl⟩ (er id) ?_
    rintro i ⟨g1,g2⟩;by_cases hi:i<r.body.length
    ·rw [ga hi] at g2;have w6:=w5 r.body[i];generalize kz p.arity r.vars r.body[i]=le at w6 g2;repeat' (first|refine zr ?_|refine z21 ?_ (hc:=by apply w6)|(refine zm ?_ ?_<;>intro hg)|fail)
     all_goals first
      | (exfalso;omega)
      | (refine a6 rfl ?_;rw [hfin le (by rw [g2,if_pos (by assumption)]),if_pos (by assumption)];done)
      | exact⟨i+1,⟨by omega,by rw [g2,if_neg (by assumption)]⟩,er id,by show r.body.length-(i+1)<r.body.length-i;omega⟩
    ·rw [ir (by omega)] at g2;have hall:=ru g2;have w7:=bound_fn r hv'.1 hv'.2 (λl hl=>(litE_ok hv'.1 (hall l hl)).1) (λl hl=>(litE_ok hv'.1 (hall l hl)).2);have w8:=containsB_fn false (u6 r);rw [any_false] at w8;rw [hfin 0 g2,if_neg (by decide)];unfold rk;generalize (u6 r).all id=sb at w8 ⊢;repeat' (first|refine zr ?_|refine z21 ?_ (hc:=by apply w7)|refine z21 ?_ (hc:=by apply w8)|(refine zm ?_ ?_<;>intro hg)|fail)
     all_goals first
      | (exfalso;omega)
      | (refine a6 rfl ?_;simp_all;done)
  ·rw [Cm] at hv;rw [hv] at w2 ⊢;repeat' (first|refine zr ?_|refine z21 ?_ (hc:=by apply w1)|refine z21 ?_ (hc:=by apply w2)|(refine zm ?_ ?_<;>intro hg)|fail)
   all_goals exact a6 rfl (by simp_all)
 ·rw [Cm] at hp;rw [hp] at w1 ⊢;rw [if_pos rfl];repeat' (first|refine zr ?_|refine z21 ?_ (hc:=by apply w1)|fail)
  all_goals exact a6 rfl rfl
theorem check_fn (p:Prg):Fn 109 [gu p] (λx=>x = .d (.int .i64 (dc xh p))):=by
 refine fqE Tryz.func109 ?_;intro O w0 E0 β0;have la:(p.arity.map aq).length=p.arity.length:=Aa _;have lb:(p.names.map oq).length=p.names.length:=Aa _;have lc:(p.rules.map dj).length=p.rules.length:=Aa _;refine fx 0 0 rfl rfl (λhk=>?_);refine fx 0 2 rfl rfl (λhk2=>?_);unfold dc;by_cases h1:10<p.arity.length∨12<p.rules.length
 ·rw [if_pos h1];repeat' (first|refine zr ?_|(refine zm ?_ ?_<;>intro hg)|fail)
  all_goals first
   | (exfalso;omega)
   | exact a6 rfl rfl
 ·rw [if_neg h1];by_cases h2:p.names.length≠p.arity.length
  ·rw [if_pos h2];repeat' (first|refine zr ?_|(refine zm ?_ ?_<;>intro hg)|fail)
   all_goals first
    | (exfalso;omega)
    | exact a6 rfl rfl
  ·rw [if_neg h2];have w1:=preds_fn p (by omega);generalize jw (qr xh p) 0 p.names.length=ne at w1 ⊢;repeat' (first|refine zr ?_|refine z21 ?_ (hc:=by apply w1)|(refine zm ?_ ?_<;>intro hg)|(exfalso;omega))
   ·exact a6 rfl (by rw [if_pos hg])
   rw [if_neg hg];refine ag (ι:=Nat) (λi=>⟨1,[(1,.loc 0 0),(2,.d (.int .i64 0)),(32,.d (.slice 5 (p.rules.map dj))),(33,.d (.int .i64 (p.rules.map dj).length)),(34,.d (.int .i64 i))],[(0,prgB p)]⟩)
    (λi=>i<=p.rules.length/\bm (nk p.arity) p.rules=bm (nk p.arity) (p.rules.drop i)) (λi=>p.rules.length-i) 0 ⟨Ak _,rfl⟩ (er id) ?_
   rintro i ⟨g1,g2⟩;by_cases hi:i<p.rules.length
   ·rw [ga hi] at g2;have w6:=rule_fn p p.rules[i];generalize nk p.arity p.rules[i]=le at w6 g2;repeat' (first|refine zr ?_|refine z21 ?_ (hc:=by apply w6)|(refine zm ?_ ?_<;>intro hg)|fail)
    all_goals first
     | (exfalso;omega)
     | (refine a6 rfl ?_;rw [g2,if_pos (by assumption)];done)
     | exact⟨i+1,⟨by omega,by rw [g2,if_neg (by assumption)]⟩,er id,by show p.rules.length-(i+1)<p.rules.length-i;omega⟩
   ·rw [ir (by omega)] at g2;repeat' (first|refine zr ?_|(refine zm ?_ ?_<;>intro hg)|fail)
    all_goals first
     | (exfalso;omega)
     | exact a6 rfl g2.symm
theorem ez (n a b:Int):Fn 87 [.d (.int .i64 n),.d (.int .i64 a),.d (.int .i64 b)] (λr=>r = .d (.bool (inR n a b))):=ra n a b
theorem kl (n:Int):Fn 88 [.d (.int .i64 n)] (λr=>r = .d (.bool (numB n))):=by
 refine fqE Tryz.func88 ?_;intro O w0 E0 β0;unfold numB;repeat' (first|refine zr ?_|refine z21 ?_ (hc:=by apply ez)|fail)
 exact a7 rfl rfl
theorem rterms_fn (l:List Trm) (vars:Int) (h0:0<=vars) (h8:vars<=8):Fn 205 [.d (.slice 2 (l.map av)),.d (.int .i64 vars)] (λr=>r = .d (.int .i64 (nr vars l))):=by
 refine fqE Tryz.func205 ?_;intro O w0 E0 β0;have la:(l.map av).length=l.length:=Aa _;unfold nr;refine o9 (t:=0) rfl (λhk=>?_);repeat' (first|refine zs ?_|fail)
 refine ag (ι:=Nat) (λi=>⟨0,[(0,.d (.slice 2 (l.map av))),(1,.d (.int .i64 vars)),(4,.d (.int .i64 0)),(5,.d (.int .i64 i))],[]⟩)
  (λi=>i<=l.length/\bm (vb vars) l=bm (vb vars) (l.drop i)) (λi=>l.length-i) 0 ⟨Ak _,rfl⟩ (er id) ?_
 rintro i ⟨g1,g2⟩;by_cases hi:i<l.length
 ·rw [ga hi,show vb vars l[i]=if inR l[i].var (-1) (vars-1)=false then 5 else if numB l[i].n=false∨(0<=l[i].var/\l[i].n≠0) then 3 else 0 from rfl] at g2;repeat' (first|refine zr ?_|refine z21 ?_ (hc:=by apply ez)|refine z21 ?_ (hc:=by apply kl)|(refine zm ?_ ?_<;>intro hg)|fail)
  all_goals first
   | exact absurd hg (by omega)
   | exact a6 rfl (by rw [g2];simp_all<;>omega)
   | exact⟨i+1,⟨by omega,by rw [g2];simp_all<;>omega⟩,er id,by show l.length-(i+1)<l.length-i;omega⟩
 ·rw [ir (by omega)] at g2;repeat' (first|refine zr ?_|refine z21 ?_ (hc:=by apply ez)|refine z21 ?_ (hc:=by apply kl)|(refine zm ?_ ?_<;>intro hg)|fail)
  all_goals first
   | exact absurd hg (by omega)
   | exact a6 rfl g2.symm
theorem isWord_fn (s:ByteArray):Fn 204 [.d (.str s)] (λr=>r = .d (.bool (wordB s))):=by
 refine fqE Tryz.func204 ?_;intro O w0 E0 β0;unfold wordB wordsL;repeat' (first|refine zr ?_|(refine zm ?_ ?_<;>intro hg)|fail)
 all_goals exact a7 rfl (by simp_all [eqS])
def cz (s:ByteArray):Bool:=isTok 1 s && !wordB s
theorem isName_fn (s:ByteArray):Fn 142 [.d (.str s)] (λr=>r = .d (.bool (cz s))):=by
 refine fqE Tryz.func142 ?_;intro O w0 E0 β0;unfold cz;repeat' (first|refine zr ?_|refine z21 ?_ (hc:=by apply isToken_fn)|refine z21 ?_ (hc:=by apply isWord_fn)|(refine zm ?_ ?_<;>intro hg)|fail)
 all_goals exact a7 rfl (by simp_all)
def l8 (bs:List Bool) (l:Ltl):Nat:=if l.kind=4 then (if co bs l then 2 else 3) else 0
theorem bLit_first {bs:List Bool} {l:Ltl} (h3:l.kind=4->l.terms.length=3):l4 bs l=if l.kind=1∨l.kind=4 then (l.terms.drop (l8 bs l)).foldl ji bs else bs:=by
 unfold l4 l8 d8;by_cases k1:l.kind=1
 ·have hf:co bs l=true:=by unfold co;rw [decide_eq_true k1];rfl
  simp [hf,k1]
 ·by_cases k4:l.kind=4
  ·cases hf:co bs l with
   | true=>simp [k4]
   | false =>
    have hd:l.terms.drop 3=[]:=As (by have:=h3 k4;omega);simp [k4,hd]
  ·have hf:co bs l=false:=by unfold co;rw [decide_eq_false k1,decide_eq_false k4];rfl
   simp [hf,k1,k4]
abbrev litB (l:Ltl):HB:=.blk 68 [.d (.int .i64 l.kind),.d (.int .i64 l.op),.d (.int .i64 l.pred),.d (.slice 2 (l.terms.map av))]
theorem safe_fn (r:Rul) (hb4:r.body.length<=4) (h0:0<=r.vars) (h8:r.vars<=8) (hok:∀ l∈r.body,∀ t∈l.terms,okT r.vars.toNat t) (h3:∀ l∈r.body,l.kind=4->l.terms.length=3) :
  Fn 206 [vf r] (λx=>x = .d (.bool (rk r))):=by
 refine fqE Tryz.func206 ?_;intro O w0 E0 β0;have lb:(r.body.map ay).length=r.body.length:=Aa _;refine fx 0 3 rfl rfl (λhk=>?_);repeat' (first|refine zs ?_|fail)
 refine ds_mk ((Ap r.vars.toNat false).map cu) rfl rfl (Az h0).symm rfl rfl rfl rfl rfl rfl (by show 1*_<=_;omega) (by unfold maxLen;omega) (by rw [Dm];rfl) rfl rfl ?_;repeat' (first|refine zs ?_|fail)
 refine ag (ι:=Nat×List Bool) (λx=>⟨2,[(1,.loc 0 0),(2,.d (.bool false)),(3,.row 1),(4,.d (.int .i64 x.1))],[(0,sg r),(1,.row 4 1 (x.2.map cu))]⟩)
  (λx=>x.1<=r.body.length+1/\x.2=fk r.body x.1 (Ap r.vars.toNat false)) (λx=>r.body.length+1-x.1)
  (0,Ap r.vars.toNat false) ⟨Ak _,rfl⟩ (er id) ?_
 rintro⟨n,b0⟩ ⟨g1,g2⟩;dsimp only at g1 g2 ⊢;have hlen:b0.length=r.vars.toNat:=by rw [g2,tf,Cb]
 by_cases hn:n<r.body.length+1
 ·repeat' (first|refine zs ?_|(refine zm ?_ ?_<;>intro hg)|(exfalso;omega))
  refine ag (ι:=Nat×List Bool) (λx=>⟨2,[(1,.loc 0 0),(2,.d (.bool false)),(3,.row 1),(4,.d (.int .i64 n)),(5,.d (.int .i64 x.1))],[(0,sg r),(1,.row 4 1 (x.2.map cu))]⟩)
   (λx=>x.1<=r.body.length/\x.2=(r.body.take x.1).foldl l4 b0) (λx=>r.body.length-x.1)
   (0,b0) ⟨Ak _,rfl⟩ (er id) ?_
  rintro⟨i,bs⟩ ⟨f1,f2⟩;dsimp only at f1 f2 ⊢;have hbl:bs.length=r.vars.toNat:=by rw [f2,bLits_len,hlen]
  by_cases hi:i<r.body.length
  ·have hlok:=hok r.body[i] (Aj hi);have h3':=h3 r.body[i] (Aj hi);have hf:l4 bs r.body[i]=(r.body.take (i+1)).foldl l4 b0:=by rw [foldl_take l4 b0 hi,<- f2]
   rw [bLit_first h3'] at hf;repeat' ((fail_if_success (apply ip 10));(first|refine zs ?_|(refine zm ?_ ?_<;>intro hg)|fail))
   all_goals try (exfalso;omega)
   generalize r.body[i]=l at hlok h3' hf ⊢;have ll:(l.terms.map av).length=l.terms.length:=Aa _;have lbs:(bs.map cu).length=bs.length:=Aa _;refine dw_cut (ι:=Unit) (λ_=>⟨3,[(1,.loc 0 0),(2,.d (.bool false)),(3,.row 1),(4,.d (.int .i64 n)),(5,.d (.int .i64 i)),(6,.loc 2 0),(7,.d (.int .i64 (l8 bs l)))],[(0,sg r),(1,.row 4 1 (bs.map cu)),(2,litB l)]⟩) (λ_=>True) ?_ ?_
   ·by_cases k4:l.kind=4
    ·have h3l:=h3' k4;have hf4:=fires4 (bs:=bs) (by omega) k4 h3l;have hlok':∀ t∈l.terms,okT bs.length t:=by rw [hbl];exact hlok
     repeat' (first|refine zs ?_|(refine zm ?_ ?_<;>intro hg)|(exfalso;omega))
     refine ag (ι:=Nat×Int) (λx=>⟨3,[(1,.loc 0 0),(2,.d (.bool false)),(3,.row 1),(4,.d (.int .i64 n)),(5,.d (.int .i64 i)),(6,.loc 2 0),(7,.d (.int .i64 x.2)),(8,.d (.int .i64 x.1))],[(0,sg r),(1,.row 4 1 (bs.map cu)),(2,litB l)]⟩)
      (λx=>x.1<=2/\x.2=if (l.terms.take x.1).all (isT bs) then 2 else 3) (λx=>2-x.1)
      (0,2) ⟨Ak _,rfl⟩ (er id) ?_
     rintro⟨j,f⟩ ⟨e1,e2⟩;dsimp only at e1 e2 ⊢;by_cases hj:j<2
     ·have hq:=hlok' (l.terms[j]'(by omega)) (Aj _);have e3:(l.terms.take (j+1)).all (isT bs)=((l.terms.take j).all (isT bs) && isT bs (l.terms[j]'(by omega))):=by
       rw [An (by omega),List.all_append];simp
      by_cases hneg:(l.terms[j]'(by omega)).var<0
      ·rw [isT_pos hneg,Ib] at e3;repeat' (first|refine zs ?_|(refine zm ?_ ?_<;>intro hg)|(exfalso;omega))
       all_goals exact⟨(j+1,f),⟨by omega,by dsimp only;rw [e3,e2]⟩,er id,by show 2-(j+1)<2-j;omega⟩
      ·rw [isT_neg hneg hq] at e3;unfold okT at hq;repeat' (first|refine zs ?_|(refine zm ?_ ?_<;>intro hg)|(exfalso;omega))
       ·have hb:bs[(l.terms[j]'(by omega)).var.toNat]'(by omega)=false:=by simpa using hg
        exact⟨(j+1,3),⟨by omega,by dsimp only;rw [e3,hb,Bool.and_false];rfl⟩,er id,by show 2-(j+1)<2-j;omega⟩
       ·have hb:bs[(l.terms[j]'(by omega)).var.toNat]'(by omega)=true:=by simpa using hg
        exact⟨(j+1,f),⟨by omega,by dsimp only;rw [e3,hb,Ib,e2]⟩,er id,by show 2-(j+1)<2-j;omega⟩
     ·repeat' (first|refine zs ?_|(refine zm ?_ ?_<;>intro hg)|(exfalso;omega))
      refine⟨(),trivial,?_⟩
      have hff:f=(l8 bs l:Int):=by
       unfold l8;rw [if_pos k4,e2,show j=2 by omega];have:co bs l=(l.terms.take 2).all (isT bs):=by unfold co;rw [decide_eq_false (by omega),decide_eq_true k4];simp
       rw [this];split<;>rfl
      rw [hff];exact er id
    ·repeat' (first|refine zs ?_|(refine zm ?_ ?_<;>intro hg)|(exfalso;omega))
     refine⟨(),trivial,?_⟩
     unfold l8;rw [if_neg k4];exact er id
   ·intro _ _;have hfl:l8 bs l<=3:=by unfold l8;split<;>(try split)<;>omega
    refine dw_lenC 2 3 rfl rfl (λhkl=>?_);repeat' (first|refine zs ?_|fail)
    by_cases hk14:l.kind=1∨l.kind=4
    ·rw [if_pos hk14] at hf;have hlok':∀ t∈l.terms,okT bs.length t:=by rw [hbl];exact hlok
     refine ag (ι:=Nat×List Bool) (λx=>⟨3,[(1,.loc 0 0),(2,.d (.bool false)),(3,.row 1),(4,.d (.int .i64 n)),(5,.d (.int .i64 i)),(6,.loc 2 0),(9,.d (.int .i64 x.1))],[(0,sg r),(1,.row 4 1 (x.2.map cu)),(2,litB l)]⟩)
      (λx=>x.2.length=bs.length/\(l.terms.drop x.1).foldl ji x.2=(l.terms.drop (l8 bs l)).foldl ji bs/\x.1<=l.terms.length+3) (λx=>l.terms.length+3-x.1)
      (l8 bs l,bs) ⟨rfl,rfl,by dsimp only;omega⟩ (er id) ?_
     rintro⟨j,bj⟩ ⟨e1,e2,e3⟩;dsimp only at e1 e2 e3 ⊢;have lbj:(bj.map cu).length=bj.length:=Aa _;by_cases hj:j<l.terms.length
     ·have hq:=hlok' l.terms[j] (Aj hj);rw [<- e1] at hq;rw [Am hj,List.foldl_cons] at e2;by_cases hneg:l.terms[j].var<0
      ·have hst:ji bj l.terms[j]=bj:=by unfold ji;rw [if_pos hneg]
       rw [hst] at e2;repeat' (first|refine z0 ?_|refine z12 ?_|apply gy|(apply kh;exact rfl;exact rfl;(apply iq;(omega));exact rfl;exact rfl;(exact kb rfl);exact rfl;exact rfl;exact rfl;exact rfl;exact rfl;exact rfl)|refine zs ?_|(refine zm ?_ ?_<;>intro hg)|(exfalso;omega))
       all_goals exact⟨(j+1,bj),⟨e1,e2,by dsimp only;omega⟩,er id,by show l.terms.length+3-(j+1)<l.terms.length+3-j;omega⟩
      ·have hst:ji bj l.terms[j]=bj.set l.terms[j].var.toNat true:=by unfold ji;rw [if_neg hneg]
       rw [hst] at e2;unfold okT at hq;repeat' (first|refine z0 ?_|refine z12 ?_|apply gy|(apply kh;exact rfl;exact rfl;(apply iq;(omega));exact rfl;exact rfl;(exact kb rfl);exact rfl;exact rfl;exact rfl;exact rfl;exact rfl;exact rfl)|refine zs ?_|(refine zm ?_ ?_<;>intro hg)|(exfalso;omega))
       all_goals exact⟨(j+1,bj.set l.terms[j].var.toNat true),⟨by dsimp only;rw [List.length_set];exact e1,e2,by dsimp only;omega⟩,er id,by show l.terms.length+3-(j+1)<l.terms.length+3-j;omega⟩
     ·rw [As (by omega)] at e2;have e2:bj=(l.terms.drop (l8 bs l)).foldl ji bs:=e2;repeat' (first|refine z0 ?_|refine z12 ?_|apply gy|(apply kh;exact rfl;exact rfl;(apply iq;(omega));exact rfl;exact rfl;(exact kb rfl);exact rfl;exact rfl;exact rfl;exact rfl;exact rfl;exact rfl)|refine zs ?_|(refine zm ?_ ?_<;>intro hg)|(exfalso;omega))
      all_goals exact⟨(i+1,bj),⟨by omega,by dsimp only;rw [e2,hf]⟩,er id,by show r.body.length-(i+1)<r.body.length-i;omega⟩
    ·rw [if_neg hk14] at hf;refine ag (ι:=Unit) (λ_=>⟨3,[(1,.loc 0 0),(2,.d (.bool false)),(3,.row 1),(4,.d (.int .i64 n)),(5,.d (.int .i64 i)),(6,.loc 2 0),(9,.d (.int .i64 (l8 bs l)))],[(0,sg r),(1,.row 4 1 (bs.map cu)),(2,litB l)]⟩)
      (λ_=>True) (λ_=>0) () trivial (er id) ?_
     intro _ _;repeat' (first|refine z0 ?_|refine z12 ?_|apply gy|(apply kh;exact rfl;exact rfl;(apply iq;(omega));exact rfl;exact rfl;(exact kb rfl);exact rfl;exact rfl;exact rfl;exact rfl;exact rfl;exact rfl)|refine zs ?_|(refine zm ?_ ?_<;>intro hg)|(exfalso;omega))
     all_goals exact⟨(i+1,bs),⟨by omega,by rw [hf]⟩,er id,by show r.body.length-(i+1)<r.body.length-i;omega⟩
  ·repeat' (first|refine zs ?_|(refine zm ?_ ?_<;>intro hg)|(exfalso;omega))
   refine⟨(n+1,bs),⟨by omega,?_⟩,er id,by show r.body.length+1-(n+1)<r.body.length+1-n;omega⟩
   dsimp only;rw [mf,<- g2,f2,Ai (by omega)];rfl
 ·repeat' (first|refine zs ?_|(refine zm ?_ ?_<;>intro hg)|(exfalso;omega))
  have hb:b0=u6 r:=by rw [g2,show n=r.body.length+1 by omega];rfl
  unfold rk;rw [<- hb];have lb0:(b0.map cu).length=b0.length:=Aa _;refine ag (ι:=Nat) (λx=>⟨2,[(1,.loc 0 0),(2,.d (.bool false)),(3,.row 1),(10,.d (.int .i64 x))],[(0,sg r),(1,.row 4 1 (b0.map cu))]⟩)
   (λx=>x<=b0.length/\b0.all id=(b0.drop x).all id) (λx=>b0.length-x)
   0 ⟨Ak _,rfl⟩ (er id) ?_
  rintro j ⟨e1,e2⟩;dsimp only at e1 e2 ⊢;by_cases hj:j<b0.length
  ·rw [Am hj,Do] at e2;repeat' (first|refine zr ?_|(refine zm ?_ ?_<;>intro hg)|(exfalso;omega))
   ·refine a7 rfl ?_;have hbj:b0[j]=false:=by simpa using hg
    rw [e2,hbj];rfl
   ·have hbj:b0[j]=true:=by simpa using hg
    exact⟨j+1,⟨by omega,by rw [e2,hbj];rfl⟩,er id,by show b0.length-(j+1)<b0.length-j;omega⟩
  ·rw [As (by omega)] at e2;repeat' (first|refine zr ?_|(refine zm ?_ ?_<;>intro hg)|(exfalso;omega))
   all_goals exact a7 rfl (by rw [e2];rfl)
end
section
open Go Go.RowKit
section
variable {Γ : Ctx} {l : List Oper} {κ : Nat}
structure GoO (l:List Oper) (listed:Array Bool) (rem:List (Nat×Oper)):Prop where
 size:listed.size=l.length
 closed:∀ j o,l[j]?=some o->listed.getD j false=true->∀ e∈o.after,Region.binds .any e=true->listed.getD e.on false=true
 left:∀ q,q∈rem↔l[q.1]?=some q.2/\listed.getD q.1 true=false
 sorted:rem.Pairwise (λp q=>p.1≠q.1/\ph l p.1 q.1=false)
theorem GoO.rest {listed:Array Bool} {rem pre post:List (Nat×Oper)} {i:Nat} {o:Oper} (g:GoO l listed rem) (hr:i∈Region.ready .any l.toArray listed) (he:rem=pre++(i,o)::post) (hi:l[i]?=some o):GoO l (listed.setIfInBounds i true) (pre++post) where
 size:=by simp [g.size]
 closed j oj hj hl e he' hb:=by
  have key:∀ x,listed.getD x false=true->(listed.setIfInBounds i true).getD x false=true:=by
   intro x hx;by_cases hix:i=x
   ·subst hix;have:i<listed.size:=by rw [g.size];exact df hi
    simp [this]
   ·rw [getD_set_ne false hix];exact hx
  by_cases hij:i=j
  ·subst hij;obtain⟨_,o',ho',hall⟩:=mem_ready.1 hr;have ho2:l[i]?=some o':=by simpa using ho'
   rw [hj] at ho2;cases ho2;exact key _ (hall e he' hb)
  ·rw [getD_set_ne false hij] at hl;exact key _ (g.closed j oj hj hl e he' hb)
 left q:=by
  have hs:=g.sorted;rw [he] at hs;have hne:∀ q∈pre++post,q.1≠i:=by
   intro q hq hqi;rw [List.pairwise_append] at hs;obtain⟨_,h2,h3⟩:=hs;rcases List.mem_append.1 hq with h|h
   ·exact (h3 q h (i,o) (List.mem_cons_self ..)).1 hqi
   ·exact ((List.pairwise_cons.1 h2).1 q h).1 hqi.symm
  constructor
  ·intro hq;have h1:q∈rem:=by rw [he];rcases List.mem_append.1 hq with h|h<;>simp [h]
   obtain⟨a,b⟩:=(g.left q).1 h1;exact⟨a,by rw [getD_set_ne true (Ne.symm (hne q hq))];exact b⟩
  ·rintro⟨a,b⟩;have hqi:i≠q.1:=by
    intro h;have:i<listed.size:=by rw [g.size];exact df hi
    rw [<- h] at b;simp [this] at b
   rw [getD_set_ne true hqi] at b;have h1:=(g.left q).2 ⟨a,b⟩;rw [he] at h1;simp only [List.mem_append,List.mem_cons] at h1 ⊢;rcases h1 with h|h|h
   ·exact .inl h
   ·exact absurd (by rw [h]) hqi
   ·exact .inr h
 sorted:=by
  have hs:=g.sorted;rw [he] at hs;exact hs.sublist (List.Sublist.append (List.Sublist.refl _) (List.sublist_cons_self _ _))
end
end
end Go.Proofs.YtapciiffpnociadGreat
