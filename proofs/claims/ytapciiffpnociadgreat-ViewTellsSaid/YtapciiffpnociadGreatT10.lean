/- Several texts in one: TokR WirC RelA ScoE GxNil StrA RelD ShS GxRow. Condition: none. -/
import Derived.Test.YtapciiffpnociadGreatT08
import Derived.Test.YtapciiffpnociadGreatT09
import Derived.Test.YtapciiffpnociadGreatT01
import Derived.Test.YtapciiffpnociadGreatT02
import Derived.Lib.SliceRun
import Derived.Shelf.SlSortCmp.NoneTotal
import Derived.Ground.SlsfProg
import Derived.Test.YtapciiffpnociadGreatProg
import Derived.ProofKit
import Derived.SizedLaws
set_option maxHeartbeats 8000000
open Bool renaming and_eq_true→Ae,eq_iff_iff→E8,false_ne_true→C5
open Int renaming ofNat_lt→Ew
open List renaming drop_eq_getElem_cons→Am,drop_of_length_le→As,getElem?_append_left→Bm,getElem?_append_right→A4,getElem?_eq_getElem→Ad,length_map→Aa,map_cons→A3,mem_append→Cj,mem_cons→Bh,take_of_length_le→Ai
open Nat renaming add_assoc→F5,beq→Aw,blt→Av,eq_of_beq_eq_true→Ao,le_of_ble_eq_true→Ab,le_refl→Ah,zero_le→Ak
open Option renaming bind_eq_some_iff→F8
namespace Go.Proofs.YtapciiffpnociadGreat
open Go Go.RowKit
attribute [local irreducible] DW DS DL DQ Ev FnOk FnP ef bt DT
theorem ra (n a b:Int):Fn 87 [.d (.int .i64 n),.d (.int .i64 a),.d (.int .i64 b)] (λr=>r = .d (.bool (decide (a<=n) && decide (n<=b)))):=by
 refine fqE Tryz.func87 ?_;intro O w0 E0 β0;repeat' (first|refine zr ?_|(refine zm ?_ ?_<;>intro hg)|fail)
 all_goals exact a7 rfl (by first|(simp_all;done)|(simp_all;omega))
theorem isSmall_fn (c:UInt8):Fn 279 [.d (.int .u8 (c.toNat:Int))] (λr=>r = .d (.bool (gv c))):=by
 refine fqE Tryz.func279 ?_;intro O w0 E0 β0;repeat' (first|refine zr ?_|refine z21 ?_ (hc:=by apply ra)|fail)
 all_goals exact a7 rfl (by unfold gv;rfl)
theorem isLetter_fn (c:UInt8):Fn 277 [.d (.int .u8 (c.toNat:Int))] (λr=>r = .d (.bool (e7 c))):=by
 refine fqE Tryz.func277 ?_;intro O w0 E0 β0;repeat' (first|refine zr ?_|refine z21 ?_ (hc:=by apply ra)|refine z21 ?_ (hc:=by apply isSmall_fn)|(refine zm ?_ ?_<;>intro hg)|fail)
 all_goals exact a7 rfl (by unfold e7 ju;rw [hg];rfl)
theorem isDigit_fn (c:UInt8):Fn 278 [.d (.int .u8 (c.toNat:Int))] (λr=>r = .d (.bool (da c))):=by
 refine fqE Tryz.func278 ?_;intro O w0 E0 β0;repeat' (first|refine zr ?_|refine z21 ?_ (hc:=by apply ra)|fail)
 all_goals exact a7 rfl (by unfold da;rfl)
theorem ext2 (s:ByteArray) (i:Nat) (h:i+1<s.size):s.extract i (i+2)=⟨#[s[i],s[i+1]]⟩:=by
 apply ByteArray.ext;simp only [ByteArray.data_extract];apply Array.toList_inj.1;rw [Array.toList_extract];have hl:s.data.toList.length=s.size:=by simp
 rw [List.extract_eq_take_drop,show i+2-i=2 by omega,Am (by omega),Am (by omega),oa _ _ (by omega),oa _ _ (by omega)];rfl
theorem pair_ext (s:ByteArray) (i:Nat) (h:i+1<s.size):ml (s[i]::s.data.toList.drop (i+1))=(decide (s.extract i (i+2)=⟨#[58,45]⟩) || decide (s.extract i (i+2)=⟨#[60,61]⟩) || decide (s.extract i (i+2)=⟨#[33,61]⟩)):=by
 have hl:s.data.toList.length=s.size:=by simp
 have key:∀ a b c d:UInt8,decide ((⟨#[a,b]⟩:ByteArray)=⟨#[c,d]⟩)=(a == c && b == d):=λa b c d=>by
  rw [E8];simp
 rw [ext2 s i h,key,key,key,Am (by omega),oa _ _ (by omega),ml]
theorem signs_step (c:UInt8) (i:Nat) (h:i<(⟨#[40,41,44,46,60,61,43,45,42]⟩:ByteArray).size):(signs.drop i).contains c=(decide ((((⟨#[40,41,44,46,60,61,43,45,42]⟩:ByteArray)[i]'h).toNat:Int)=(c.toNat:Int)) || (signs.drop (i+1)).contains c):=by
 have h':i<signs.length:=h;have e:signs[i]=(⟨#[40,41,44,46,60,61,43,45,42]⟩:ByteArray)[i]'h:=oa _ i h;rw [Am h',List.contains_cons,e];congr 1;rw [E8];simp only [beq_iff_eq,decide_eq_true_eq];exact⟨λh=>by rw [h],λh=>(UInt8.toNat_inj.1 (by omega)).symm⟩
theorem tokenAt_fn (s:ByteArray) (at_:Nat) (hat:at_<s.size) (hs:s.size<=5000) :
  Fn 254 [.d (.str s),.d (.int .i64 at_)] (λr=>r = .tup [.d (.int .i64 (ct (s.data.toList.drop at_)).1),.d (.int .i64 ((ct (s.data.toList.drop at_)).2:Nat))]):=by
 refine fqE Tryz.func254 ?_;intro O w0 E0 β0;repeat' (first|refine zs ?_|refine z21 ?_ (hc:=by apply isLetter_fn)|fail)
 have hl0:s.data.toList.length=s.size:=by simp
 have htok:ct (s.data.toList.drop at_)=ct (s[at_]::s.data.toList.drop (at_+1)):=by
  rw [Am (by omega),oa]
 refine d7 rfl (λhl=>?_) (λhl=>?_)
 ·have hres:ct (s.data.toList.drop at_)=(if gv s[at_] then 1 else 2,1+dq eh (s.data.toList.drop (at_+1))):=by
   rw [htok,fb,if_pos hl]
  repeat' (first|refine zs ?_|fail)
  refine ag (ι:=Nat) (λn=>⟨0,[(0,.d (.str s)),(1,.d (.int .i64 at_)),(6,.d (.int .u8 s[at_].toNat)),(7,.d (.int .i64 n))],[]⟩)
   (λn=>1<=n/\at_+n<=s.size/\n+dq eh (s.data.toList.drop (at_+n))=1+dq eh (s.data.toList.drop (at_+1))) (λn=>s.size-n) 1 ⟨by omega,by omega,rfl⟩
   (er id) ?_
  rintro n ⟨h1,h2,h3⟩;have hstep:(h:(at_:Int)+n<s.size)->eh (s[at_+n]'(by omega))=true->n+1+dq eh (s.data.toList.drop (at_+(n+1)))=1+dq eh (s.data.toList.drop (at_+1)):=λh hp=>by
   have h4:=tk eh s.data.toList (at_+n) (by omega) (by rw [oa _ _ (by omega)];exact hp);rw [<- F5 at_ n 1];omega
  have hstop:(h:(at_:Int)+n<s.size)->eh (s[at_+n]'(by omega))=false->1+dq eh (s.data.toList.drop (at_+1))=n:=λh hp=>by
   have h4:=takeW_stop eh s.data.toList (at_+n) (by omega) (by rw [oa _ _ (by omega)];exact hp);omega
  have hend:¬ (at_:Int)+n<s.size->1+dq eh (s.data.toList.drop (at_+1))=n:=λh=>by
   have h4:=takeW_end eh s.data.toList (at_+n) (by omega);omega
  clear htok;repeat' (first|refine zr ?_|refine z21 ?_ (hc:=by apply isLetter_fn)|refine z21 ?_ (hc:=by apply isDigit_fn)|refine z21 ?_ (hc:=by apply isSmall_fn)|(refine zm ?_ ?_<;>intro hg)|fail)
  all_goals first
   | (refine⟨n+1,⟨?_,?_,?_⟩,er id,?_⟩
      ·omega
      ·omega
      ·apply hstep<;>first|assumption|(unfold eh;simp [*])
      ·omega)
   | (refine wy rfl ⟨?_,?_⟩
      ·rw [hres,hg];rfl
      ·rw [hres];refine congrArg (λq:Nat=>D.int .i64 (q:Int)) (Eq.symm ?_);first
        | (apply hend;assumption)
        | (apply hstop<;>first|assumption|(unfold eh;simp [*])))
 ·repeat' (first|refine zs ?_|refine z21 ?_ (hc:=by apply isDigit_fn)|fail)
  refine d7 rfl (λhd=>?_) (λhd=>?_)
  ·have hres:ct (s.data.toList.drop at_)=(3,1+dq da (s.data.toList.drop (at_+1))):=by
    rw [htok,fb,if_neg (by rw [hl];exact C5),if_pos hd]
   repeat' (first|refine zs ?_|fail)
   refine ag (ι:=Nat) (λn=>⟨0,[(0,.d (.str s)),(1,.d (.int .i64 at_)),(6,.d (.int .u8 s[at_].toNat)),(7,.d (.int .i64 n))],[]⟩)
    (λn=>1<=n/\at_+n<=s.size/\n+dq da (s.data.toList.drop (at_+n))=1+dq da (s.data.toList.drop (at_+1))) (λn=>s.size-n) 1 ⟨by omega,by omega,rfl⟩
    (er id) ?_
   rintro n ⟨h1,h2,h3⟩;have hstep:(h:(at_:Int)+n<s.size)->da (s[at_+n]'(by omega))=true->n+1+dq da (s.data.toList.drop (at_+(n+1)))=1+dq da (s.data.toList.drop (at_+1)):=λh hp=>by
    have h4:=tk da s.data.toList (at_+n) (by omega) (by rw [oa _ _ (by omega)];exact hp);rw [<- F5 at_ n 1];omega
   have hstop:(h:(at_:Int)+n<s.size)->da (s[at_+n]'(by omega))=false->1+dq da (s.data.toList.drop (at_+1))=n:=λh hp=>by
    have h4:=takeW_stop da s.data.toList (at_+n) (by omega) (by rw [oa _ _ (by omega)];exact hp);omega
   have hend:¬ (at_:Int)+n<s.size->1+dq da (s.data.toList.drop (at_+1))=n:=λh=>by
    have h4:=takeW_end da s.data.toList (at_+n) (by omega);omega
   clear htok;repeat' (first|refine zr ?_|refine z21 ?_ (hc:=by apply isDigit_fn)|(refine zm ?_ ?_<;>intro hg)|fail)
   all_goals first
    | (refine⟨n+1,⟨?_,?_,?_⟩,er id,?_⟩
       ·omega
       ·omega
       ·apply hstep<;>assumption
       ·omega)
    | (refine wy rfl ⟨?_,?_⟩
       ·rw [hres]
       ·rw [hres];refine congrArg (λq:Nat=>D.int .i64 (q:Int)) (Eq.symm ?_);first
         | (apply hend;assumption)
         | (apply hstop<;>assumption))
  ·have hres:ct (s.data.toList.drop at_)=if ml (s[at_]::s.data.toList.drop (at_+1)) then (4,2) else if signs.contains s[at_] then (4,1) else (0,0):=by
    rw [htok,fb,if_neg (by rw [hl];exact C5),if_neg (by rw [hd];exact C5)]
   repeat' (first|refine zs ?_|fail)
   refine bf rfl (λh2=>?_) (λh2=>?_)
   ·have hp:=pair_ext s at_ (by omega);repeat' (first|refine zr ?_|(refine zm ?_ ?_<;>intro hg)|fail)
    all_goals first
     | (refine wy rfl ⟨?_,?_⟩<;>(rw [hres,hp];simp [*];done))
     | skip
    have hpf:ml (s[at_]::s.data.toList.drop (at_+1))=false:=by rw [hp];simp [*]
    rw [hpf] at hres;refine ag (ι:=Nat) (λi=>⟨0,[(6,.d (.int .u8 s[at_].toNat)),(9,.d (.str ⟨#[40,41,44,46,60,61,43,45,42]⟩)),(10,.d (.int .i64 i))],[]⟩)
     (λi=>i<=9/\signs.contains s[at_]=(signs.drop i).contains s[at_]) (λi=>9-i) 0 ⟨by omega,rfl⟩ (er id) ?_
    rintro i ⟨hi,hc⟩;have hst:=λh=>signs_step s[at_] i h
    have h9:((⟨#[40,41,44,46,60,61,43,45,42]⟩:ByteArray).size:Int)=9:=rfl;repeat' (first|refine zr ?_|(refine zm ?_ ?_<;>intro hg)|fail)
    all_goals first
     | (refine wy rfl ⟨?_,?_⟩
        ·rw [hres,hc,hst (by rw [<- Ew];assumption),decide_eq_true ‹_›];rfl
        ·rw [hres,hc,hst (by rw [<- Ew];assumption),decide_eq_true ‹_›];rfl)
     | (refine⟨i+1,⟨?_,?_⟩,er id,?_⟩
        ·omega
        ·rw [hc,hst (by rw [<- Ew];assumption),decide_eq_false ‹_›];rfl
        ·omega)
     | (have hi9:i=9:=by omega
        subst hi9;refine wy rfl ⟨?_,?_⟩
        ·rw [hres,hc];rfl
        ·rw [hres,hc];rfl)
   ·repeat' (first|refine zs ?_|fail)
    have hpf:ml (s[at_]::s.data.toList.drop (at_+1))=false:=by
     rw [As (by omega)];unfold ml;rfl
    rw [hpf] at hres;refine ag (ι:=Nat) (λi=>⟨0,[(6,.d (.int .u8 s[at_].toNat)),(9,.d (.str ⟨#[40,41,44,46,60,61,43,45,42]⟩)),(10,.d (.int .i64 i))],[]⟩)
     (λi=>i<=9/\signs.contains s[at_]=(signs.drop i).contains s[at_]) (λi=>9-i) 0 ⟨by omega,rfl⟩ (er id) ?_
    rintro i ⟨hi,hc⟩;have hst:=λh=>signs_step s[at_] i h
    have h9:((⟨#[40,41,44,46,60,61,43,45,42]⟩:ByteArray).size:Int)=9:=rfl;repeat' (first|refine zr ?_|(refine zm ?_ ?_<;>intro hg)|fail)
    all_goals first
     | (refine wy rfl ⟨?_,?_⟩
        ·rw [hres,hc,hst (by rw [<- Ew];assumption),decide_eq_true ‹_›];rfl
        ·rw [hres,hc,hst (by rw [<- Ew];assumption),decide_eq_true ‹_›];rfl)
     | (refine⟨i+1,⟨?_,?_⟩,er id,?_⟩
        ·omega
        ·rw [hc,hst (by rw [<- Ew];assumption),decide_eq_false ‹_›];rfl
        ·omega)
     | (have hi9:i=9:=by omega
        subst hi9;refine wy rfl ⟨?_,?_⟩
        ·rw [hres,hc];rfl
        ·rw [hres,hc];rfl)
theorem rn (n a b:Int):Fn 87 [.d (.int .i64 n),.d (.int .i64 a),.d (.int .i64 b)] (λr=>r = .d (.bool (inR n a b))):=ra n a b
theorem isNumber_fn (n:Int):Fn 88 [.d (.int .i64 n)] (λr=>r = .d (.bool (numB n))):=by
 refine fqE Tryz.func88 ?_;intro O w0 E0 β0;repeat' (first|refine zr ?_|refine z21 ?_ (hc:=by apply rn)|fail)
 exact a7 rfl rfl
theorem isId_fn (i:UId):Fn 83 [o8 i] (λr=>r = .d (.bool (idB i))):=by
 refine fqE Tryz.func83 ?_;intro O w0 E0 β0;repeat' (first|refine zr ?_|refine z21 ?_ (hc:=by apply rn)|(refine zm ?_ ?_<;>intro hg)|fail)
 all_goals exact a7 rfl (by unfold idB;simp [*])
theorem all_step {α:Type} {p:α->Bool} {l:List α} {i:Nat} (hi:i<l.length):(l.drop i).all p=(p l[i] && (l.drop (i+1)).all p):=by
 rw [Am hi];rfl
theorem all_end {α:Type} {p:α->Bool} {l:List α} {i:Nat} (hi:l.length<=i):(l.drop i).all p=true:=by
 rw [As hi];rfl
theorem areIds_fn (l:List UId):Fn 84 [.d (.slice 2 (l.map ck))] (λr=>r = .d (.bool (l.all idB))):=by
 refine fqE Tryz.func84 ?_;intro O w0 E0 β0;refine cp (t:=0) rfl λhb=>?_
 repeat' (first|refine zs ?_|fail)
 refine ag (ι:=Nat) (λi=>⟨0,[(0,.d (.slice 2 (l.map ck))),(3,.d (.int .i64 i))],[]⟩)
  (λi=>i<=l.length/\l.all idB=(l.drop i).all idB) (λi=>l.length-i) 0 ⟨Ak _,rfl⟩
  (er id) ?_
 rintro i ⟨h1,h2⟩;repeat' (first|refine zs ?_|fail)
 refine bf rfl (λh=>?_) (λh=>?_)
 ·have hi:i<l.length:=by rw [Aa] at h;omega
  have hd:=all_step (p:=idB) hi;repeat' (first|refine zs ?_|refine z21 ?_ (hc:=by apply isId_fn)|fail)
  refine d7 rfl (λhb=>?_) (λhb=>?_)
  ·repeat' (first|refine zr ?_|fail)
   exact a7 rfl (by rw [h2,hd];simp at hb;rw [hb];rfl)
  ·repeat' (first|refine zs ?_|fail)
   exact⟨i+1,⟨hi,by rw [h2,hd];simp at hb;rw [hb];rfl⟩,er id,by omega⟩
 ·repeat' (first|refine zr ?_|fail)
  exact a7 rfl (by rw [h2,all_end (by rw [Aa] at h;omega)])
theorem idOrder_fn (a b:UId):Fn 144 [o8 a,o8 b] (λr=>r = .d (.int .i64 (bw a b))):=by
 refine fqE Tryz.func144 ?_;intro O w0 E0 β0;repeat' (first|refine zr ?_|(refine zm ?_ ?_<;>intro hg)|fail)
 all_goals
  refine a6 rfl ?_;unfold bw ep;repeat' split
  all_goals first|rfl|(simp_all<;>omega)
theorem idsRise_fn (l:List UId):Fn 85 [.d (.slice 2 (l.map ck))] (λr=>r = .d (.bool (dg bw l))):=by
 refine fqE Tryz.func85 ?_;intro O w0 E0 β0;refine cp (t:=0) rfl λhb=>?_
 repeat' (first|refine zs ?_|fail)
 refine ag (ι:=Nat) (λi=>⟨0,[(0,.d (.slice 2 (l.map ck))),(3,.d (.int .i64 ((i:Int)+1)))],[]⟩)
  (λi=>i<=l.length/\dg bw l=dg bw (l.drop i)) (λi=>l.length-i) 0 ⟨Ak _,rfl⟩
  (er id) ?_
 rintro i ⟨h1,h2⟩;repeat' (first|refine zs ?_|fail)
 refine bf rfl (λh=>?_) (λh=>?_)
 ·have hi:i+1<l.length:=by have:=h;rw [Aa] at this;omega
  have e0:∀ (j:Nat) (hj:j<l.length),j=i->l[j]'hj=l[i]'(by omega):=by rintro j hj rfl;rfl
  repeat' (first|refine zs ?_|refine z22 ?_ (hc:=by apply idOrder_fn)|fail)
  refine bf rfl (λhb=>?_) (λhb=>?_)
  ·repeat' (first|refine zr ?_|fail)
   rw [e0 _ _ (by omega)] at hb;exact a7 rfl (by rw [h2,sk hi (by omega)])
  ·repeat' (first|refine zs ?_|fail)
   rw [e0 _ _ (by omega)] at hb;exact⟨i+1,⟨by omega,by rw [h2,ww hi (by omega)]⟩,er id,by omega⟩
 ·repeat' (first|refine zr ?_|fail)
  exact a7 rfl (by rw [h2,sj (by have:=h;rw [Aa] at this;omega)])
theorem sd {x y:UId} {b:Bool} (h:(decide (x.author=y.author) && (decide (x.number=y.number) && true))=b):UId.same x y=b:=by
 rw [<- h];unfold UId.same;rw [Bool.and_true]
theorem same_not {x y:UId} {b:Bool} (h:(!(decide (x.author=y.author) && (decide (x.number=y.number) && true))) = !b):UId.same x y=b:=by
 have h2:=congrArg (λq=>!q) h;simp only [Bool.not_not] at h2;exact sd h2
theorem fct_not {x y:Fct} {b:Bool} (h:decide (de x y≠0) = !b):Fct.same x y=b:=by
 unfold Fct.same;cases b<;>simpa using h
theorem hasId_fn (l:List UId) (y:UId):Fn 86 [.d (.slice 2 (l.map ck)),o8 y] (λr=>r = .d (.bool (l.any λx=>x.same y))):=by
 refine fqE Tryz.func86 ?_;intro O w0 E0 β0;refine cp (t:=0) rfl λhb=>?_
 repeat' (first|refine zs ?_|fail)
 refine ag (ι:=Nat) (λi=>⟨1,[(0,.d (.slice 2 (l.map ck))),(3,.loc 0 0),(5,.d (.int .i64 i))],[(0,.blk 79 [.d (.int .i64 y.author),.d (.int .i64 y.number)])]⟩)
  (λi=>i<=l.length/\∀ j (hj:j<l.length),j<i->UId.same l[j] y=false) (λi=>l.length-i) 0 ⟨Ak _,λj _ h=>absurd h (Nat.not_lt_zero j)⟩
  (er id) ?_
 rintro i ⟨h1,h2⟩;repeat' (first|refine zs ?_|fail)
 refine bf rfl (λh=>?_) (λh=>?_)
 ·have hi:i<l.length:=by rw [Aa] at h;omega
  repeat' (first|refine zs ?_|fail)
  refine d7 rfl (λhb=>?_) (λhb=>?_)
  ·repeat' (first|refine zr ?_|fail)
   exact a7 rfl (any_hit (p:=λx=>x.same y) hi (sd hb)).symm
  ·repeat' (first|refine zs ?_|fail)
   exact⟨i+1,⟨hi,gz (p:=λx=>x.same y) h2 hi (sd hb)⟩,er id,by omega⟩
 ·repeat' (first|refine zr ?_|fail)
  exact a7 rfl (any_none λj hj=>h2 j hj (by rw [Aa] at h;omega)).symm
theorem ordL_lt {l m:List Int} {i:Nat} (h1:i<l.length) (h2:i<m.length) (h:l[i]<m[i]):du (l.drop i) (m.drop i) = -1:=by
 have e:ep l[i] m[i] = -1:=by unfold ep;rw [if_pos h]
 rw [yr h1 h2,e];rfl
theorem ordL_gt {l m:List Int} {i:Nat} (h1:i<l.length) (h2:i<m.length) (h:m[i]<l[i]):du (l.drop i) (m.drop i)=1:=by
 have e:ep l[i] m[i]=1:=by unfold ep;rw [if_neg (by omega),if_pos h]
 rw [yr h1 h2,e];rfl
theorem ordL_eq {l m:List Int} {i:Nat} (h1:i<l.length) (h2:i<m.length) (h:l[i]=m[i]):du (l.drop i) (m.drop i)=du (l.drop (i+1)) (m.drop (i+1)):=by
 rw [yr h1 h2,h,if_pos (zc _)]
theorem cmpI_eq (a b:Int):(ep a b=0)=(a=b):=by unfold ep;rw [eq_iff_iff];split<;>(try split)<;>simp<;>omega
theorem t8 (a b:Fct):Fn 49 [fi a,fi b] (λr=>r = .d (.int .i64 (de a b))):=by
 refine fqE Tryz.func49 ?_;intro O w0 E0 β0;repeat' (first|refine zs ?_|fail)
 refine bf rfl (λhp=>?_) (λhp=>?_)
 ·repeat' (first|refine zr ?_|(refine zm ?_ ?_<;>intro hg)|fail)
  all_goals exact a6 rfl (by unfold de;rw [if_neg (by rw [cmpI_eq];exact hp)];unfold ep;repeat' split;all_goals first|rfl|omega)
 ·have hF:de a b=du a.args b.args:=by unfold de;rw [if_pos (by rw [cmpI_eq];exact Decidable.not_not.1 hp)]
  repeat' (first|refine zs ?_|fail)
  refine ag (ι:=Nat) (λi=>⟨2,[(2,.loc 0 0),(3,.loc 1 0),(5,.d (.int .i64 i))],[(0,.blk 37 [.d (.int .i64 a.pred),.d (.slice 1 (a.args.map aq))]),(1,.blk 37 [.d (.int .i64 b.pred),.d (.slice 1 (b.args.map aq))])]⟩)
   (λi=>i<=a.args.length/\i<=b.args.length/\de a b=du (a.args.drop i) (b.args.drop i)) (λi=>a.args.length-i) 0 ⟨Ak _,Ak _,hF⟩
   (er id) ?_
  rintro i ⟨h1,h2,h3⟩;refine dw_lenC 0 1 rfl rfl λhb=>?_
  have la:(a.args.map aq).length=a.args.length:=Aa _;have lb:(b.args.map aq).length=b.args.length:=Aa _;repeat' (first|refine zr ?_|(refine zm ?_ ?_<;>intro hg)|fail)
  all_goals first
   | (refine a6 rfl (Eq.trans ?_ h3.symm);refine (ordL_lt ?_ ?_ ?_).symm<;>first|assumption|omega)
   | (refine a6 rfl (Eq.trans ?_ h3.symm);refine (ordL_gt ?_ ?_ ?_).symm<;>first|assumption|omega)
   | (refine a6 rfl (Eq.trans ?_ h3.symm);refine (ordL_less ?_ ?_).symm<;>omega)
   | (refine a6 rfl (Eq.trans ?_ h3.symm);refine (ordL_more ?_ ?_).symm<;>omega)
   | (refine a6 rfl (Eq.trans ?_ h3.symm);refine (ordL_end ?_ ?_).symm<;>omega)
   | (refine⟨i+1,⟨?_,?_,h3.trans (ordL_eq ?_ ?_ ?_)⟩,er id,?_⟩<;>omega)
theorem sameIds_fn (l m:List (UId)):Fn 207 [.d (.slice 2 (l.map ck)),.d (.slice 2 (m.map ck))] (λr=>r = .d (.bool (ea UId.same l m))):=by
 refine fqE Tryz.func207 ?_;intro O w0 E0 β0;refine cp (t:=0) rfl λhb=>?_
 repeat' (first|refine zs ?_|fail)
 refine bf rfl (λh=>?_) (λh=>?_)
 ·have hne:l.length≠m.length:=by rw [Aa,Aa] at h;omega
  repeat' (first|refine zr ?_|fail)
  exact a7 rfl (se _ _ _ hne).symm
 ·have hlen:l.length=m.length:=by rw [Aa,Aa] at h;omega
  repeat' (first|refine zs ?_|fail)
  refine ag (ι:=Nat) (λi=>⟨0,[(0,.d (.slice 2 (l.map ck))),(1,.d (.slice 2 (m.map ck))),(5,.d (.int .i64 i))],[]⟩)
   (λi=>i<=l.length/\ea UId.same l m=ea UId.same (l.drop i) (m.drop i)) (λi=>l.length-i) 0 ⟨Ak _,rfl⟩
   (er id) ?_
  rintro i ⟨h1,h2⟩;repeat' (first|refine zs ?_|fail)
  refine bf rfl (λh=>?_) (λh=>?_)
  ·have hi:i<l.length:=by rw [Aa] at h;omega
   have hm:i<m.length:=by omega
   have hd:=tr UId.same l m i hi hm;repeat' (first|refine zs ?_|fail)
   refine d7 rfl (λhb=>?_) (λhb=>?_)
   ·have hp:UId.same l[i] m[i]=false:=by exact same_not hb
    repeat' (first|refine zr ?_|fail)
    exact a7 rfl (by rw [h2,hd,hp];rfl)
   ·have hp:UId.same l[i] m[i]=true:=by exact same_not hb
    repeat' (first|refine zs ?_|fail)
    exact⟨i+1,⟨hi,by rw [h2,hd,hp];rfl⟩,er id,by omega⟩
  ·repeat' (first|refine zr ?_|fail)
   exact a7 rfl (by rw [h2,yj _ _ _ _ (by rw [Aa] at h;omega) (by rw [Aa] at h;omega)])
theorem jj (l m:List (Fct)):Fn 19 [.d (.slice 2 (l.map ae)),.d (.slice 2 (m.map ae))] (λr=>r = .d (.bool (ea Fct.same l m))):=by
 refine fqE Tryz.func19 ?_;intro O w0 E0 β0;refine cp (t:=0) rfl λhb=>?_
 repeat' (first|refine zs ?_|fail)
 refine bf rfl (λh=>?_) (λh=>?_)
 ·have hne:l.length≠m.length:=by rw [Aa,Aa] at h;omega
  repeat' (first|refine zr ?_|fail)
  exact a7 rfl (se _ _ _ hne).symm
 ·have hlen:l.length=m.length:=by rw [Aa,Aa] at h;omega
  repeat' (first|refine zs ?_|fail)
  refine ag (ι:=Nat) (λi=>⟨0,[(0,.d (.slice 2 (l.map ae))),(1,.d (.slice 2 (m.map ae))),(5,.d (.int .i64 i))],[]⟩)
   (λi=>i<=l.length/\ea Fct.same l m=ea Fct.same (l.drop i) (m.drop i)) (λi=>l.length-i) 0 ⟨Ak _,rfl⟩
   (er id) ?_
  rintro i ⟨h1,h2⟩;repeat' (first|refine zs ?_|fail)
  refine bf rfl (λh=>?_) (λh=>?_)
  ·have hi:i<l.length:=by rw [Aa] at h;omega
   have hm:i<m.length:=by omega
   have hd:=tr Fct.same l m i hi hm;repeat' (first|refine zs ?_|refine z22 ?_ (hc:=by apply t8)|fail)
   refine d7 rfl (λhb=>?_) (λhb=>?_)
   ·have hp:Fct.same l[i] m[i]=false:=by exact fct_not hb
    repeat' (first|refine zr ?_|fail)
    exact a7 rfl (by rw [h2,hd,hp];rfl)
   ·have hp:Fct.same l[i] m[i]=true:=by exact fct_not hb
    repeat' (first|refine zs ?_|fail)
    exact⟨i+1,⟨hi,by rw [h2,hd,hp];rfl⟩,er id,by omega⟩
  ·repeat' (first|refine zr ?_|fail)
   exact a7 rfl (by rw [h2,yj _ _ _ _ (by rw [Aa] at h;omega) (by rw [Aa] at h;omega)])
theorem hasFact_fn (l:List Fct) (f:Fct):Fn 11 [.d (.slice 2 (l.map ae)),fi f] (λr=>r = .d (.bool (hasF l f))):=by
 refine fqE Tryz.func11 ?_;intro O w0 E0 β0;have la:(l.map ae).length=l.length:=Aa _;refine o9 (t:=0) rfl (λhk=>?_);unfold hasF;repeat' (first|refine zs ?_|fail)
 refine ag (ι:=Nat) (λi=>⟨1,[(0,.d (.slice 2 (l.map ae))),(3,.loc 0 0),(4,.d (.bool false)),(5,.d (.int .i64 i))],[(0,.blk 37 [.d (.int .i64 f.pred),.d (.slice 1 (f.args.map aq))])]⟩)
  (λi=>i<=l.length/\(l.any λx=>decide (de x f=0))=((l.drop i).any λx=>decide (de x f=0))) (λi=>l.length-i) 0 ⟨Ak _,rfl⟩ (er id) ?_
 rintro i ⟨g1,g2⟩;by_cases hi:i<l.length
 ·have w:=t8 l[i] f;rw [Am hi,List.any_cons] at g2;generalize de l[i] f=q at w g2;repeat' (first|refine zr ?_|refine z22 ?_ (hc:=by apply w)|(refine zm ?_ ?_<;>intro hg)|fail)
  all_goals first
   | (exfalso;omega)
   | (refine a7 rfl ?_;rw [g2];simp_all;done)
   | exact⟨i+1,⟨by omega,by rw [g2];simp_all⟩,er id,by show l.length-(i+1)<l.length-i;omega⟩
 ·rw [As (by omega)] at g2;repeat' (first|refine zr ?_|(refine zm ?_ ?_<;>intro hg)|fail)
  all_goals first
   | (exfalso;omega)
   | exact a7 rfl g2.symm
theorem sc (l:List Fct) (hl:l.length<=4398046511104):Fn 91 [.d (.slice 2 (l.map ae))] (λr=>r = .d (.slice 2 ((a8 l).map ae))):=by
 refine fqE Tryz.func91 ?_;intro O w0 E0 β0;have la:(l.map ae).length=l.length:=Aa _;repeat' (first|refine zs ?_|fail)
 refine ak (cd (t:=3) 37 2 rfl) ?_;refine ag (ι:=Nat×List Fct) (λx=>⟨1,[(0,.d (.slice 2 (l.map ae))),(3,.row 0),(4,.d (.int .i64 x.1))],[(0,.row 37 2 (x.2.map ae))]⟩)
  (λx=>x.1<=l.length/\x.2=(l.take x.1).foldl uq []) (λx=>l.length-x.1) (0,[]) ⟨Ak _,rfl⟩ (er id) ?_
 rintro⟨i,o⟩ ⟨g1,g2⟩;dsimp only at g1 g2 ⊢;have lo:(o.map ae).length=o.length:=Aa _;have hol:o.length<=i:=by
  have:=v8 (l.take i) []
  rw [<- g2] at this;simp at this;omega
 by_cases hi:i<l.length
 ·have hstep:=setF_take (l:=l) hi;rw [<- g2] at hstep;repeat' (first|refine zr ?_|(refine zm ?_ ?_<;>intro hg)|(exfalso;omega))
  refine ds_callS 0 (hasFact_fn o l[i]) rfl rfl (by rintro _ rfl;rfl) rfl rfl rfl rfl ?_;rintro _ rfl;cases hh:hasF o l[i] with
  | true =>
   have hins:uq o l[i]=o:=by unfold uq;rw [if_pos hh]
   repeat' (first|refine zs ?_|fail)
   exact⟨(i+1,o),⟨by dsimp only;omega,by dsimp only;rw [hstep,hins]⟩,er id,by show l.length-(i+1)<l.length-i;omega⟩
  | false =>
   have hins:uq o l[i]=o.take (qt o l[i] o.length)++l[i]::o.drop (qt o l[i] o.length):=by unfold uq;rw [hh];rfl
   rw [hins] at hstep;repeat' (first|refine zs ?_|fail)
   have hin:o.map ae++[[D.int .i64 l[i].pred,D.slice 1 (l[i].args.map aq)]]=(o.take o.length++l[i]::o.drop o.length).map ae:=by
    rw [Ai (Ah _),As (Ah _),List.map_append];rfl
   rw [hin];refine ag (ι:=Nat×List Fct) (λx=>⟨2,[(0,.d (.slice 2 (l.map ae))),(3,.row 1),(4,.d (.int .i64 i)),(5,.d (.int .i64 x.1))],[(1,.row 37 2 (x.2.map ae))]⟩)
    (λx=>x.1<=o.length/\qt o l[i] o.length=qt o l[i] x.1/\∃ y,x.2=o.take x.1++y::o.drop x.1) (λx=>x.1) (o.length,o.take o.length++l[i]::o.drop o.length) ⟨Ah _,rfl,_,rfl⟩
    (by rw [lo];exact er id) ?_
   rintro⟨k,o'⟩ ⟨e1,e2,y,e3⟩;dsimp only at e1 e2 e3 ⊢;have lo':(o'.map ae).length=o'.length:=Aa _;have ho':o'.length=o.length+1:=by rw [e3];simp;omega
   cases k with
   | zero =>
    repeat' (first|refine z0 ?_|apply gy|(apply kh;exact rfl;exact rfl;(apply iq;(omega));exact rfl;exact rfl;(exact kb rfl);exact rfl;exact rfl;exact rfl;exact rfl;exact rfl;exact rfl)|refine zs ?_|(exfalso;omega))
    refine⟨(i+1,o'.set 0 l[i]),⟨by dsimp only;omega,?_⟩,er (λ_=>1),by show l.length-(i+1)<l.length-i;omega⟩
    dsimp only;rw [hstep,e2,e3,shift_end e1];rfl
   | succ k =>
    have hk:o'[k]'(by omega)=o[k]'(by omega):=by
     have:=shift_get (l:=o) (y:=y) (k:=k) (by omega)
     rw [<- e3,Ad (by omega)] at this;injection this
    have w:=t8 (o'[k]'(by omega)) l[i];rw [kFrom_succ (by omega),<- hk] at e2;repeat' (first|refine z0 ?_|apply gy|(apply kh;exact rfl;exact rfl;(apply iq;(omega));exact rfl;exact rfl;(exact kb rfl);exact rfl;exact rfl;exact rfl;exact rfl;exact rfl;exact rfl)|refine zs ?_|refine z22 ?_ (hc:=by apply w)|(refine zm ?_ ?_<;>intro hg)|(exfalso;omega))
    ·rw [if_pos (by assumption)] at e2;simp only [b8];refine⟨(k,o'.set (k+1) (o'[k]'(by omega))),⟨by dsimp only;omega,e2,o'[k]'(by omega),?_⟩,er id,by show k<k+1;omega⟩
     have h5:=shift_step (l:=o) (y:=y) (k:=k) (by omega);rw [<- e3] at h5;dsimp only;rw [hk];exact h5
    ·rw [if_neg (by assumption)] at e2;refine⟨(i+1,o'.set (k+1) l[i]),⟨by dsimp only;omega,?_⟩,er (λ_=>1),by show l.length-(i+1)<l.length-i;omega⟩
     dsimp only;rw [hstep,e2,e3,shift_end e1]
 ·repeat' (first|refine zs ?_|(refine zm ?_ ?_<;>intro hg)|(exfalso;omega))
  refine ak (bh 2 rfl rfl rfl) ?_;repeat' (apply c9)
  have:o=a8 l:=by rw [g2,Ai (by omega)];rfl
  rw [<- this];exact⟨.inl rfl,_,rfl,rfl,rfl⟩
def cu (b:Bool):List D:=[.bool b]
def oq (s:ByteArray):List D:=[.str s]
def av (t:Trm):List D:=[.int .i64 t.var,.int .i64 t.n]
def ay (l:Ltl):List D:=[.int .i64 l.kind,.int .i64 l.op,.int .i64 l.pred,.slice 2 (l.terms.map av)]
def dj (r:Rul):List D:=[.int .i64 r.pred,.slice 2 (r.terms.map av),.int .i64 r.fold,.slice 4 (r.body.map ay),.int .i64 r.vars]
abbrev elTrm (t:Trm):SV:=.agg [.d (.int .i64 t.var),.d (.int .i64 t.n)]
abbrev elLtl (l:Ltl):SV:=.agg [.d (.int .i64 l.kind),.d (.int .i64 l.op),.d (.int .i64 l.pred),.d (.slice 2 (l.terms.map av))]
abbrev vf (r:Rul):SV:=.agg [.d (.int .i64 r.pred),.d (.slice 2 (r.terms.map av)),.d (.int .i64 r.fold),.d (.slice 4 (r.body.map ay)),.d (.int .i64 r.vars)]
abbrev gu (p:Prg):SV:=.agg [.d (.slice 1 (p.arity.map aq)),.d (.slice 1 (p.names.map oq)),.d (.slice 5 (p.rules.map dj))]
theorem fc (n a b:Int):Fn 125 [.d (.int .i64 n),.d (.int .i64 a),.d (.int .i64 b)] (λr=>r = .d (.bool (inR n a b))):=by
 refine fqE Tryz.func125 ?_;intro O w0 E0 β0;unfold inR;repeat' (first|refine zr ?_|(refine zm ?_ ?_<;>intro hg)|fail)
 all_goals exact a7 rfl (by simp_all<;>omega)
theorem qg (n:Int):Fn 128 [.d (.int .i64 n)] (λr=>r = .d (.bool (numB n))):=by
 refine fqE Tryz.func128 ?_;intro O w0 E0 β0;unfold numB;repeat' (first|refine zr ?_|refine z21 ?_ (hc:=by apply fc)|fail)
 exact a7 rfl rfl
theorem op_fn (kind n:Int):Fn 259 [.d (.int .i64 kind),.d (.int .i64 n)] (λr=>r = .d (.bool (opB kind n))):=by
 refine fqE Tryz.func259 ?_;intro O w0 E0 β0;unfold opB;repeat' (first|refine zr ?_|refine z21 ?_ (hc:=by apply fc)|(refine zm ?_ ?_<;>intro hg)|fail)
 all_goals exact a7 rfl (by simp_all<;>omega)
theorem terms_fn (l:List Trm) (vars:Int) (h0:0<=vars) (h8:vars<=8):Fn 213 [.d (.slice 2 (l.map av)),.d (.int .i64 vars)] (λr=>r = .d (.int .i64 (nr vars l))):=by
 refine fqE Tryz.func213 ?_;intro O w0 E0 β0;have la:(l.map av).length=l.length:=Aa _;unfold nr;repeat' (first|refine zs ?_|fail)
 refine o9 (t:=7) rfl (λhk=>?_);refine ag (ι:=Nat) (λi=>⟨0,[(1,.d (.int .i64 vars)),(4,.d (.int .i64 0)),(7,.d (.slice 2 (l.map av))),(8,.d (.int .i64 (l.map av).length)),(9,.d (.int .i64 i))],[]⟩)
  (λi=>i<=l.length/\bm (vb vars) l=bm (vb vars) (l.drop i)) (λi=>l.length-i) 0 ⟨Ak _,rfl⟩ (er id) ?_
 rintro i ⟨g1,g2⟩;by_cases hi:i<l.length
 ·rw [ga hi,show vb vars l[i]=if inR l[i].var (-1) (vars-1)=false then 5 else if numB l[i].n=false∨(0<=l[i].var/\l[i].n≠0) then 3 else 0 from rfl] at g2;repeat' (first|refine zr ?_|refine z21 ?_ (hc:=by apply fc)|refine z21 ?_ (hc:=by apply qg)|(refine zm ?_ ?_<;>intro hg)|fail)
  all_goals first
   | exact absurd hg (by omega)
   | exact a6 rfl (by rw [g2];simp_all<;>omega)
   | exact⟨i+1,⟨by omega,by rw [g2];simp_all<;>omega⟩,er id,by show l.length-(i+1)<l.length-i;omega⟩
 ·rw [ir (by omega)] at g2;repeat' (first|refine zr ?_|refine z21 ?_ (hc:=by apply fc)|refine z21 ?_ (hc:=by apply qg)|(refine zm ?_ ?_<;>intro hg)|fail)
  all_goals first
   | exact absurd hg (by omega)
   | exact a6 rfl g2.symm
end Go.Proofs.YtapciiffpnociadGreat
namespace Go.Proofs.YtapciiffpnociadGreat
open Go Go.RowKit
section
variable {Γ : Ctx} {k : Nat} {L : Sl} {H : Hp} {K : cy} {ops : List Oper} {rest : List Oper} {t t' ty : TypeId} {x y : Operand}
theorem x5 {d te:TypeId} {pos:String} {af:Array Edge} {g:Option (Nat×Bool)} {es:Nat} (ht:(aj Γ.τ t).sh = .slice te) (hkn:(aj Γ.τ te).sh.known=true) (hes:(aj Γ.τ te).cells=es) (hpos:Av 0 es=true) (hz:gk (aj Γ.τ te).zero=true) (hzl:Aw (aj Γ.τ te).zero.length (aj Γ.τ te).cells=true) (hd:Av d Γ.n=true) (hw:au ops L g=some true)
  (hk:DS false Γ ops rest K (k+1) ((d,.row k)::L) ((k,.row te es [])::H)):DS false Γ ops (⟨some d,.buildSlice t 0 #[],ty,pos,af,g⟩::rest) K k L H :=
 z6 hw ((op_bs0 (gn k) ht hkn hes hpos hz hzl hd).cast (ff k)) hk
theorem ds_eqnil {d te:TypeId} {pos:String} {af:Array Edge} {g:Option (Nat×Bool)} {es:Nat} {xs:List (List D)} (hx:ap L x = .d (.slice es xs)) (hy:ap L y = .nils) (ht:(aj Γ.τ t).sh = .slice te) (hd:Av d Γ.n=true) (hw:au ops L g=some true)
  (h1:xs=[]->DS false Γ ops rest K k ((d,.d (.bool true))::L) H) (h2:DS false Γ ops rest K k ((d,.d (.bool false))::L) H):DS false Γ ops (⟨some d,.binOp .eql t x y t',ty,pos,af,g⟩::rest) K k L H:=by
 refine gp hw λe a w m=>?_
 obtain⟨ao,cap,hv,_,_,hnone⟩:=(evT m hx (mu · _ _)).slice_inv;have hvy:a.eval y = .slice none 0 0:=by
  have hok:opOk y:=by
   cases y with
   | const v=>simp only [ap] at hy;unfold cSV at hy;split at hy<;>simp_all [opOk,cOk]
   | _=>trivial
  have:=m.op y hok
  rw [hy] at this;exact this
 have hrun:(execOp a.eval ⟨some d,.binOp .eql t x y t',ty,pos,af,g⟩).run Γ.P w = .ok (.value (.bool ao.isNone)) w:=by
  simp [execOp,hv,hvy,eqGuard,Lib.run_eql_slice_nil w t te ao xs.length cap 0 0 (Ctx.slice ht)]
 unfold Oper.wp;rw [hrun];cases ao with
 | none=>exact⟨k,_,H,e,m.put (s:=.d (.bool true)) (v:=.bool true) (Ab hd) .bool,h1 (hnone rfl)⟩
 | some ad=>exact⟨k,_,H,e,m.put (s:=.d (.bool false)) (v:=.bool false) (Ab hd) .bool,h2⟩
end
attribute [local irreducible] DW DS DL DQ Ev FnOk FnP ef bt DT
theorem cloneI_fn (l:List (Int)) (hl:l.length<=17592186044416):Fn 67 [.d (.slice 1 (l.map aq))] (λr=>r = .d (.slice 1 (l.map aq))):=by
 refine fqE Tryz.func67 ?_;intro O w0 E0 β0;have la:(l.map aq).length=l.length:=Aa _;repeat' (first|refine zs ?_|fail)
 refine ds_eqnil rfl rfl rfl rfl rfl (λh=>?_) ?_
 ·have h0:l=[]:=List.map_eq_nil_iff.1 h;subst h0;repeat' (first|refine zs ?_|fail)
  refine ak (cr 2 1 rfl) ?_;repeat' (first|refine zr ?_|fail)
  exact⟨.inl rfl,_,rfl,rfl,rfl⟩
 ·repeat' (first|(apply x5;exact rfl;exact rfl;exact rfl;exact rfl;exact rfl;exact rfl;exact rfl;exact rfl)|(first|refine zs ?_|fail))
  refine ak (bh 2 rfl rfl rfl) ?_;repeat' (apply c9)
  exact⟨.inl rfl,_,rfl,rfl,rfl⟩
theorem rsame_fn (a b:Fct):Fn 108 [fi a,fi b] (λr=>r = .d (.bool (decide (de a b=0)))):=by
 refine fqE Tryz.func108 ?_;intro O w0 E0 β0;have w:=yq a b;repeat' (first|refine zr ?_|refine z21 ?_ (hc:=by apply w)|fail)
 exact a7 rfl rfl
theorem setAny_fn (a:Fct):Fn 74 [fi a] (λr=>r = .d (.bool true)):=by
 refine fqE Tryz.func74 ?_;intro O w0 E0 β0;repeat' (first|refine zr ?_|fail)
 exact a7 rfl rfl
theorem own_fn (a:Fct) (h:a.args.length<=17592186044416):Fn 130 [fi a] (λr=>r=fi a):=by
 refine fqE Tryz.func130 ?_;intro O w0 E0 β0;have w:=cloneI_fn a.args h;repeat' (first|refine zr ?_|refine z22 ?_ (hc:=by apply w)|fail)
 exact⟨.inl rfl,_,rfl,rfl,rfl⟩
end Go.Proofs.YtapciiffpnociadGreat
namespace Go.Proofs
open Go.Shelf
def Tryz.sortFacts_ren:Go.Shelf.Ren:=⟨fun|6=>133|15=>171|14=>176|28=>231|29=>232|20=>233|21=>234|22=>235|23=>236|24=>237|25=>238|26=>239|27=>240|46=>270|47=>266|48=>267|49=>271|50=>272|57=>283|n=>n,fun|22=>27|24=>37|25=>103|3=>3|39=>223|0=>0|53=>267|55=>269|4=>4|46=>261|45=>260|50=>178|5=>5|9=>9|66=>295|70=>299|76=>310|77=>285|n=>n,fun|n=>n⟩
theorem Tryz.sortFacts:Go.Proofs.SlLaysF0.n6 Tryz.prog Tryz.sortFacts_ren:={
 mixed:=by kernel_rfl
 f6:=⟨Tryz.f133.name,by decide,Tryz.func133.trans (congrArg some (by kernel_rfl))⟩
 f14:=⟨Tryz.f176.name,by decide,Tryz.func176.trans (congrArg some (by kernel_rfl))⟩
 f15:=Tryz.func171.trans (congrArg some (by kernel_rfl))
 f20:=⟨Tryz.f233.name,by decide,Tryz.func233.trans (congrArg some (by kernel_rfl))⟩
 f21:=⟨Tryz.f234.name,by decide,Tryz.func234.trans (congrArg some (by kernel_rfl))⟩
 f22:=⟨Tryz.f235.name,by decide,Tryz.func235.trans (congrArg some (by kernel_rfl))⟩
 f23:=⟨Tryz.f236.name,by decide,Tryz.func236.trans (congrArg some (by kernel_rfl))⟩
 f24:=⟨Tryz.f237.name,by decide,Tryz.func237.trans (congrArg some (by kernel_rfl))⟩
 f25:=⟨Tryz.f238.name,by decide,Tryz.func238.trans (congrArg some (by kernel_rfl))⟩
 f26:=⟨Tryz.f239.name,by decide,Tryz.func239.trans (congrArg some (by kernel_rfl))⟩
 f27:=⟨Tryz.f240.name,by decide,Tryz.func240.trans (congrArg some (by kernel_rfl))⟩
 f28:=Tryz.func231.trans (congrArg some (by kernel_rfl))
 f29:=Tryz.func232.trans (congrArg some (by kernel_rfl))
 f46:=⟨Tryz.f270.name,by decide,Tryz.func270.trans (congrArg some (by kernel_rfl))⟩
 f47:=Tryz.func266.trans (congrArg some (by kernel_rfl))
 f48:=Tryz.func267.trans (congrArg some (by kernel_rfl))
 f49:=⟨Tryz.f271.name,by decide,Tryz.func271.trans (congrArg some (by kernel_rfl))⟩
 f50:=⟨Tryz.f272.name,by decide,Tryz.func272.trans (congrArg some (by kernel_rfl))⟩
 f57:=⟨Tryz.f283.name,by decide,Tryz.func283.trans (congrArg some (by kernel_rfl))⟩
 t0:=Tryz.underlying0
 a0:=Tryz.isAgg0
 z0:=Tryz.sizeOf0
 v0:=Tryz.zeroValue0
 t3:=Tryz.underlying3
 a3:=Tryz.isAgg3
 z3:=Tryz.sizeOf3
 v3:=Tryz.zeroValue3
 t4:=Tryz.underlying4
 a4:=Tryz.isAgg4
 z4:=Tryz.sizeOf4
 v4:=Tryz.zeroValue4
 t5:=Tryz.underlying5
 a5:=Tryz.isAgg5
 z5:=Tryz.sizeOf5
 v5:=Tryz.zeroValue5
 t9:=Tryz.underlying9
 a9:=Tryz.isAgg9
 z9:=Tryz.sizeOf9
 v9:=Tryz.zeroValue9
 t22:=Tryz.underlying27
 a22:=Tryz.isAgg27
 z22:=Tryz.sizeOf27
 v22:=Tryz.zeroValue27
 t25:=Tryz.underlying103
 a25:=Tryz.isAgg103
 z25:=Tryz.sizeOf103
 v25:=Tryz.zeroValue103
 t39:=Tryz.underlying223
 a39:=Tryz.isAgg223
 z39:=Tryz.sizeOf223
 v39:=Tryz.zeroValue223
 t45:=Tryz.underlying260
 a45:=Tryz.isAgg260
 z45:=Tryz.sizeOf260
 v45:=Tryz.zeroValue260
 t46:=Tryz.underlying261
 a46:=Tryz.isAgg261
 z46:=Tryz.sizeOf261
 v46:=Tryz.zeroValue261
 t50:=Tryz.underlying178
 a50:=Tryz.isAgg178
 z50:=Tryz.sizeOf178
 v50:=Tryz.zeroValue178
 t53:=Tryz.underlying267
 a53:=Tryz.isAgg267
 z53:=Tryz.sizeOf267
 v53:=Tryz.zeroValue267
 t55:=Tryz.underlying269
 a55:=Tryz.isAgg269
 z55:=Tryz.sizeOf269
 v55:=Tryz.zeroValue269
 t66:=Tryz.underlying295
 a66:=Tryz.isAgg295
 z66:=Tryz.sizeOf295
 v66:=Tryz.zeroValue295
 t70:=Tryz.underlying299
 a70:=Tryz.isAgg299
 z70:=Tryz.sizeOf299
 v70:=Tryz.zeroValue299
 t76:=Tryz.underlying310
 a76:=Tryz.isAgg310
 z76:=Tryz.sizeOf310
 v76:=Tryz.zeroValue310
 t77:=Tryz.underlying285
 a77:=Tryz.isAgg285
 z77:=Tryz.sizeOf285
 v77:=Tryz.zeroValue285 }
def Tryz.sortWays_ren:Go.Shelf.Ren:=⟨fun|6=>117|15=>171|14=>170|28=>231|29=>232|20=>223|21=>224|22=>225|23=>226|24=>227|25=>228|26=>229|27=>230|46=>265|47=>266|48=>267|49=>268|50=>269|57=>282|n=>n,fun|22=>44|24=>22|25=>162|3=>3|39=>223|0=>0|53=>267|55=>269|4=>4|46=>261|45=>260|50=>178|5=>5|9=>9|66=>295|70=>299|76=>310|77=>285|n=>n,fun|n=>n⟩
theorem Tryz.sortWays:Go.Proofs.SlLaysF.n6 Tryz.prog Tryz.sortWays_ren:={
 mixed:=by kernel_rfl
 f6:=⟨Tryz.f117.name,by decide,Tryz.func117.trans (congrArg some (by kernel_rfl))⟩
 f14:=⟨Tryz.f170.name,by decide,Tryz.func170.trans (congrArg some (by kernel_rfl))⟩
 f15:=Tryz.func171.trans (congrArg some (by kernel_rfl))
 f20:=⟨Tryz.f223.name,by decide,Tryz.func223.trans (congrArg some (by kernel_rfl))⟩
 f21:=⟨Tryz.f224.name,by decide,Tryz.func224.trans (congrArg some (by kernel_rfl))⟩
 f22:=⟨Tryz.f225.name,by decide,Tryz.func225.trans (congrArg some (by kernel_rfl))⟩
 f23:=⟨Tryz.f226.name,by decide,Tryz.func226.trans (congrArg some (by kernel_rfl))⟩
 f24:=⟨Tryz.f227.name,by decide,Tryz.func227.trans (congrArg some (by kernel_rfl))⟩
 f25:=⟨Tryz.f228.name,by decide,Tryz.func228.trans (congrArg some (by kernel_rfl))⟩
 f26:=⟨Tryz.f229.name,by decide,Tryz.func229.trans (congrArg some (by kernel_rfl))⟩
 f27:=⟨Tryz.f230.name,by decide,Tryz.func230.trans (congrArg some (by kernel_rfl))⟩
 f28:=Tryz.func231.trans (congrArg some (by kernel_rfl))
 f29:=Tryz.func232.trans (congrArg some (by kernel_rfl))
 f46:=⟨Tryz.f265.name,by decide,Tryz.func265.trans (congrArg some (by kernel_rfl))⟩
 f47:=Tryz.func266.trans (congrArg some (by kernel_rfl))
 f48:=Tryz.func267.trans (congrArg some (by kernel_rfl))
 f49:=⟨Tryz.f268.name,by decide,Tryz.func268.trans (congrArg some (by kernel_rfl))⟩
 f50:=⟨Tryz.f269.name,by decide,Tryz.func269.trans (congrArg some (by kernel_rfl))⟩
 f57:=⟨Tryz.f282.name,by decide,Tryz.func282.trans (congrArg some (by kernel_rfl))⟩
 t0:=Tryz.underlying0
 a0:=Tryz.isAgg0
 z0:=Tryz.sizeOf0
 v0:=Tryz.zeroValue0
 t3:=Tryz.underlying3
 a3:=Tryz.isAgg3
 z3:=Tryz.sizeOf3
 v3:=Tryz.zeroValue3
 t4:=Tryz.underlying4
 a4:=Tryz.isAgg4
 z4:=Tryz.sizeOf4
 v4:=Tryz.zeroValue4
 t5:=Tryz.underlying5
 a5:=Tryz.isAgg5
 z5:=Tryz.sizeOf5
 v5:=Tryz.zeroValue5
 t9:=Tryz.underlying9
 a9:=Tryz.isAgg9
 z9:=Tryz.sizeOf9
 v9:=Tryz.zeroValue9
 t22:=Tryz.underlying44
 a22:=Tryz.isAgg44
 z22:=Tryz.sizeOf44
 v22:=Tryz.zeroValue44
 a24:=Tryz.isAgg22
 z24:=Tryz.sizeOf22
 t25:=Tryz.underlying162
 a25:=Tryz.isAgg162
 z25:=Tryz.sizeOf162
 v25:=Tryz.zeroValue162
 t39:=Tryz.underlying223
 a39:=Tryz.isAgg223
 z39:=Tryz.sizeOf223
 v39:=Tryz.zeroValue223
 t45:=Tryz.underlying260
 a45:=Tryz.isAgg260
 z45:=Tryz.sizeOf260
 v45:=Tryz.zeroValue260
 t46:=Tryz.underlying261
 a46:=Tryz.isAgg261
 z46:=Tryz.sizeOf261
 v46:=Tryz.zeroValue261
 t50:=Tryz.underlying178
 a50:=Tryz.isAgg178
 z50:=Tryz.sizeOf178
 v50:=Tryz.zeroValue178
 t53:=Tryz.underlying267
 a53:=Tryz.isAgg267
 z53:=Tryz.sizeOf267
 v53:=Tryz.zeroValue267
 t55:=Tryz.underlying269
 a55:=Tryz.isAgg269
 z55:=Tryz.sizeOf269
 v55:=Tryz.zeroValue269
 t66:=Tryz.underlying295
 a66:=Tryz.isAgg295
 z66:=Tryz.sizeOf295
 v66:=Tryz.zeroValue295
 t70:=Tryz.underlying299
 a70:=Tryz.isAgg299
 z70:=Tryz.sizeOf299
 v70:=Tryz.zeroValue299
 t76:=Tryz.underlying310
 a76:=Tryz.isAgg310
 z76:=Tryz.sizeOf310
 v76:=Tryz.zeroValue310
 t77:=Tryz.underlying285
 a77:=Tryz.isAgg285
 z77:=Tryz.sizeOf285
 v77:=Tryz.zeroValue285 }
end Go.Proofs
namespace Go.Proofs.YtapciiffpnociadGreat
open Go Go.RowKit
inductive RT where
 | bool
 | int (k:IntKind)
 | str
 | slice (cells bytes:Nat) (e:RT)
 | struct (fs:List RT)
mutual
def RT.size:RT->Nat
 | .struct fs=>RT.sizeL fs
 | .bool=>1
 | .int _=>1
 | .str=>1
 | .slice _ _ _=>1
def RT.sizeL:List RT->Nat
 | []=>0
 | r::rs=>r.size+RT.sizeL rs
end
mutual
def rtB (P:Program):RT->TypeId->Bool
 | .bool,t=>match P.underlying t with|some .bool=>true|_=>false
 | .int k,t=>match P.underlying t with|some (.int k')=>sameK k k'|_=>false
 | .str,t=>match P.underlying t with|some .string=>true|_=>false
 | .slice c b e,t=>match P.underlying t with
  | some (.slice te)=>Aw (P.cellsOf te) c && (Aw (P.bytesOf te) b && (Av 0 c && (Aw e.size c && rtB P e te)))
  | _=>false
 | .struct fs,t=>match P.underlying t with
  | some (.struct fl)=>rtL P fs fl.toList 0 && Aw (P.cellsOf t) (RT.sizeL fs)
  | _=>false
def rtL (P:Program):List RT->List Field->Nat->Bool
 | [],[],_=>true
 | r::rs,f::fl,o=>Aw f.offset o && (Aw (P.cellsOf f.type) r.size && (rtB P r f.type && rtL P rs fl (o+r.size)))
 | _,_,_=>false
end
mutual
def TyDR (R:Nat):RT->List D->Prop
 | .bool,xs=>∃ b,xs=[.bool b]
 | .int k,xs=>∃ n,(Lit.int k n).wf=true/\xs=[.int k n]
 | .str,xs=>∃ s:ByteArray,s.size<=R/\xs=[.str s]
 | .slice c b e,xs=>∃ l:List (List D),l.length*b<=R/\l.length<=maxLen/\xs=[.slice c l]/\∀ x∈l,TyDR R e x
 | .struct fs,xs=>TyFR R fs xs
def TyFR (R:Nat):List RT->List D->Prop
 | [],xs=>xs=[]
 | r::rs,xs=>∃ a b,xs=a++b/\TyDR R r a/\TyFR R rs b
end
abbrev TyD:=TyDR reachBytes
section
variable {H : Type} {enc : TypeId×Value -> H} {P : Program} {w : World} {R : Nat}
theorem cells?_spec {base:Nat} {a:Addr} {n:Nat} {vs:List Value} (h:w.cells? base a n=some vs):vs.length=n/\∀ j,j<n->∃ v,vs[j]?=some v/\w.cell? (a.add j)=some v:=by
 unfold World.cells? at h;split at h
 ·have key:∀ (l:List Nat) (vs:List Value),(l.mapM λi=>w.cell? (a.add i))=some vs->vs.length=l.length/\∀ (j i:Nat),l[j]?=some i->∃ v,vs[j]?=some v/\w.cell? (a.add i)=some v:=by
   intro l;induction l with
   | nil=>intro vs h;simp at h;subst h;exact⟨rfl,λj i hj=>by simp at hj⟩
   | cons x l ih =>
    intro vs h;rw [List.mapM_cons] at h;cases hx:w.cell? (a.add x) with
    | none=>simp [hx] at h
    | some v =>
     cases hl:(l.mapM λi=>w.cell? (a.add i)) with
     | none=>simp [hx,hl] at h
     | some us =>
      simp [hx,hl] at h;subst h;obtain⟨h1,h2⟩:=ih us hl;refine⟨by simp [h1],λj i hj=>?_⟩
      cases j with
      | zero=>simp at hj;subst hj;exact⟨v,rfl,hx⟩
      | succ j=>simpa using h2 j i (by simpa using hj)
  obtain⟨h1,h2⟩:=key _ _ h;exact⟨by simpa using h1,λj hj=>h2 j j (by simp [hj])⟩
 ·cases h
theorem cell?_addr {a:Addr} {v:Value} (h:w.cell? a=some v):a.spot=none/\a.block<w.heap.size:=by
 unfold World.cell? at h;split at h
 ·rename_i hb;split at h
  ·cases h
  ·rename_i hs;exact⟨by simpa using hs,(Array.getElem?_eq_some_iff.1 hb).1⟩
 ·cases h
theorem addr_00 (a:Addr):(a.add 0).add 0=a:=by simp [Go.Addr.add]
def RepL (w:World) (cs:List Value) (xs:List D):Prop:=cs.length=xs.length/\∀ (j:Nat) (u:Value),cs[j]?=some u->∃ x,xs[j]?=some x/\RepC (λ_=>False) w u x
theorem RepL.append {cs cs':List Value} {xs xs':List D} (h:RepL w cs xs) (h':RepL w cs' xs'):RepL w (cs++cs') (xs++xs'):=by
 obtain⟨h1,h2⟩:=h;obtain⟨g1,g2⟩:=h';refine⟨by simp [h1,g1],λj u hj=>?_⟩
 by_cases hlt:j<cs.length
 ·rw [Bm hlt] at hj;obtain⟨x,e1,e2⟩:=h2 j u hj;exact⟨x,by rw [Bm (by omega)];exact e1,e2⟩
 ·rw [A4 (by omega)] at hj;obtain⟨x,e1,e2⟩:=g2 _ u hj;exact⟨x,by rw [A4 (by omega),<- h1];exact e1,e2⟩
theorem vn {e:TypeId}:∀ {l:List (DataW H)} {d:DataW H},d∈l->∀ n∈d.weights P e,n∈DataW.weightsAll P e l
 | [],_,h,_,_=>by simp at h
 | x::l,d,h,n,hn=>by
  simp only [DataW.weightsAll,Cj]
  rcases List.mem_cons.1 h with rfl|h
  ·exact .inl hn
  ·exact .inr (vn h n hn)
mutual
theorem open_rt:∀ (r:RT) (t:TypeId) (fuel:Nat) (cs:List Value) (x:DataW H×List MemPlace),rtB P r t=true->DataW.trod enc P w 0 (λ_=>true) true fuel t cs=some x->(∀ n∈x.1.weights P t,n<=R) ->
  ∃ xs,TyDR R r xs/\RepL w cs xs
 | .bool,t,fuel,cs,x,hb,h,_=>by
  have ht:P.underlying t=some .bool:=by
   unfold rtB at hb;split at hb<;>first|assumption|cases hb
  obtain⟨b,rfl,rfl⟩:=DataW.trod_bool ht h;refine⟨[.bool b],⟨b,rfl⟩,rfl,λj u hj=>?_⟩
  cases j with
  | zero=>simp at hj;subst hj;exact⟨_,rfl,.bool⟩
  | succ j=>simp at hj
 | .int k,t,fuel,cs,x,hb,h,_=>by
  have ht:P.underlying t=some (.int k):=by
   unfold rtB at hb;split at hb
   ·rename_i k' hk;rw [hk,qk hb]
   ·cases hb
  obtain⟨n,rfl,rfl,hw⟩:=DataW.trod_int ht h;refine⟨[.int k n],⟨n,hw,rfl⟩,rfl,λj u hj=>?_⟩
  cases j with
  | zero=>simp at hj;subst hj;exact⟨_,rfl,.int hw⟩
  | succ j=>simp at hj
 | .str,t,fuel,cs,x,hb,h,hw=>by
  have ht:P.underlying t=some .string:=by
   unfold rtB at hb;split at hb<;>first|assumption|cases hb
  obtain⟨s,rfl,rfl,hs⟩:=DataW.trod_string ht h;have hr:s.size<=R:=by
   have:=hw s.data.toList.length (by simp [DataW.weights])
   simpa using this
  refine⟨[.str s],⟨s,hr,rfl⟩,rfl,λj u hj=>?_⟩
  cases j with
  | zero=>simp at hj;subst hj;exact⟨_,rfl,.str hs⟩
  | succ j=>simp at hj
 | .slice c b e,t,fuel,cs,x,hb,h,hw=>by
  obtain⟨te,ht,hc,hby,hpos,hes,hre⟩:∃ te,P.underlying t=some (.slice te)/\P.cellsOf te=c/\P.bytesOf te=b/\0<c/\e.size=c/\rtB P e te=true:=by
   unfold rtB at hb;split at hb
   ·rename_i te ht;simp only [Ae] at hb;exact⟨te,ht,Ao hb.1,Ao hb.2.1,Ab hb.2.2.1,Ao hb.2.2.2.1,hb.2.2.2.2⟩
   ·cases hb
  rcases DataW.trod_slice ht h with ⟨rfl,rfl⟩|⟨a,len,cap,elems,rest,n,_,rfl,rfl,_,hlc,hcm,hlen,hel,hsp,_⟩
  ·refine⟨[.slice c []],⟨[],by simp,by simp,rfl,by simp⟩,rfl,λj u hj=>?_⟩
   cases j with
   | zero=>simp at hj;subst hj;exact⟨_,rfl,.nil⟩
   | succ j=>simp at hj
  ·obtain⟨hrl,hrest⟩:=hsp rfl;have hcell0:∀ i,i<cap->∃ ci y,w.cells? 0 (a.add (i*c)) c=some ci/\DataW.trod enc P w 0 (λ_=>true) true n te ci=some y/\(∀ hi:i<len,elems[i]?=some y):=by
    intro i hi;by_cases hil:i<len
    ·have h1:=hel i hil;have h2:elems[i]?=some (elems[i]'(by omega)):=Ad (by omega);rw [hc,h2,F8] at h1;obtain⟨ci,g1,g2⟩:=h1;exact⟨ci,_,g1,g2,λ_=>h2⟩
    ·have h1:=hrest (i-len) (by omega);have h2:rest[i-len]?=some (rest[i-len]'(by omega)):=Ad (by omega);rw [show len+(i-len)=i by omega,hc,h2,F8] at h1;obtain⟨ci,g1,g2⟩:=h1;exact⟨ci,_,g1,g2,λh=>absurd h hil⟩
   have hlist:∀ m,m<=len->∃ l:List (List D),l.length=m/\(∀ x∈l,TyDR R e x)/\∀ i (hi:i<m),∃ ci xi,w.cells? 0 (a.add (i*c)) c=some ci/\l[i]?=some xi/\RepL w ci xi:=by
    intro m;induction m with
    | zero=>intro _;exact⟨[],rfl,by simp,λi hi=>by omega⟩
    | succ m ih =>
     intro hm;obtain⟨l,l1,l2,l3⟩:=ih (by omega);obtain⟨ci,y,g1,g2,g3⟩:=hcell0 m (by omega);have hy:=g3 (by omega);have hmem:y.1∈elems.map (·.1):=List.mem_map.2 ⟨y,List.mem_of_getElem? hy,rfl⟩;obtain⟨xi,t1,t2⟩:=open_rt e te n ci y hre g2 λk hk=>hw k (by
      simp only [DataW.weights,ht,Bh,Cj];exact .inr (.inl (vn hmem k hk)))
     refine⟨l++[xi],by simp [l1],λx hx=>?_,λi hi=>?_⟩
     ·rcases List.mem_append.1 hx with hx|hx
      ·exact l2 x hx
      ·simp at hx;subst hx;exact t1
     ·by_cases him:i<m
      ·obtain⟨ci',xi',q1,q2,q3⟩:=l3 i him;exact⟨ci',xi',q1,by rw [Bm (by omega)];exact q2,q3⟩
      ·have:i=m:=by omega
       subst this;exact⟨ci,xi,g1,by rw [A4 (by omega),l1];simp,t2⟩
   obtain⟨l,l1,l2,l3⟩:=hlist len (Ah _);have hwt:l.length*b<=R:=by
    have:=hw ((elems.length+rest.length)*P.bytesOf te) (by
     simp only [DataW.weights,ht,Aa,Bh,true_or])
    rw [hby] at this;refine Nat.le_trans (Nat.mul_le_mul_right b ?_) this;omega
   refine⟨[.slice c l],⟨l,hwt,by omega,rfl,l2⟩,rfl,λj u hj=>?_⟩
   cases j with
   | succ j=>simp at hj
   | zero =>
    simp at hj;subst hj;refine⟨_,rfl,?_⟩
    by_cases hcap:cap=0
    ·have h0:len=0:=by omega
     subst hcap;subst h0;have:l=[]:=List.eq_nil_of_length_eq_zero l1
     subst this;exact .zero
    ·obtain⟨c0,y0,g1,_,_⟩:=hcell0 0 (by omega);obtain⟨v0,_,hv0⟩:=(cells?_spec g1).2 0 hpos;rw [Nat.zero_mul,addr_00] at hv0;obtain⟨s5,s2⟩:=cell?_addr hv0;obtain⟨ab,ao,asp⟩:=a;simp only at s5 s2;subst s5;have hl3:∀ i (hi:i<l.length),(l[i]'hi).length=c/\∀ j (hj:j<(l[i]'hi).length),∃ v,w.cell? ⟨ab,ao+i*c+j,none⟩=some v/\RepC (λ_=>False) w v ((l[i]'hi)[j]'hj):=by
      intro i hi;obtain⟨ci,xi,q1,q2,q3,q4⟩:=l3 i (by omega);have hxi:l[i]'hi=xi:=by rw [Ad hi] at q2;exact Option.some.inj q2
      subst hxi;obtain⟨r1,r2⟩:=cells?_spec q1;refine⟨by omega,λj hj=>?_⟩
      obtain⟨v,v1,v2⟩:=r2 j (by omega);obtain⟨xx,x1,x2⟩:=q4 j v v1;rw [Addr.add_at,Addr.add_at] at v2;have hxx:(l[i]'hi)[j]'hj=xx:=by rw [Ad hj] at x1;exact Option.some.inj x1
      exact⟨v,v2,hxx▸x2⟩
     refine .slice (λi j=>(w.cell? ⟨ab,ao+i*c+j,none⟩).getD undef) l1.symm hlc hcm (λh=>h) s2 (λi hi=>(hl3 i hi).1) (λi hi j hj=>?_) (λi hi j hj=>?_)
     ·obtain⟨v,v1,_⟩:=(hl3 i hi).2 j hj;rw [v1];rfl
     ·obtain⟨v,v1,v2⟩:=(hl3 i hi).2 j hj;rw [v1];exact v2
 | .struct fs,t,fuel,cs,x,hb,h,hw=>by
  obtain⟨fl,ht,hf,hc⟩:∃ fl,P.underlying t=some (.struct fl)/\rtL P fs fl.toList 0=true/\P.cellsOf t=RT.sizeL fs:=by
   unfold rtB at hb;split at hb
   ·rename_i fl ht;simp only [Ae] at hb;exact⟨fl,ht,hb.1,Ao hb.2⟩
   ·cases hb
  obtain⟨xs,n,_,rfl,hcl,hxl,hx⟩:=DataW.trod_struct ht h;obtain⟨ys,y1,y2⟩:=open_rts fs fl.toList 0 n cs xs hf (λi f hi=>hx i f (by simpa using hi)) (by simpa using hxl) (by rw [hcl,hc];omega) (λk hk=>hw k (by
   simp only [DataW.weights,ht];exact hk))
  exact⟨ys,y1,by simpa using y2⟩
theorem open_rts:∀ (rs:List RT) (fl:List Field) (o n:Nat) (cs:List Value) (xs:List (DataW H×List MemPlace)),rtL P rs fl o=true ->
  (∀ (i:Nat) (f:Field),fl[i]?=some f->DataW.trod enc P w 0 (λ_=>true) true n f.type ((cs.drop f.offset).take (P.cellsOf f.type))=xs[i]?)->xs.length=fl.length->cs.length=o+RT.sizeL rs ->
  (∀ k∈DataW.weightsEach P (fl.map (·.type)) (xs.map (·.1)),k<=R)->∃ ys,TyFR R rs ys/\RepL w (cs.drop o) ys
 | [],fl,o,n,cs,xs,hb,_,_,hl,_=>by
  refine⟨[],rfl,?_,λj u hj=>?_⟩
  ·simp [RT.sizeL] at hl ⊢;omega
  ·rw [List.drop_eq_nil_of_le (by simp [RT.sizeL] at hl;omega)] at hj;simp at hj
 | r::rs,[],o,n,cs,xs,hb,_,_,_,_=>by simp [rtL] at hb
 | r::rs,f::fl,o,n,cs,xs,hb,hx,hxl,hl,hw=>by
  simp only [rtL,Ae] at hb;obtain⟨b1,b2,b3,b4⟩:=hb;have b1:=Ao b1;have b2:=Ao b2;cases xs with
  | nil=>simp at hxl
  | cons y ys =>
   have h0:=hx 0 f rfl;simp only [List.getElem?_cons_zero] at h0;rw [b1,b2] at h0;simp only [RT.sizeL] at hl;obtain⟨az,a1,a2⟩:=open_rt r f.type n _ y b3 h0 λk hk=>hw k (by
    simp only [A3,DataW.weightsEach,Cj];exact .inl hk)
   obtain⟨bs,c1,c2⟩:=open_rts rs fl (o+r.size) n cs ys b4 (λi g hi=>by simpa using hx (i+1) g (by simpa using hi)) (by simpa using hxl) (by omega) (λk hk=>hw k (by
    simp only [A3,DataW.weightsEach,Cj];exact .inr hk))
   refine⟨az++bs,⟨az,bs,rfl,a1,c1⟩,?_⟩
   have:=a2.append c2
   have hd:(cs.drop o).take r.size++cs.drop (o+r.size)=cs.drop o:=by
    rw [<- List.drop_drop];exact List.take_append_drop _ _
   rw [hd] at this;exact this
end
end
end Go.Proofs.YtapciiffpnociadGreat
