/- Several texts in one: TokR WirC GxElm RelP RelA RelO ScoP ScoE GxNil StrA RelD ShS. Condition: none. -/
import Derived.Test.YtapciiffpnociadGreatM09
import Derived.Test.YtapciiffpnociadGreatM07
import Derived.Laws.MakeOwn
import Derived.Laws.OwnMore
import Derived.Sort.Statements
import Derived.Shelf.SlSortCmp.Insertion
import Derived.Lib.SliceRun
import Derived.Shelf.SlSortCmp.NoneTotal
import Derived.Ground.SlsfProg
import Derived.Test.YtapciiffpnociadGreatProg
set_option linter.all false
set_option maxHeartbeats 8000000
open Bool renaming eq_iff_iff→Hl,false_ne_true→C0,false_or→Cb,or_eq_true→Du
open Int renaming ofNat_lt→Es
open List renaming drop_eq_getElem_cons→Ao,drop_of_length_le→Ax,filter_cons→Db,foldl_cons→A2,getD→A9,getElem?_eq_getElem→Ab,getElem?_set→Eb,length_map→Aa,mem_cons_of_mem→Ah,mem_cons_self→Ae,replicate→An,set_append_right→Gi,set_cons_zero→Gw,take_of_length_le→Ak,take_succ_eq_append_getElem→Am
open Nat renaming add_assoc→Ek,beq→Aw,blt→As,exists_eq_add_of_le→Ft,le_of_ble_eq_true→Ac,le_refl→Af,zero_le→Ai
namespace Go.Proofs.YtapciiffpnociadGreat
section
open Go Go.RowKit
variable [Bnds]
attribute [local irreducible] DW DS DL DQ Ev FnOk FnP dp bh DT
theorem ra (n a b:Int):Fn 87 [.d (.int .i64 n),.d (.int .i64 a),.d (.int .i64 b)] (λr=>r = .d (.bool (decide (a<=n) && decide (n<=b)))):=by
 refine fqE Tryz.func87 ?_;intro O w0 E0 β0;repeat' (first|refine zr ?_|(refine zm ?_ ?_<;>intro hg)|fail)
 all_goals exact cm rfl (by first|(simp_all;done)|(simp_all;omega))
theorem isSmall_fn (c:UInt8):Fn 279 [.d (.int .u8 (c.toNat:Int))] (λr=>r = .d (.bool (gi c))):=by
 refine fqE Tryz.func279 ?_;intro O w0 E0 β0;repeat' (first|refine zr ?_|refine z21 ?_ (hc:=by apply ra)|fail)
 all_goals exact cm rfl (by unfold gi;rfl)
theorem isLetter_fn (c:UInt8):Fn 277 [.d (.int .u8 (c.toNat:Int))] (λr=>r = .d (.bool (eu c))):=by
 refine fqE Tryz.func277 ?_;intro O w0 E0 β0;repeat' (first|refine zr ?_|refine z21 ?_ (hc:=by apply ra)|refine z21 ?_ (hc:=by apply isSmall_fn)|(refine zm ?_ ?_<;>intro hg)|fail)
 all_goals exact cm rfl (by unfold eu ju;rw [hg];rfl)
theorem isDigit_fn (c:UInt8):Fn 278 [.d (.int .u8 (c.toNat:Int))] (λr=>r = .d (.bool (ct c))):=by
 refine fqE Tryz.func278 ?_;intro O w0 E0 β0;repeat' (first|refine zr ?_|refine z21 ?_ (hc:=by apply ra)|fail)
 all_goals exact cm rfl (by unfold ct;rfl)
theorem ext2 (s:ByteArray) (i:Nat) (h:i+1<s.size):s.extract i (i+2)=⟨#[s[i],s[i+1]]⟩:=by
 apply ByteArray.ext;simp only [ByteArray.data_extract];apply Array.toList_inj.1;rw [Array.toList_extract];have hl:s.data.toList.length=s.size:=by simp
 rw [List.extract_eq_take_drop,show i+2-i=2 by omega,Ao (by omega),Ao (by omega),oh _ _ (by omega),oh _ _ (by omega)];rfl
theorem pair_ext (s:ByteArray) (i:Nat) (h:i+1<s.size):mh (s[i]::s.data.toList.drop (i+1))=(decide (s.extract i (i+2)=⟨#[58,45]⟩) || decide (s.extract i (i+2)=⟨#[60,61]⟩) || decide (s.extract i (i+2)=⟨#[33,61]⟩)):=by
 have hl:s.data.toList.length=s.size:=by simp
 have key:∀ a b c d:UInt8,decide ((⟨#[a,b]⟩:ByteArray)=⟨#[c,d]⟩)=(a == c && b == d):=λa b c d=>by
  rw [Hl];simp
 rw [ext2 s i h,key,key,key,Ao (by omega),oh _ _ (by omega),mh]
theorem signs_step (c:UInt8) (i:Nat) (h:i<(⟨#[40,41,44,46,60,61,43,45,42]⟩:ByteArray).size):(signs.drop i).contains c=(decide ((((⟨#[40,41,44,46,60,61,43,45,42]⟩:ByteArray)[i]'h).toNat:Int)=(c.toNat:Int)) || (signs.drop (i+1)).contains c):=by
 have h':i<signs.length:=h;have e:signs[i]=(⟨#[40,41,44,46,60,61,43,45,42]⟩:ByteArray)[i]'h:=oh _ i h;rw [Ao h',List.contains_cons,e];congr 1;rw [Hl];simp only [beq_iff_eq,decide_eq_true_eq];exact⟨λh=>by rw [h],λh=>(UInt8.toNat_inj.1 (by omega)).symm⟩
theorem tokenAt_fn (s:ByteArray) (at_:Nat) (hat:at_<s.size) (hs:s.size<=5000) :
  Fn 254 [.d (.str s),.d (.int .i64 at_)] (λr=>r = .tup [.d (.int .i64 (cb (s.data.toList.drop at_)).1),.d (.int .i64 ((cb (s.data.toList.drop at_)).2:Nat))]):=by
 refine fqE Tryz.func254 ?_;intro O w0 E0 β0;repeat' (first|refine zs ?_|refine z21 ?_ (hc:=by apply isLetter_fn)|fail)
 have hl0:s.data.toList.length=s.size:=by simp
 have htok:cb (s.data.toList.drop at_)=cb (s[at_]::s.data.toList.drop (at_+1)):=by
  rw [Ao (by omega),oh]
 refine ff rfl (λhl=>?_) (λhl=>?_)
 ·have hres:cb (s.data.toList.drop at_)=(if gi s[at_] then 1 else 2,1+dh d5 (s.data.toList.drop (at_+1))):=by
   rw [htok,ey,if_pos hl]
  repeat' (first|refine zs ?_|fail)
  refine ak (ι:=Nat) (λn=>⟨0,[(0,.d (.str s)),(1,.d (.int .i64 at_)),(6,.d (.int .u8 s[at_].toNat)),(7,.d (.int .i64 n))],[]⟩)
   (λn=>1<=n/\at_+n<=s.size/\n+dh d5 (s.data.toList.drop (at_+n))=1+dh d5 (s.data.toList.drop (at_+1))) (λn=>s.size-n) 1 ⟨by omega,by omega,rfl⟩
   (er id) ?_
  rintro n ⟨h1,h2,h3⟩;have hstep:(h:(at_:Int)+n<s.size)->d5 (s[at_+n]'(by omega))=true->n+1+dh d5 (s.data.toList.drop (at_+(n+1)))=1+dh d5 (s.data.toList.drop (at_+1)):=λh hp=>by
   have h4:=tk d5 s.data.toList (at_+n) (by omega) (by rw [oh _ _ (by omega)];exact hp);rw [<- Ek at_ n 1];omega
  have hstop:(h:(at_:Int)+n<s.size)->d5 (s[at_+n]'(by omega))=false->1+dh d5 (s.data.toList.drop (at_+1))=n:=λh hp=>by
   have h4:=takeW_stop d5 s.data.toList (at_+n) (by omega) (by rw [oh _ _ (by omega)];exact hp);omega
  have hend:¬ (at_:Int)+n<s.size->1+dh d5 (s.data.toList.drop (at_+1))=n:=λh=>by
   have h4:=takeW_end d5 s.data.toList (at_+n) (by omega);omega
  clear htok;repeat' (first|refine zr ?_|refine z21 ?_ (hc:=by apply isLetter_fn)|refine z21 ?_ (hc:=by apply isDigit_fn)|refine z21 ?_ (hc:=by apply isSmall_fn)|(refine zm ?_ ?_<;>intro hg)|fail)
  all_goals first
   | (refine⟨n+1,⟨?_,?_,?_⟩,er id,?_⟩
      ·omega
      ·omega
      ·apply hstep<;>first|assumption|(unfold d5;simp [*])
      ·omega)
   | (refine sg rfl ⟨?_,?_⟩
      ·rw [hres,hg];rfl
      ·rw [hres];refine congrArg (λq:Nat=>D.int .i64 (q:Int)) (Eq.symm ?_);first
        | (apply hend;assumption)
        | (apply hstop<;>first|assumption|(unfold d5;simp [*])))
 ·repeat' (first|refine zs ?_|refine z21 ?_ (hc:=by apply isDigit_fn)|fail)
  refine ff rfl (λhd=>?_) (λhd=>?_)
  ·have hres:cb (s.data.toList.drop at_)=(3,1+dh ct (s.data.toList.drop (at_+1))):=by
    rw [htok,ey,if_neg (by rw [hl];exact C0),if_pos hd]
   repeat' (first|refine zs ?_|fail)
   refine ak (ι:=Nat) (λn=>⟨0,[(0,.d (.str s)),(1,.d (.int .i64 at_)),(6,.d (.int .u8 s[at_].toNat)),(7,.d (.int .i64 n))],[]⟩)
    (λn=>1<=n/\at_+n<=s.size/\n+dh ct (s.data.toList.drop (at_+n))=1+dh ct (s.data.toList.drop (at_+1))) (λn=>s.size-n) 1 ⟨by omega,by omega,rfl⟩
    (er id) ?_
   rintro n ⟨h1,h2,h3⟩;have hstep:(h:(at_:Int)+n<s.size)->ct (s[at_+n]'(by omega))=true->n+1+dh ct (s.data.toList.drop (at_+(n+1)))=1+dh ct (s.data.toList.drop (at_+1)):=λh hp=>by
    have h4:=tk ct s.data.toList (at_+n) (by omega) (by rw [oh _ _ (by omega)];exact hp);rw [<- Ek at_ n 1];omega
   have hstop:(h:(at_:Int)+n<s.size)->ct (s[at_+n]'(by omega))=false->1+dh ct (s.data.toList.drop (at_+1))=n:=λh hp=>by
    have h4:=takeW_stop ct s.data.toList (at_+n) (by omega) (by rw [oh _ _ (by omega)];exact hp);omega
   have hend:¬ (at_:Int)+n<s.size->1+dh ct (s.data.toList.drop (at_+1))=n:=λh=>by
    have h4:=takeW_end ct s.data.toList (at_+n) (by omega);omega
   clear htok;repeat' (first|refine zr ?_|refine z21 ?_ (hc:=by apply isDigit_fn)|(refine zm ?_ ?_<;>intro hg)|fail)
   all_goals first
    | (refine⟨n+1,⟨?_,?_,?_⟩,er id,?_⟩
       ·omega
       ·omega
       ·apply hstep<;>assumption
       ·omega)
    | (refine sg rfl ⟨?_,?_⟩
       ·rw [hres]
       ·rw [hres];refine congrArg (λq:Nat=>D.int .i64 (q:Int)) (Eq.symm ?_);first
         | (apply hend;assumption)
         | (apply hstop<;>assumption))
  ·have hres:cb (s.data.toList.drop at_)=if mh (s[at_]::s.data.toList.drop (at_+1)) then (4,2) else if signs.contains s[at_] then (4,1) else (0,0):=by
    rw [htok,ey,if_neg (by rw [hl];exact C0),if_neg (by rw [hd];exact C0)]
   repeat' (first|refine zs ?_|fail)
   refine bi rfl (λh2=>?_) (λh2=>?_)
   ·have hp:=pair_ext s at_ (by omega);repeat' (first|refine zr ?_|(refine zm ?_ ?_<;>intro hg)|fail)
    all_goals first
     | (refine sg rfl ⟨?_,?_⟩<;>(rw [hres,hp];simp [*];done))
     | skip
    have hpf:mh (s[at_]::s.data.toList.drop (at_+1))=false:=by rw [hp];simp [*]
    rw [hpf] at hres;refine ak (ι:=Nat) (λi=>⟨0,[(6,.d (.int .u8 s[at_].toNat)),(9,.d (.str ⟨#[40,41,44,46,60,61,43,45,42]⟩)),(10,.d (.int .i64 i))],[]⟩)
     (λi=>i<=9/\signs.contains s[at_]=(signs.drop i).contains s[at_]) (λi=>9-i) 0 ⟨by omega,rfl⟩ (er id) ?_
    rintro i ⟨hi,hc⟩;have hst:=λh=>signs_step s[at_] i h
    have h9:((⟨#[40,41,44,46,60,61,43,45,42]⟩:ByteArray).size:Int)=9:=rfl;repeat' (first|refine zr ?_|(refine zm ?_ ?_<;>intro hg)|fail)
    all_goals first
     | (refine sg rfl ⟨?_,?_⟩
        ·rw [hres,hc,hst (by rw [<- Es];assumption),decide_eq_true ‹_›];rfl
        ·rw [hres,hc,hst (by rw [<- Es];assumption),decide_eq_true ‹_›];rfl)
     | (refine⟨i+1,⟨?_,?_⟩,er id,?_⟩
        ·omega
        ·rw [hc,hst (by rw [<- Es];assumption),decide_eq_false ‹_›];rfl
        ·omega)
     | (have hi9:i=9:=by omega
        subst hi9;refine sg rfl ⟨?_,?_⟩
        ·rw [hres,hc];rfl
        ·rw [hres,hc];rfl)
   ·repeat' (first|refine zs ?_|fail)
    have hpf:mh (s[at_]::s.data.toList.drop (at_+1))=false:=by
     rw [Ax (by omega)];unfold mh;rfl
    rw [hpf] at hres;refine ak (ι:=Nat) (λi=>⟨0,[(6,.d (.int .u8 s[at_].toNat)),(9,.d (.str ⟨#[40,41,44,46,60,61,43,45,42]⟩)),(10,.d (.int .i64 i))],[]⟩)
     (λi=>i<=9/\signs.contains s[at_]=(signs.drop i).contains s[at_]) (λi=>9-i) 0 ⟨by omega,rfl⟩ (er id) ?_
    rintro i ⟨hi,hc⟩;have hst:=λh=>signs_step s[at_] i h
    have h9:((⟨#[40,41,44,46,60,61,43,45,42]⟩:ByteArray).size:Int)=9:=rfl;repeat' (first|refine zr ?_|(refine zm ?_ ?_<;>intro hg)|fail)
    all_goals first
     | (refine sg rfl ⟨?_,?_⟩
        ·rw [hres,hc,hst (by rw [<- Es];assumption),decide_eq_true ‹_›];rfl
        ·rw [hres,hc,hst (by rw [<- Es];assumption),decide_eq_true ‹_›];rfl)
     | (refine⟨i+1,⟨?_,?_⟩,er id,?_⟩
        ·omega
        ·rw [hc,hst (by rw [<- Es];assumption),decide_eq_false ‹_›];rfl
        ·omega)
     | (have hi9:i=9:=by omega
        subst hi9;refine sg rfl ⟨?_,?_⟩
        ·rw [hres,hc];rfl
        ·rw [hres,hc];rfl)
variable [Bnds]
theorem rbetween_fn (n a b:Int):Fn 87 [.d (.int .i64 n),.d (.int .i64 a),.d (.int .i64 b)] (λr=>r = .d (.bool (inR n a b))):=ra n a b
theorem fct_not {x y:Fct} {b:Bool} (h:decide (cu x y≠0) = !b):Fct.same x y=b:=by
 unfold Fct.same;cases b<;>simpa using h
theorem ordL_lt {l m:List Int} {i:Nat} (h1:i<l.length) (h2:i<m.length) (h:l[i]<m[i]):dj (l.drop i) (m.drop i) = -1:=by
 have e:i4 l[i] m[i] = -1:=by unfold i4;rw [if_pos h]
 rw [yx h1 h2,e];rfl
theorem ordL_gt {l m:List Int} {i:Nat} (h1:i<l.length) (h2:i<m.length) (h:m[i]<l[i]):dj (l.drop i) (m.drop i)=1:=by
 have e:i4 l[i] m[i]=1:=by unfold i4;rw [if_neg (by omega),if_pos h]
 rw [yx h1 h2,e];rfl
theorem ordL_eq {l m:List Int} {i:Nat} (h1:i<l.length) (h2:i<m.length) (h:l[i]=m[i]):dj (l.drop i) (m.drop i)=dj (l.drop (i+1)) (m.drop (i+1)):=by
 rw [yx h1 h2,h,if_pos (cmpI_self _)]
theorem cmpI_eq (a b:Int):(i4 a b=0)=(a=b):=by unfold i4;rw [eq_iff_iff];split<;>(try split)<;>simp<;>omega
theorem orderOf_fn (a b:Fct):Fn 49 [c9 a,c9 b] (λr=>r = .d (.int .i64 (cu a b))):=by
 refine fqE Tryz.func49 ?_;intro O w0 E0 β0;repeat' (first|refine zs ?_|fail)
 refine bi rfl (λhp=>?_) (λhp=>?_)
 ·repeat' (first|refine zr ?_|(refine zm ?_ ?_<;>intro hg)|fail)
  all_goals exact br rfl (by unfold cu;rw [if_neg (by rw [cmpI_eq];exact hp)];unfold i4;repeat' split;all_goals first|rfl|omega)
 ·have hF:cu a b=dj a.args b.args:=by unfold cu;rw [if_pos (by rw [cmpI_eq];exact Decidable.not_not.1 hp)]
  repeat' (first|refine zs ?_|fail)
  refine ak (ι:=Nat) (λi=>⟨2,[(2,.loc 0 0),(3,.loc 1 0),(5,.d (.int .i64 i))],[(0,.blk 37 [.d (.int .i64 a.pred),.d (.slice 1 (a.args.map ah))]),(1,.blk 37 [.d (.int .i64 b.pred),.d (.slice 1 (b.args.map ah))])]⟩)
   (λi=>i<=a.args.length/\i<=b.args.length/\cu a b=dj (a.args.drop i) (b.args.drop i)) (λi=>a.args.length-i) 0 ⟨Ai _,Ai _,hF⟩
   (er id) ?_
  rintro i ⟨h1,h2,h3⟩;refine dw_lenC 0 1 rfl rfl λhb=>?_
  have la:(a.args.map ah).length=a.args.length:=Aa _;have lb:(b.args.map ah).length=b.args.length:=Aa _;repeat' (first|refine zr ?_|(refine zm ?_ ?_<;>intro hg)|fail)
  all_goals first
   | (refine br rfl (Eq.trans ?_ h3.symm);refine (ordL_lt ?_ ?_ ?_).symm<;>first|assumption|omega)
   | (refine br rfl (Eq.trans ?_ h3.symm);refine (ordL_gt ?_ ?_ ?_).symm<;>first|assumption|omega)
   | (refine br rfl (Eq.trans ?_ h3.symm);refine (ordL_less ?_ ?_).symm<;>omega)
   | (refine br rfl (Eq.trans ?_ h3.symm);refine (ordL_more ?_ ?_).symm<;>omega)
   | (refine br rfl (Eq.trans ?_ h3.symm);refine (ordL_end ?_ ?_).symm<;>omega)
   | (refine⟨i+1,⟨?_,?_,h3.trans (ordL_eq ?_ ?_ ?_)⟩,er id,?_⟩<;>omega)
theorem fa (l m:List (Fct)):Fn 19 [.d (.slice 2 (l.map aa)),.d (.slice 2 (m.map aa))] (λr=>r = .d (.bool (d7 Fct.same l m))):=by
 refine fqE Tryz.func19 ?_;intro O w0 E0 β0;refine c8 (t:=0) rfl λhb=>?_
 repeat' (first|refine zs ?_|fail)
 refine bi rfl (λh=>?_) (λh=>?_)
 ·have hne:l.length≠m.length:=by rw [Aa,Aa] at h;omega
  repeat' (first|refine zr ?_|fail)
  exact cm rfl (yo _ _ _ hne).symm
 ·have hlen:l.length=m.length:=by rw [Aa,Aa] at h;omega
  repeat' (first|refine zs ?_|fail)
  refine ak (ι:=Nat) (λi=>⟨0,[(0,.d (.slice 2 (l.map aa))),(1,.d (.slice 2 (m.map aa))),(5,.d (.int .i64 i))],[]⟩)
   (λi=>i<=l.length/\d7 Fct.same l m=d7 Fct.same (l.drop i) (m.drop i)) (λi=>l.length-i) 0 ⟨Ai _,rfl⟩
   (er id) ?_
  rintro i ⟨h1,h2⟩;repeat' (first|refine zs ?_|fail)
  refine bi rfl (λh=>?_) (λh=>?_)
  ·have hi:i<l.length:=by rw [Aa] at h;omega
   have hm:i<m.length:=by omega
   have hd:=sameL_drop Fct.same l m i hi hm;repeat' (first|refine zs ?_|refine z22 ?_ (hc:=by apply orderOf_fn)|fail)
   refine ff rfl (λhb=>?_) (λhb=>?_)
   ·have hp:Fct.same l[i] m[i]=false:=by exact fct_not hb
    repeat' (first|refine zr ?_|fail)
    exact cm rfl (by rw [h2,hd,hp];rfl)
   ·have hp:Fct.same l[i] m[i]=true:=by exact fct_not hb
    repeat' (first|refine zs ?_|fail)
    exact⟨i+1,⟨hi,by rw [h2,hd,hp];rfl⟩,er id,by omega⟩
  ·repeat' (first|refine zr ?_|fail)
   exact cm rfl (by rw [h2,sameL_end _ _ _ _ (by rw [Aa] at h;omega) (by rw [Aa] at h;omega)])
end
section
open Go Go.RowKit
variable [Bnds]
section
variable {Γ : Ctx} {k : Nat -> Prop} {L : Sl} {H : Hp} {K : ca} {ops : List Oper} {rest : List Oper} {a : Act} {w : World} {e : Env} {t t' ty : TypeId} {x y : Operand}
end
section
variable {Γ : Ctx} {k : Nat} {L : Sl} {H : Hp} {K : ca} {ops : List Oper} {rest : List Oper} {t t' ty : TypeId} {x y : Operand} {q : Bool}
theorem bq (a:Nat):((a+1:Nat):Int)-1=(a:Int):=by omega
theorem j9 {α:Type} {f:α->List D} {l:List α} {j o:Nat} {u v:α} {new:List D} (h:gx (f u) o new=f v):(l.map f).set j (gx (f u) o new)=(l.set j v).map f:=by rw [h,List.map_set]
theorem hv_drop {α:Type} {f:α->List D} {l:List α} {n:Int} {j N:Nat} (hn:n=(j:Int)):(((l.map f).take ((N:Int)).toNat).drop n.toNat)=((l.take N).drop j).map f:=by subst hn;simp
theorem ni {α:Type} {f:α->List D} {l:List α} {n:Int} {j:Nat} (hn:n=(j:Int)):(((l.map f).take n.toNat).drop (0:Int).toNat)=(l.take j).map f:=by subst hn;simp
theorem ke {te tb:TypeId} {pos:String} {af:Array Edge} {g:Option (Nat×Bool)} {i j es o:Nat} {xs ys:List (List D)} {s:SV} {ds new:List D} {H':Hp} (hx:ai L x = .prow i j es o) (hH:Hp.get H i=some (.row tb es xs)) (hds:xs[j]?=some ds)
  (hy:ai L y=s) (hd:dcells s=some new) (hys:xs.set j (gx ds o new)=ys) (hH':setF H i (.row tb es ys) some=some H') (hyo:de y=true) (hkn:(aj Γ.τ te).sh.known=true) (hn:Aw new.length (aj Γ.τ te).cells=true) (hle:Nat.ble (o+new.length) es=true)
  (hw:aq ops L g=some true) (hk:DS false Γ ops rest K k L H'):DS false Γ ops (⟨none,.store te x y,ty,pos,af,g⟩::rest) K k L H:=by
 have hj:j<xs.length:=(List.getElem?_eq_some_iff.1 hds).1;have he:=(List.getElem?_eq_some_iff.1 hds).2;subst hys;rw [<- he] at hH';rw [oo] at hH';cases hH';exact dl_op hw (op_storeP hx hH hj hy hyo hd hkn hn hle) hk
theorem nr {d es:Nat} {xs ys:List (List D)} {lo hi:Option Operand} {n m':Int} {pos:String} {af:Array Edge} {g:Option (Nat×Bool)} (hx:ai L x = .d (.slice es xs)) (ht:(aj Γ.τ t).sh = .slice t') (hc:(aj Γ.τ t').cells=es) (hkn:(aj Γ.τ t').sh.known=true)
  (hl:vk (lo.map (ai L))=some n) (hh:mq xs.length (hi.map (ai L))=some m') (h0:0<=n/\n<=m'/\m'<=xs.length) (hys:(xs.take m'.toNat).drop n.toNat=ys) (hw:aq ops L g=some true) (hd:As d Γ.n=true)
  (hk:DS q Γ ops rest K k ((d,.d (.slice es ys))::L) H):DS q Γ ops (⟨some d,.slice t x lo hi none,ty,pos,af,g⟩::rest) K k L H:=by
 subst hys;exact jo (ev_sliceD ht hc hkn hx hl hh h0.1 h0.2.1 h0.2.2) hw hd hk
theorem ds_mk (ys:List (List D)) {d n:Nat} {te:TypeId} {pos:String} {af:Array Edge} {g:Option (Nat×Bool)} {x y:Operand} {m':Int} {v0:Value} {x0:D} (hx:ai L x = .d (.int .i64 m')) (hy:ai L y = .d (.int .i64 m')) (hn:m'=(n:Int)) (ht:(aj Γ.τ t).sh = .slice te)
  (hkn:(aj Γ.τ te).sh.known=true) (hes:(aj Γ.τ te).cells=1) (hzero:(aj Γ.τ te).zero=[v0]) (hx0:cSV v0 = .d x0) (hzok:ek (aj Γ.τ te).zero=true) (hroom:(aj Γ.τ te).bytes*n<=281474976710656) (hmax:n<=maxLen) (hys:An n [x0]=ys)
  (hw:aq ops L g=some true) (hd:As d Γ.n=true) (hk:DS false Γ ops rest K (k+1) ((d,.row k)::L) ((k,.row te 1 ys)::H)):DS false Γ ops (⟨some d,.makeSlice t x y,ty,pos,af,g⟩::rest) K k L H:=by
 subst hys;exact dl_op hw ((op_mk (jf k) ht hkn hes hzero hx0 hzok hx hy hn hroom hmax hd).cast (gv k)) hk
def sealSV (i es:Nat) (xs:List (List D)):SV->SV
 | .row j=>match Aw j i with|true=>.d (.slice es xs)|false=>.row j
 | s=>s
def sealL (i es:Nat) (xs:List (List D)):List SV->List SV
 | []=>[]
 | s::l=>sealSV i es xs s::sealL i es xs l
def scalB:SV->Bool
 | .d (.int _ _)=>true
 | .d (.bool _)=>true
 | .d (.str _)=>true
 | .tup []=>true
 | _=>false
theorem scal_rel {X Y:Nat->Prop} {e e':Env} {w w':World} {s:SV} {v:Value} (h:scalB s=true) (hr:Rel X e w s v):Rel Y e' w' s v:=by
 cases s with
 | d x =>
  cases x with
  | slice=>cases h
  | ptr=>cases h
  | own=>cases h
  | _=>cases hr<;>constructor<;>assumption
 | tup ss =>
  cases ss with
  | nil=>obtain⟨vs,h1,h2⟩:=hr;cases vs with|nil=>exact⟨[],h1,trivial⟩|cons=>exact h2.elim
  | cons=>cases h
 | _=>cases h
theorem dl_callS {f:FuncId} {xs:List Operand} {ts:Array TypeId} {ty:TypeId} {pos:String} {af:Array Edge} {g:Option (Nat×Bool)} {d i es:Nat} {te:TypeId} {ds:List (List D)} {args:List SV} {R:SV->Prop} (hw:aq ops L g=some true)
  (hH:Hp.get H i=some (.row te es ds)) (ha:sealL i es ds (mz L xs)=args) (hc:FnP Γ.dr Γ.P Γ.τ Γ.τok f args R) (hok:dy xs=true) (hlow:SV.lowL 0 args=true) (hd:As d Γ.n=true) (hs:∀ r,R r->scalB r=true)
  (hk:∀ r,R r->DL Γ ops rest K k ((d,r)::L) H) :
  DL Γ ops (⟨some d,.call { callee:=.value (.func f),args:=xs.toArray,argTypes:=ts },ty,pos,af,g⟩::rest) K k L H:=by
 refine jk hw λe a w m=>?_
 obtain⟨m2,hX⟩:=m.del i;have key:∀ (ss:List SV) (vs:List Value),RelL (Γ.X e H) e w ss vs->RelL (Γ.X e (Hp.del H i)) e w (sealL i es ds ss) vs:=by
  intro ss;induction ss with
  | nil=>intro vs h;cases vs<;>exact h
  | cons s ss ih =>
   intro vs h;cases vs with
   | nil=>exact h.elim
   | cons v vs =>
    refine⟨?_,ih vs h.2⟩
    have hk:Rel (Γ.X e (Hp.del H i)) e w s v:=Rel.keep (Af _) (λ_ _ _=>rfl) (λb _ h=>hX b h) _ _ h.1;unfold sealSV;split
    ·rename_i j;cases hb:Aw j i with
     | true =>
      have:=Nat.eq_of_beq_eq_true hb
      subst this;rw [show v=e.η j from h.1.2.1];exact qk m hH
     | false=>exact hk
    ·exact hk
 unfold Oper.wp;rw [jc hc.1];rw [Oper.upon_enter];refine (hc.use (τ:=Γ.τ) (τok:=Γ.τok) (Γ:=Γ) m2 hlow _ (ha▸key _ _ (e7 m xs hok))).mono ?_;rintro en w' ⟨r,v,hR,rfl,hb,hlr,hrel⟩;exact⟨k,_,H,e,(m.below hb).put (Ac hd) (scal_rel (hs r hR) hrel),hk r hR⟩
theorem ds_callS (i:Nat) {f:FuncId} {xs:List Operand} {ts:Array TypeId} {ty:TypeId} {pos:String} {af:Array Edge} {g:Option (Nat×Bool)} {d es:Nat} {te:TypeId} {ds:List (List D)} {args:List SV} {R:SV->Prop} (hc:FnP Γ.dr Γ.P Γ.τ Γ.τok f args R)
  (hH:Hp.get H i=some (.row te es ds)) (ha:sealL i es ds (mz L xs)=args) (hs:∀ r,R r->scalB r=true) (hw:aq ops L g=some true) (hok:dy xs=true) (hlow:SV.lowL 0 args=true) (hd:As d Γ.n=true)
  (hk:∀ r,R r->DS false Γ ops rest K k ((d,r)::L) H):DS false Γ ops (⟨some d,.call { callee:=.value (.func f),args:=xs.toArray,argTypes:=ts },ty,pos,af,g⟩::rest) K k L H :=
 dl_callS hw hH ha hc hok hlow hd hs hk
theorem ew (t j:Nat) {c:Code} {Q:d6} {es:Nat} {ss:List SV} {xs:List (List D)} (h:L.get t = .agg ss) (hj:ss[j]?=some (.d (.slice es xs))) (hk:xs.length<=9223372036854775807->DW Γ c Q k L H):DW Γ c Q k L H:=by
 intro e a w m;have hr:=m.slot t;rw [h] at hr;obtain⟨vs,_,h2⟩:=hr;obtain⟨v,_,h3⟩:=RelL.get _ _ h2 j _ hj;obtain⟨ao,cap,_,h4,h5,_⟩:=RepC.slice_inv h3;exact hk (by unfold maxLen at h5;omega) e a w m
theorem dw_stop (id:Nat) {c y:Code} {Q:d6} (h:DW Γ (.seq (.block id c) y) Q k L H):DW Γ (.seq (.block id c) y) Q k L H:=h
theorem iz (id:Nat) {ops:Array Oper} {b:Bool} {x z:Code} {Q:d6} (h:DW Γ (.seq (.seq (.region id ops b) x) z) Q k L H):DW Γ (.seq (.seq (.region id ops b) x) z) Q k L H:=h
theorem cp (id:Nat) {ops:Array Oper} {b:Bool} {x:Code} {Q:d6} (h:DW Γ (.seq (.region id ops b) x) Q k L H):DW Γ (.seq (.region id ops b) x) Q k L H:=h
theorem dw_cut {ι:Type} {c y:Code} {Q:d6} (I:ι->St) (pre:ι->Prop) (hx:DW Γ c (dp (λk' L' H'=>∃ i,pre i/\Ent Γ k' L' H' (I i).k (I i).L (I i).H) Q) k L H) (hy:∀ i,pre i->DW Γ y Q (I i).k (I i).L (I i).H):DW Γ (.seq c y) Q k L H:=by
 intro e a w m;refine wpIn_seq (wpIn_mono (hx e a w m) ?_);rintro ex a' w' (⟨k',L',H',e',m',hq⟩|hf)
 ·cases ex with
  | normal =>
   obtain⟨i,hp,he⟩:=hq;obtain⟨e2,m2⟩:=he e' a' w' m';exact hy i hp e2 a' w' m2
  | _=>exact .inl ⟨k',L',H',e',m',hq⟩
 ·obtain⟨v,k',L',H',e',rfl,r⟩:=hf;exact .inr ⟨v,k',L',H',e',rfl,r⟩
theorem oc {k2 k3:Nat} {L2 L3:Sl} {H2 H3:Hp} (h:Ent Γ k L H k2 L2 H2) (g:Ent Γ k2 L2 H2 k3 L3 H3):Ent Γ k L H k3 L3 H3:=λe a w m =>
 let ⟨e2,m2⟩:=h e a w m
 g e2 a w m2
end
variable [Bnds]
def hasF (l:List Fct) (f:Fct):Bool:=l.any λx=>decide (cu x f=0)
def qq (l:List Fct) (f:Fct):Nat->Nat
 | 0=>0
 | n+1=>match l[n]? with
  | some x=>if 0<cu x f then qq l f n else n+1
  | none=>n+1
def su (l:List Fct) (f:Fct):List Fct:=if hasF l f then l else l.take (qq l f l.length)++f::l.drop (qq l f l.length)
def av (l:List Fct):List Fct:=l.foldl su []
theorem kFrom_succ {l:List Fct} {f:Fct} {n:Nat} (h:n<l.length):qq l f (n+1)=if 0<cu l[n] f then qq l f n else n+1:=by
 rw [qq,Ab h]
theorem insF_len (l:List Fct) (f:Fct):(su l f).length<=l.length+1:=by
 unfold su;split
 ·omega
 ·simp;omega
theorem setF_take {l:List Fct} {i:Nat} (h:i<l.length):(l.take (i+1)).foldl su []=su ((l.take i).foldl su []) l[i]:=by
 rw [Am h,List.foldl_append];rfl
theorem sa:∀ (l o:List Fct),(l.foldl su o).length<=l.length+o.length
 | [],o=>by simp
 | x::l,o=>by
  have:=sa l (su o x)
  have:=insF_len o x
  rw [A2,List.length_cons]
  omega
theorem shift_step {α:Type} {l:List α} {y:α} {k:Nat} (h:k<l.length):(l.take (k+1)++y::l.drop (k+1)).set (k+1) l[k]=l.take k++l[k]::l.drop k:=by
 have h1:(l.take (k+1)).length=k+1:=by simp;omega
 rw [Gi _ _ (by omega),h1,Nat.sub_self,Gw,Am h,List.append_assoc,Ao h];rfl
theorem shift_get {α:Type} {l:List α} {y:α} {k:Nat} (h:k<l.length):(l.take (k+1)++y::l.drop (k+1))[k]?=some l[k]:=by
 rw [List.getElem?_append_left (by simp;omega),List.getElem?_take,if_pos (by omega),Ab h]
theorem shift_end {α:Type} {l:List α} {y x:α} {k:Nat} (h:k<=l.length):(l.take k++y::l.drop k).set k x=l.take k++x::l.drop k:=by
 have h1:(l.take k).length=k:=by simp;omega
 rw [Gi _ _ (by omega),h1,Nat.sub_self,Gw]
variable [Bnds]
attribute [local irreducible] DW DS DL DQ Ev FnOk FnP dp bh DT
theorem hasFact_fn (l:List Fct) (f:Fct):Fn 11 [.d (.slice 2 (l.map aa)),c9 f] (λr=>r = .d (.bool (hasF l f))):=by
 refine fqE Tryz.func11 ?_;intro O w0 E0 β0;have la:(l.map aa).length=l.length:=Aa _;refine l9 (t:=0) rfl (λhk=>?_);unfold hasF;repeat' (first|refine zs ?_|fail)
 refine ak (ι:=Nat) (λi=>⟨1,[(0,.d (.slice 2 (l.map aa))),(3,.loc 0 0),(4,.d (.bool false)),(5,.d (.int .i64 i))],[(0,.blk 37 [.d (.int .i64 f.pred),.d (.slice 1 (f.args.map ah))])]⟩)
  (λi=>i<=l.length/\(l.any λx=>decide (cu x f=0))=((l.drop i).any λx=>decide (cu x f=0))) (λi=>l.length-i) 0 ⟨Ai _,rfl⟩ (er id) ?_
 rintro i ⟨g1,g2⟩;by_cases hi:i<l.length
 ·have w:=orderOf_fn l[i] f;rw [Ao hi,List.any_cons] at g2;generalize cu l[i] f=q at w g2;repeat' (first|refine zr ?_|refine z22 ?_ (hc:=by apply w)|(refine zm ?_ ?_<;>intro hg)|fail)
  all_goals first
   | (exfalso;omega)
   | (refine cm rfl ?_;rw [g2];simp_all;done)
   | exact⟨i+1,⟨by omega,by rw [g2];simp_all⟩,er id,by show l.length-(i+1)<l.length-i;omega⟩
 ·rw [Ax (by omega)] at g2;repeat' (first|refine zr ?_|(refine zm ?_ ?_<;>intro hg)|fail)
  all_goals first
   | (exfalso;omega)
   | exact cm rfl g2.symm
theorem wu (l:List Fct) (hl:l.length<=4398046511104):Fn 91 [.d (.slice 2 (l.map aa))] (λr=>r = .d (.slice 2 ((av l).map aa))):=by
 refine fqE Tryz.func91 ?_;intro O w0 E0 β0;have la:(l.map aa).length=l.length:=Aa _;repeat' (first|refine zs ?_|fail)
 refine au (dm (t:=3) 37 2 rfl) ?_;refine ak (ι:=Nat×List Fct) (λx=>⟨1,[(0,.d (.slice 2 (l.map aa))),(3,.row 0),(4,.d (.int .i64 x.1))],[(0,.row 37 2 (x.2.map aa))]⟩)
  (λx=>x.1<=l.length/\x.2=(l.take x.1).foldl su []) (λx=>l.length-x.1) (0,[]) ⟨Ai _,rfl⟩ (er id) ?_
 rintro⟨i,o⟩ ⟨g1,g2⟩;dsimp only at g1 g2 ⊢;have lo:(o.map aa).length=o.length:=Aa _;have hol:o.length<=i:=by
  have:=sa (l.take i) []
  rw [<- g2] at this;simp at this;omega
 by_cases hi:i<l.length
 ·have hstep:=setF_take (l:=l) hi;rw [<- g2] at hstep;repeat' (first|refine zr ?_|(refine zm ?_ ?_<;>intro hg)|(exfalso;omega))
  refine ds_callS 0 (hasFact_fn o l[i]) rfl rfl (by rintro _ rfl;rfl) rfl rfl rfl rfl ?_;rintro _ rfl;cases hh:hasF o l[i] with
  | true =>
   have hins:su o l[i]=o:=by unfold su;rw [if_pos hh]
   repeat' (first|refine zs ?_|fail)
   exact⟨(i+1,o),⟨by dsimp only;omega,by dsimp only;rw [hstep,hins]⟩,er id,by show l.length-(i+1)<l.length-i;omega⟩
  | false =>
   have hins:su o l[i]=o.take (qq o l[i] o.length)++l[i]::o.drop (qq o l[i] o.length):=by unfold su;rw [hh];rfl
   rw [hins] at hstep;repeat' (first|refine zs ?_|fail)
   have hin:o.map aa++[[D.int .i64 l[i].pred,D.slice 1 (l[i].args.map ah)]]=(o.take o.length++l[i]::o.drop o.length).map aa:=by
    rw [Ak (Af _),Ax (Af _),List.map_append];rfl
   rw [hin];refine ak (ι:=Nat×List Fct) (λx=>⟨2,[(0,.d (.slice 2 (l.map aa))),(3,.row 1),(4,.d (.int .i64 i)),(5,.d (.int .i64 x.1))],[(1,.row 37 2 (x.2.map aa))]⟩)
    (λx=>x.1<=o.length/\qq o l[i] o.length=qq o l[i] x.1/\∃ y,x.2=o.take x.1++y::o.drop x.1) (λx=>x.1) (o.length,o.take o.length++l[i]::o.drop o.length) ⟨Af _,rfl,_,rfl⟩
    (by rw [lo];exact er id) ?_
   rintro⟨k,o'⟩ ⟨e1,e2,y,e3⟩;dsimp only at e1 e2 e3 ⊢;have lo':(o'.map aa).length=o'.length:=Aa _;have ho':o'.length=o.length+1:=by rw [e3];simp;omega
   cases k with
   | zero =>
    repeat' (first|refine z0 ?_|apply jj|(apply ke;exact rfl;exact rfl;(apply ig;(omega));exact rfl;exact rfl;(exact j9 rfl);exact rfl;exact rfl;exact rfl;exact rfl;exact rfl;exact rfl)|refine zs ?_|(exfalso;omega))
    refine⟨(i+1,o'.set 0 l[i]),⟨by dsimp only;omega,?_⟩,er (λ_=>1),by show l.length-(i+1)<l.length-i;omega⟩
    dsimp only;rw [hstep,e2,e3,shift_end e1];rfl
   | succ k =>
    have hk:o'[k]'(by omega)=o[k]'(by omega):=by
     have:=shift_get (l:=o) (y:=y) (k:=k) (by omega)
     rw [<- e3,Ab (by omega)] at this;injection this
    have w:=orderOf_fn (o'[k]'(by omega)) l[i];rw [kFrom_succ (by omega),<- hk] at e2;repeat' (first|refine z0 ?_|apply jj|(apply ke;exact rfl;exact rfl;(apply ig;(omega));exact rfl;exact rfl;(exact j9 rfl);exact rfl;exact rfl;exact rfl;exact rfl;exact rfl;exact rfl)|refine zs ?_|refine z22 ?_ (hc:=by apply w)|(refine zm ?_ ?_<;>intro hg)|(exfalso;omega))
    ·rw [if_pos (by assumption)] at e2;simp only [bq];refine⟨(k,o'.set (k+1) (o'[k]'(by omega))),⟨by dsimp only;omega,e2,o'[k]'(by omega),?_⟩,er id,by show k<k+1;omega⟩
     have h5:=shift_step (l:=o) (y:=y) (k:=k) (by omega);rw [<- e3] at h5;dsimp only;rw [hk];exact h5
    ·rw [if_neg (by assumption)] at e2;refine⟨(i+1,o'.set (k+1) l[i]),⟨by dsimp only;omega,?_⟩,er (λ_=>1),by show l.length-(i+1)<l.length-i;omega⟩
     dsimp only;rw [hstep,e2,e3,shift_end e1]
 ·repeat' (first|refine zs ?_|(refine zm ?_ ?_<;>intro hg)|(exfalso;omega))
  refine au (cr 2 rfl rfl rfl) ?_;repeat' (apply dv)
  have:o=av l:=by rw [g2,Ak (by omega)];rfl
  rw [<- this];exact⟨.inl rfl,_,rfl,rfl,rfl⟩
variable [Bnds]
theorem cmpI_anti (a b:Int):i4 a b = - i4 b a:=by unfold i4;split<;>split<;>(try split)<;>omega
theorem cmpI_lt {a b:Int}:i4 a b<0↔a<b:=by
 unfold i4;split
 ·rename_i h;simp [h]
 ·rename_i h;split<;>simp [h]
theorem kl:∀ (l m:List Int),dj l m = - dj m l
 | [],[]=>rfl
 | [],_::_=>rfl
 | _::_,[]=>rfl
 | a::l,b::m=>by
  unfold dj
  rw [cmpI_anti a b]
  by_cases h:i4 b a=0
  ·rw [h,if_pos (by omega),if_pos rfl];exact kl l m
  ·rw [if_neg (by omega),if_neg h]
theorem xe:∀ {l m:List Int},dj l m=0->l=m
 | [],[],_=>rfl
 | [],_::_,h=>by unfold dj at h;omega
 | _::_,[],h=>by unfold dj at h;omega
 | a::l,b::m,h=>by
  unfold dj at h
  split at h
  ·rename_i h1;rw [qc h1,xe h]
  ·rename_i h1;exact absurd h h1
theorem ub:∀ {l m n:List Int},dj l m<0->dj m n<0->dj l n<0
 | [],[],_,h,_=>by unfold dj at h;omega
 | _::_,[],_,h,_=>by unfold dj at h;omega
 | [],_::_,[],_,h=>by unfold dj at h;omega
 | [],_::_,_::_,_,_=>by unfold dj;omega
 | _::_,_::_,[],_,h=>by unfold dj at h;omega
 | a::l,b::m,c::n,h,g=>by
  unfold dj at h g ⊢
  by_cases h1:i4 a b=0
  ·have:=qc h1;subst this
   rw [if_pos h1] at h
   by_cases g1:i4 a c=0
   ·rw [if_pos g1] at g ⊢;exact ub h g
   ·rw [if_neg g1] at g ⊢;exact g
  ·rw [if_neg h1] at h
   by_cases g1:i4 b c=0
   ·have:=qc g1;subst this
    rw [if_neg h1];exact h
   ·rw [if_neg g1] at g
    have h2:=cmpI_lt.1 h
    have g2:=cmpI_lt.1 g
    have h3:i4 a c<0:=cmpI_lt.2 (by omega)
    rw [if_neg (by omega)];exact h3
theorem p6 (a b:Fct):cu a b = - cu b a:=by
 unfold cu;rw [cmpI_anti a.pred b.pred];by_cases h:i4 b.pred a.pred=0
 ·rw [h,if_pos (by omega),if_pos rfl];exact kl _ _
 ·rw [if_neg (by omega),if_neg h]
theorem qp {a b:Fct} (h:cu a b=0):a=b:=by
 unfold cu at h;split at h
 ·rename_i h1;cases a;cases b;simp only at h h1 ⊢;rw [qc h1,xe h]
 ·rename_i h1;exact absurd h h1
theorem l8 {a b c:Fct} (h:cu a b<0) (g:cu b c<0):cu a c<0:=by
 unfold cu at h g ⊢;by_cases h1:i4 a.pred b.pred=0
 ·rw [if_pos h1] at h;rw [qc h1];by_cases g1:i4 b.pred c.pred=0
  ·rw [if_pos g1] at g ⊢;exact ub h g
  ·rw [if_neg g1] at g ⊢;exact g
 ·rw [if_neg h1] at h;by_cases g1:i4 b.pred c.pred=0
  ·rw [<- qc g1,if_neg h1];exact h
  ·rw [if_neg g1] at g;have h2:=cmpI_lt.1 h;have g2:=cmpI_lt.1 g;have h3:i4 a.pred c.pred<0:=cmpI_lt.2 (by omega);rw [if_neg (by omega)];exact h3
theorem ordF_le {a b c:Fct} (h:0<=cu a b) (g:0<=cu b c):0<=cu a c:=by
 by_cases h1:cu a b=0
 ·rw [qp h1];exact g
 ·by_cases g1:cu b c=0
  ·rw [<- qp g1];exact h
  ·have h2:cu b a<0:=by rw [p6];omega
   have g2:cu c b<0:=by rw [p6];omega
   have:=l8 g2 h2
   rw [p6] at this;omega
theorem swoF:Go.Sort.SWO (ltOf cu) where
 irrefl x:=by unfold ltOf;rw [js];rfl
 trans x y z h g:=decide_eq_true (l8 (of_decide_eq_true h) (of_decide_eq_true g))
 ntrans x y z h g:=by
  have h:=of_decide_eq_false h;have g:=of_decide_eq_false g;exact decide_eq_false (by have:=ordF_le (a:=x) (b:=y) (c:=z) (by omega) (by omega);omega)
variable [Bnds]
structure Trm where
 var:Int
 n:Int
structure Ltl where
 kind:Int
 op:Int
 pred:Int
 terms:List Trm
structure Rul where
 pred:Int
 terms:List Trm
 fold:Int
 body:List Ltl
 vars:Int
structure Prg where
 arity:List Int
 names:List ByteArray
 rules:List Rul
def b8 {α:Type} (f:α->Int):List α->Int
 | []=>0
 | x::l=>if f x≠0 then f x else b8 f l
theorem gz {α:Type} {f:α->Int} {l:List α} {i:Nat} (hi:i<l.length):b8 f (l.drop i)=if f l[i]≠0 then f l[i] else b8 f (l.drop (i+1)):=by
 rw [Ao hi];rfl
theorem jh {α:Type} {f:α->Int} {l:List α} {i:Nat} (hi:l.length<=i):b8 f (l.drop i)=0:=by
 rw [Ax hi];rfl
def ij (f:Nat->Int):Nat->Nat->Int
 | _,0=>0
 | i,k+1=>if f i≠0 then f i else ij f (i+1) k
theorem firstI_step {f:Nat->Int} {n i:Nat} (h:i<n):ij f i (n-i)=if f i≠0 then f i else ij f (i+1) (n-(i+1)):=by
 rw [show n-i=(n-(i+1))+1 by omega];rfl
theorem firstI_end {f:Nat->Int} {n i:Nat} (h:n<=i):ij f i (n-i)=0:=by
 rw [show n-i=0 by omega];rfl
def vd (vars:Int) (t:Trm):Int:=if inR t.var (-1) (vars-1)=false then 5 else if numB t.n=false∨(0<=t.var/\t.n≠0) then 3 else 0
def nw (vars:Int) (l:List Trm):Int:=b8 (vd vars) l
def opB (kind n:Int):Bool:=if kind=3 then inR n 1 4 else if kind=4 then inR n 5 7 else decide (n=0)
def j7 (arity:List Int) (vars:Int) (l:Ltl):Int :=
 if inR l.kind 1 4=false then 7
 else if opB l.kind l.op=false then 3
 else if l.kind=1∨l.kind=2 then
  if inR l.pred 0 ((arity.length:Int)-1)=false then 5
  else if (l.terms.length:Int)≠arity.getD l.pred.toNat 0 then 1
  else nw vars l.terms
 else if l.pred≠0∨(l.terms.length:Int)≠l.kind-1 then 1
 else nw vars l.terms
def isT (bs:List Bool) (t:Trm):Bool:=decide (t.var<0) || bs.getD t.var.toNat false
def jb (bs:List Bool) (t:Trm):List Bool:=if t.var<0 then bs else bs.set t.var.toNat true
def b9 (bs:List Bool) (l:Ltl):Bool:=decide (l.kind=1) || (decide (l.kind=4) && (l.terms.take 2).all (isT bs))
def dq (l:Ltl):List Trm:=if l.kind=1 then l.terms else l.terms.drop 2
def k9 (bs:List Bool) (l:Ltl):List Bool:=if b9 bs l then (dq l).foldl jb bs else bs
def ik (body:List Ltl) (bs:List Bool):List Bool:=body.foldl k9 bs
def e9 (body:List Ltl):Nat->List Bool->List Bool
 | 0,bs=>bs
 | n+1,bs=>e9 body n (ik body bs)
def u7 (r:Rul):List Bool:=e9 r.body (r.body.length+1) (An r.vars.toNat false)
def ri (r:Rul):Bool:=(u7 r).all id
def mg (arity:List Int) (r:Rul):Int :=
 if inR r.pred 0 ((arity.length:Int)-1)=false then 5
 else if (r.terms.length:Int)≠arity.getD r.pred.toNat 0 then 1
 else if inR r.vars 0 8=false then 3
 else if nw r.vars r.terms≠0 then nw r.vars r.terms
 else if inR r.fold 0 4=false then 7
 else if r.fold≠0/\(r.terms.length=0∨r.body.length=0) then 1
 else if 4<r.body.length then 2
 else if b8 (j7 arity r.vars) r.body≠0 then b8 (j7 arity r.vars) r.body
 else if ri r=false then 4
 else 0
def o6 (nameB:ByteArray->Bool) (p:Prg) (i:Nat):Int :=
 if inR (p.arity.getD i 0) 0 3=false then 3
 else if nameB (p.names.getD i ⟨#[]⟩)=false then 1
 else if (p.names.take i).any (λs=>decide (s=p.names.getD i ⟨#[]⟩)) then 6
 else 0
def dw (nameB:ByteArray->Bool) (p:Prg):Int :=
 if 10<p.arity.length∨12<p.rules.length then 2
 else if p.names.length≠p.arity.length then 1
 else if ij (o6 nameB p) 0 p.names.length≠0 then ij (o6 nameB p) 0 p.names.length
 else b8 (mg p.arity) p.rules
theorem wq (bs:List Bool) (t:Trm):(jb bs t).length=bs.length:=by unfold jb;split<;>simp
theorem setTs_len:∀ (l:List Trm) (bs:List Bool),(l.foldl jb bs).length=bs.length
 | [],_=>rfl
 | t::l,bs=>by rw [A2,setTs_len l,wq]
theorem bLit_len (bs:List Bool) (l:Ltl):(k9 bs l).length=bs.length:=by unfold k9;split;exact setTs_len _ _;rfl
theorem bRound_len:∀ (body:List Ltl) (bs:List Bool),(ik body bs).length=bs.length
 | [],_=>rfl
 | l::body,bs=>by
  have:=bRound_len body (k9 bs l)
  rw [bLit_len] at this
  exact this
theorem tf (body:List Ltl):∀ (n:Nat) (bs:List Bool),(e9 body n bs).length=bs.length
 | 0,_=>rfl
 | n+1,bs=>by rw [e9,tf body n,bRound_len]
def leB (a b:List Bool):Prop:=a.length=b.length/\∀ i,a.getD i false=true->b.getD i false=true
theorem leB.refl (a:List Bool):leB a a:=⟨rfl,λ_ h=>h⟩
theorem leB.trans {a b c:List Bool} (h:leB a b) (g:leB b c):leB a c:=⟨h.1.trans g.1,λi hi=>g.2 i (h.2 i hi)⟩
theorem setT_le (bs:List Bool) (t:Trm):leB bs (jb bs t):=by
 refine⟨(wq _ _).symm,λi h=>?_⟩
 unfold jb;split
 ·exact h
 ·simp only [A9,Eb] at h ⊢;split
  ·rename_i hi;rw [hi];by_cases hl:i<bs.length
   ·simp [hl]
   ·rw [List.getElem?_eq_none (by omega)] at h;cases h
  ·exact h
theorem ky:∀ (l:List Trm) (bs:List Bool),leB bs (l.foldl jb bs)
 | [],bs=>leB.refl bs
 | t::l,bs=>(setT_le bs t).trans (ky l _)
theorem bLit_le (bs:List Bool) (l:Ltl):leB bs (k9 bs l):=by unfold k9;split;exact ky _ _;exact leB.refl _
theorem tc:∀ (body:List Ltl) (bs:List Bool),leB bs (ik body bs)
 | [],bs=>leB.refl bs
 | l::body,bs=>(bLit_le bs l).trans (tc body _)
theorem sr {a b:List Bool} (h:leB a b) {t:Trm} (ht:isT a t=true):isT b t=true:=by
 unfold isT at ht ⊢;rw [Du] at ht ⊢;exact ht.imp id (h.2 _)
theorem uv {a b:List Bool} (h:leB a b) {l:Ltl} (hl:b9 a l=true):b9 b l=true:=by
 unfold b9 at hl ⊢;simp only [Du,Bool.and_eq_true,List.all_eq_true] at hl ⊢;exact hl.imp id fun⟨g1,g2⟩=>⟨g1,λt ht=>sr h (g2 t ht)⟩
theorem p5 {bs:List Bool} {t:Trm} (h:isT bs t=true):jb bs t=bs:=by
 unfold isT at h;unfold jb;split
 ·rfl
 ·rename_i hn;rw [decide_eq_false hn,Cb] at h;simp only [A9] at h;cases hg:bs[t.var.toNat]? with
  | none=>rw [hg] at h;cases h
  | some b =>
   rw [hg] at h;simp only [Option.getD_some] at h;subst h;have hlt:=(List.getElem?_eq_some_iff.1 hg).1;refine List.ext_getElem? λi=>?_
   rw [Eb];split
   ·rename_i hi;subst hi;exact hg.symm
   ·rfl
theorem setTs_same:∀ {l:List Trm} {bs:List Bool},(∀ t∈l,isT bs t=true)->l.foldl jb bs=bs
 | [],_,_=>rfl
 | t::l,bs,h=>by
  rw [A2,p5 (h t (Ae ..))]
  exact setTs_same λx hx=>h x (Ah _ hx)
def okT (v:Nat) (t:Trm):Prop:=t.var<(v:Int)
theorem setT_is {bs:List Bool} {t:Trm} (h:okT bs.length t):isT (jb bs t) t=true:=by
 unfold isT jb;unfold okT at h;split
 ·rename_i hn;rw [decide_eq_true hn];rfl
 ·rename_i hn;rw [decide_eq_false hn,Cb];simp only [A9,Eb];have:t.var.toNat<bs.length:=by omega
  simp [this]
theorem m7:∀ {l:List Trm} {bs:List Bool},(∀ t∈l,okT bs.length t)->∀ t∈l,isT (l.foldl jb bs) t=true
 | [],_,_,t,ht=>by simp at ht
 | x::l,bs,h,t,ht=>by
  rw [A2]
  rcases List.mem_cons.1 ht with rfl|ht
  ·exact sr (ky l _) (setT_is (h t (Ae ..)))
  ·exact m7 (bs:=jb bs x) (λy hy=>by rw [wq];exact h y (Ah _ hy)) t ht
theorem bLit_same {bs:List Bool} {l:Ltl} (h:b9 bs l=true->∀ t∈dq l,isT bs t=true):k9 bs l=bs:=by
 unfold k9;split
 ·rename_i hf;exact setTs_same (h hf)
 ·rfl
theorem yd:∀ {body:List Ltl} {bs:List Bool},(∀ l∈body,b9 bs l=true->∀ t∈dq l,isT bs t=true)->ik body bs=bs
 | [],_,_=>rfl
 | l::body,bs,h=>by
  show ik body (k9 bs l)=bs
  rw [bLit_same (h l (Ae ..))]
  exact yd λx hx=>h x (Ah _ hx)
theorem ye:∀ {body:List Ltl} {bs:List Bool},(∀ l∈body,∀ t∈dq l,okT bs.length t)->∀ l∈body,b9 bs l=true->∀ t∈dq l,isT (ik body bs) t=true
 | [],_,_,l,hl,_,_,_=>by simp at hl
 | x::body,bs,hok,l,hl,hf,t,ht=>by
  show isT (ik body (k9 bs x)) t=true
  rcases List.mem_cons.1 hl with rfl|hl
  ·refine sr (tc body _) ?_
   unfold k9
   rw [if_pos hf]
   exact m7 (hok l (Ae ..)) t ht
  ·exact ye (bs:=k9 bs x) (λy hy z hz=>by rw [bLit_len];exact hok y (Ah _ hy) z hz) l hl (uv (bLit_le bs x) hf) t ht
def sj (body:List Ltl) (bs:List Bool):Nat:=(body.filter (b9 bs)).length
theorem nFire_mono {a b:List Bool} (h:leB a b):∀ (body:List Ltl),sj body a<=sj body b
 | []=>Af _
 | l::body=>by
  have ih:=nFire_mono h body
  unfold sj at ih ⊢
  rw [Db,Db]
  cases ha:b9 a l with
  | true=>rw [uv h ha];simpa using ih
  | false =>
   cases hb:b9 b l with
   | true=>simp;omega
   | false=>simpa using ih
theorem nFire_same {a b:List Bool} (h:leB a b):∀ {body:List Ltl},sj body b<=sj body a->∀ l∈body,b9 b l=true->b9 a l=true
 | [],_,l,hl,_=>by simp at hl
 | x::body,hn,l,hl,hf=>by
  have ih:=nFire_mono h body
  have ihs:=@nFire_same a b h body
  unfold sj at hn ih ihs
  rw [Db,Db] at hn
  rcases List.mem_cons.1 hl with rfl|hl
  ·cases ha:b9 a l with
   | true=>rfl
   | false=>rw [hf,ha] at hn;simp at hn;omega
  ·refine ihs ?_ l hl hf
   cases ha:b9 a x with
   | true=>rw [ha,uv h ha] at hn;simpa using hn
   | false =>
    cases hb:b9 b x with
    | true=>rw [ha,hb] at hn;simp at hn;omega
    | false=>rw [ha,hb] at hn;simpa using hn
theorem ma (body:List Ltl):∀ (n:Nat) (bs:List Bool),e9 body (n+1) bs=ik body (e9 body n bs)
 | 0,_=>rfl
 | n+1,bs=>by rw [e9,ma body n];rfl
theorem bIter_rest {body:List Ltl} {bs:List Bool} (hok:∀ l∈body,∀ t∈dq l,okT bs.length t):∀ n,ik body (e9 body n bs)=e9 body n bs∨n+1<=sj body (e9 body n bs)
 | 0=>by
  by_cases h:sj body bs=0
  ·left
   refine yd λl hl hf=>?_
   have:l∈body.filter (b9 bs):=List.mem_filter.2 ⟨hl,hf⟩
   unfold sj at h
   rw [List.eq_nil_of_length_eq_zero h] at this
   simp at this
  ·right;show 1<=sj body bs;omega
 | n+1=>by
  rcases bIter_rest hok n with h|h
  ·left;rw [ma,h,h]
  ·have hle:=tc body (e9 body n bs)
   have hm:=nFire_mono hle body
   by_cases hn:sj body (ik body (e9 body n bs))<=sj body (e9 body n bs)
   ·left
    rw [ma]
    refine yd λl hl hf=>?_
    exact ye (λx hx t ht=>by rw [tf];exact hok x hx t ht) l hl (nFire_same hle hn l hl hf)
   ·right;rw [ma];omega
theorem bRound_rest {body:List Ltl} {bs:List Bool} (hok:∀ l∈body,∀ t∈dq l,okT bs.length t):ik body (e9 body body.length bs)=e9 body body.length bs:=by
 rcases bIter_rest hok body.length with h|h
 ·exact h
 ·have:=List.length_filter_le (b9 (e9 body body.length bs)) body
  unfold sj at h;omega
theorem zj {body:List Ltl} {bs:List Bool} (h:ik body bs=bs):∀ n,e9 body n bs=bs
 | 0=>rfl
 | n+1=>by rw [e9,h,zj h n]
theorem zk (body:List Ltl):∀ (m n:Nat) (bs:List Bool),e9 body (m+n) bs=e9 body n (e9 body m bs)
 | 0,n,bs=>by rw [Nat.zero_add];rfl
 | m+1,n,bs=>by rw [show m+1+n=(m+n)+1 by omega,e9,e9,zk body m n]
theorem rest_is {r:Rul} (hok:∀ l∈r.body,∀ t∈dq l,okT r.vars.toNat t) {m:Nat} (h:ik r.body (e9 r.body m (An r.vars.toNat false))=e9 r.body m (An r.vars.toNat false)):e9 r.body m (An r.vars.toNat false)=u7 r:=by
 have h2:=bRound_rest (body:=r.body) (bs:=An r.vars.toNat false) (by rw [List.length_replicate];exact hok);unfold u7;rw [ma,h2];rcases Nat.le_total m r.body.length with hm|hm
 ·obtain⟨d,hd⟩:=Ft hm;rw [hd,zk,zj h]
 ·obtain⟨d,hd⟩:=Ft hm;rw [hd,zk,zj h2]
variable [Bnds]
def bz (b:Bool):List D:=[.bool b]
def dl (s:ByteArray):List D:=[.str s]
def aw (t:Trm):List D:=[.int .i64 t.var,.int .i64 t.n]
def ay (l:Ltl):List D:=[.int .i64 l.kind,.int .i64 l.op,.int .i64 l.pred,.slice 2 (l.terms.map aw)]
def a6 (r:Rul):List D:=[.int .i64 r.pred,.slice 2 (r.terms.map aw),.int .i64 r.fold,.slice 4 (r.body.map ay),.int .i64 r.vars]
abbrev elTrm (t:Trm):SV:=.agg [.d (.int .i64 t.var),.d (.int .i64 t.n)]
abbrev elLtl (l:Ltl):SV:=.agg [.d (.int .i64 l.kind),.d (.int .i64 l.op),.d (.int .i64 l.pred),.d (.slice 2 (l.terms.map aw))]
abbrev k8 (r:Rul):SV:=.agg [.d (.int .i64 r.pred),.d (.slice 2 (r.terms.map aw)),.d (.int .i64 r.fold),.d (.slice 4 (r.body.map ay)),.d (.int .i64 r.vars)]
abbrev db (p:Prg):SV:=.agg [.d (.slice 1 (p.arity.map ah)),.d (.slice 1 (p.names.map dl)),.d (.slice 5 (p.rules.map a6))]
theorem ez (n a b:Int):Fn 125 [.d (.int .i64 n),.d (.int .i64 a),.d (.int .i64 b)] (λr=>r = .d (.bool (inR n a b))):=by
 refine fqE Tryz.func125 ?_;intro O w0 E0 β0;unfold inR;repeat' (first|refine zr ?_|(refine zm ?_ ?_<;>intro hg)|fail)
 all_goals exact cm rfl (by simp_all<;>omega)
theorem qh (n:Int):Fn 128 [.d (.int .i64 n)] (λr=>r = .d (.bool (numB n))):=by
 refine fqE Tryz.func128 ?_;intro O w0 E0 β0;unfold numB;repeat' (first|refine zr ?_|refine z21 ?_ (hc:=by apply ez)|fail)
 exact cm rfl rfl
theorem op_fn (kind n:Int):Fn 259 [.d (.int .i64 kind),.d (.int .i64 n)] (λr=>r = .d (.bool (opB kind n))):=by
 refine fqE Tryz.func259 ?_;intro O w0 E0 β0;unfold opB;repeat' (first|refine zr ?_|refine z21 ?_ (hc:=by apply ez)|(refine zm ?_ ?_<;>intro hg)|fail)
 all_goals exact cm rfl (by simp_all<;>omega)
theorem terms_fn (l:List Trm) (vars:Int) (h0:0<=vars) (h8:vars<=8):Fn 213 [.d (.slice 2 (l.map aw)),.d (.int .i64 vars)] (λr=>r = .d (.int .i64 (nw vars l))):=by
 refine fqE Tryz.func213 ?_;intro O w0 E0 β0;have la:(l.map aw).length=l.length:=Aa _;unfold nw;repeat' (first|refine zs ?_|fail)
 refine l9 (t:=7) rfl (λhk=>?_);refine ak (ι:=Nat) (λi=>⟨0,[(1,.d (.int .i64 vars)),(4,.d (.int .i64 0)),(7,.d (.slice 2 (l.map aw))),(8,.d (.int .i64 (l.map aw).length)),(9,.d (.int .i64 i))],[]⟩)
  (λi=>i<=l.length/\b8 (vd vars) l=b8 (vd vars) (l.drop i)) (λi=>l.length-i) 0 ⟨Ai _,rfl⟩ (er id) ?_
 rintro i ⟨g1,g2⟩;by_cases hi:i<l.length
 ·rw [gz hi,show vd vars l[i]=if inR l[i].var (-1) (vars-1)=false then 5 else if numB l[i].n=false∨(0<=l[i].var/\l[i].n≠0) then 3 else 0 from rfl] at g2;repeat' (first|refine zr ?_|refine z21 ?_ (hc:=by apply ez)|refine z21 ?_ (hc:=by apply qh)|(refine zm ?_ ?_<;>intro hg)|fail)
  all_goals first
   | exact absurd hg (by omega)
   | exact br rfl (by rw [g2];simp_all<;>omega)
   | exact⟨i+1,⟨by omega,by rw [g2];simp_all<;>omega⟩,er id,by show l.length-(i+1)<l.length-i;omega⟩
 ·rw [jh (by omega)] at g2;repeat' (first|refine zr ?_|refine z21 ?_ (hc:=by apply ez)|refine z21 ?_ (hc:=by apply qh)|(refine zm ?_ ?_<;>intro hg)|fail)
  all_goals first
   | exact absurd hg (by omega)
   | exact br rfl g2.symm
end
section
open Go Go.RowKit
variable [Bnds]
section
variable {Γ : Ctx} {k : Nat} {L : Sl} {H : Hp} {K : ca} {ops : List Oper} {rest : List Oper} {t t' ty : TypeId} {x y : Operand}
theorem uy {d te:TypeId} {pos:String} {af:Array Edge} {g:Option (Nat×Bool)} {es:Nat} (ht:(aj Γ.τ t).sh = .slice te) (hkn:(aj Γ.τ te).sh.known=true) (hes:(aj Γ.τ te).cells=es) (hpos:As 0 es=true) (hz:ek (aj Γ.τ te).zero=true) (hzl:Aw (aj Γ.τ te).zero.length (aj Γ.τ te).cells=true) (hd:As d Γ.n=true) (hw:aq ops L g=some true)
  (hk:DS false Γ ops rest K (k+1) ((d,.row k)::L) ((k,.row te es [])::H)):DS false Γ ops (⟨some d,.buildSlice t 0 #[],ty,pos,af,g⟩::rest) K k L H :=
 dl_op hw ((op_bs0 (jf k) ht hkn hes hpos hz hzl hd).cast (gv k)) hk
theorem ds_eqnil {d te:TypeId} {pos:String} {af:Array Edge} {g:Option (Nat×Bool)} {es:Nat} {xs:List (List D)} (hx:ai L x = .d (.slice es xs)) (hy:ai L y = .nils) (ht:(aj Γ.τ t).sh = .slice te) (hd:As d Γ.n=true) (hw:aq ops L g=some true)
  (h1:xs=[]->DS false Γ ops rest K k ((d,.d (.bool true))::L) H) (h2:DS false Γ ops rest K k ((d,.d (.bool false))::L) H):DS false Γ ops (⟨some d,.binOp .eql t x y t',ty,pos,af,g⟩::rest) K k L H:=by
 refine jk hw λe a w m=>?_
 obtain⟨ao,cap,hv,_,_,hnone⟩:=(evT m hx (og · _ _)).slice_inv;have hvy:a.eval y = .slice none 0 0:=by
  have hok:opOk y:=by
   cases y with
   | const v=>simp only [ai] at hy;unfold cSV at hy;split at hy<;>simp_all [opOk,cOk]
   | _=>trivial
  have:=m.op y hok
  rw [hy] at this;exact this
 have hrun:(execOp a.eval ⟨some d,.binOp .eql t x y t',ty,pos,af,g⟩).run Γ.P w = .ok (.value (.bool ao.isNone)) w:=by
  simp [execOp,hv,hvy,eqGuard,Lib.run_eql_slice_nil w t te ao xs.length cap 0 0 (Ctx.slice ht)]
 unfold Oper.wp;rw [hrun];cases ao with
 | none=>exact⟨k,_,H,e,m.put (s:=.d (.bool true)) (v:=.bool true) (Ac hd) .bool,h1 (hnone rfl)⟩
 | some ad=>exact⟨k,_,H,e,m.put (s:=.d (.bool false)) (v:=.bool false) (Ac hd) .bool,h2⟩
end
variable [Bnds]
attribute [local irreducible] DW DS DL DQ Ev FnOk FnP dp bh DT
theorem owns_int (x:Int):OwnsL (ah x) (ah x):=⟨.inr ⟨rfl,rfl⟩,trivial⟩
theorem owns_txt (x:ByteArray):OwnsL (dl x) (dl x):=⟨.inr ⟨rfl,rfl⟩,trivial⟩
theorem owns_trm (x:Trm):OwnsL (aw x) (aw x):=⟨.inr ⟨rfl,rfl⟩,.inr ⟨rfl,rfl⟩,trivial⟩
theorem uz (l:List (Int)) (hl:l.length<=17592186044416):Fn 67 [.d (.slice 1 (l.map ah))] (λr=>r = .d (.own Bnds.B (.slice 1 (l.map ah)))):=by
 refine fqE Tryz.func67 ?_;intro O w0 E0 β0;have la:(l.map ah).length=l.length:=Aa _;repeat' (first|refine zs ?_|fail)
 refine ds_eqnil rfl rfl rfl rfl rfl (λh=>?_) ?_
 ·have h0:l=[]:=List.map_eq_nil_iff.1 h;subst h0;repeat' (first|refine zs ?_|fail)
  refine au (cz 2 1 rfl) ?_;repeat' (first|refine zr ?_|fail)
  exact⟨.inl rfl,_,rfl,rfl,rfl⟩
 ·repeat' (first|(apply uy;exact rfl;exact rfl;exact rfl;exact rfl;exact rfl;exact rfl;exact rfl;exact rfl)|(first|refine zs ?_|fail))
  refine au (ko (xs:=l.map ah) 2 (e6 owns_int _) rfl rfl rfl) ?_;repeat' (apply dv)
  exact⟨.inl rfl,_,rfl,rfl,rfl⟩
theorem cloneI_fn (l:List (Int)) (hl:l.length<=17592186044416):Fn 67 [.d (.slice 1 (l.map ah))] (λr=>r = .d (.slice 1 (l.map ah))):=(uz l hl).unown
theorem cloneSO_fn (l:List (ByteArray)) (hl:l.length<=8796093022208):Fn 68 [.d (.slice 1 (l.map dl))] (λr=>r = .d (.own Bnds.B (.slice 1 (l.map dl)))):=by
 refine fqE Tryz.func68 ?_;intro O w0 E0 β0;have la:(l.map dl).length=l.length:=Aa _;repeat' (first|refine zs ?_|fail)
 refine ds_eqnil rfl rfl rfl rfl rfl (λh=>?_) ?_
 ·have h0:l=[]:=List.map_eq_nil_iff.1 h;subst h0;repeat' (first|refine zs ?_|fail)
  refine au (cz 2 1 rfl) ?_;repeat' (first|refine zr ?_|fail)
  exact⟨.inl rfl,_,rfl,rfl,rfl⟩
 ·repeat' (first|(apply uy;exact rfl;exact rfl;exact rfl;exact rfl;exact rfl;exact rfl;exact rfl;exact rfl)|(first|refine zs ?_|fail))
  refine au (ko (xs:=l.map dl) 2 (e6 owns_txt _) rfl rfl rfl) ?_;repeat' (apply dv)
  exact⟨.inl rfl,_,rfl,rfl,rfl⟩
theorem cloneTO_fn (l:List (Trm)) (hl:l.length<=8796093022208):Fn 124 [.d (.slice 2 (l.map aw))] (λr=>r = .d (.own Bnds.B (.slice 2 (l.map aw)))):=by
 refine fqE Tryz.func124 ?_;intro O w0 E0 β0;have la:(l.map aw).length=l.length:=Aa _;repeat' (first|refine zs ?_|fail)
 refine ds_eqnil rfl rfl rfl rfl rfl (λh=>?_) ?_
 ·have h0:l=[]:=List.map_eq_nil_iff.1 h;subst h0;repeat' (first|refine zs ?_|fail)
  refine au (cz 2 2 rfl) ?_;repeat' (first|refine zr ?_|fail)
  exact⟨.inl rfl,_,rfl,rfl,rfl⟩
 ·repeat' (first|(apply uy;exact rfl;exact rfl;exact rfl;exact rfl;exact rfl;exact rfl;exact rfl;exact rfl)|(first|refine zs ?_|fail))
  refine au (ko (xs:=l.map aw) 2 (e6 owns_trm _) rfl rfl rfl) ?_;repeat' (apply dv)
  exact⟨.inl rfl,_,rfl,rfl,rfl⟩
variable [Bnds]
def ip (f:Fct):List D:=[.int .i64 f.pred,.own Bnds.B (.slice 1 (f.args.map ah))]
abbrev elFctO (f:Fct):SV:=.agg [.d (.int .i64 f.pred),.d (.own Bnds.B (.slice 1 (f.args.map ah)))]
theorem owns_fct (f:Fct):OwnsL (ip f) (aa f):=⟨.inr ⟨rfl,rfl⟩,.inl rfl,trivial⟩
theorem rsame_fn (a b:Fct):Fn 108 [c9 a,c9 b] (λr=>r = .d (.bool (decide (cu a b=0)))):=by
 refine fqE Tryz.func108 ?_;intro O w0 E0 β0;have w:=jr a b;repeat' (first|refine zr ?_|refine z21 ?_ (hc:=by apply w)|fail)
 exact cm rfl rfl
theorem setAny_fn (a:Fct):Fn 74 [c9 a] (λr=>r = .d (.bool true)):=by
 refine fqE Tryz.func74 ?_;intro O w0 E0 β0;repeat' (first|refine zr ?_|fail)
 exact cm rfl rfl
theorem ownO_fn (a:Fct) (h:a.args.length<=17592186044416):Fn 130 [c9 a] (λr=>r=elFctO a):=by
 refine fqE Tryz.func130 ?_;intro O w0 E0 β0;have w:=uz a.args h;repeat' (first|refine zr ?_|refine z22 ?_ (hc:=by apply w)|fail)
 exact⟨.inl rfl,_,rfl,rfl,rfl⟩
end
end Go.Proofs.YtapciiffpnociadGreat
namespace Go.Proofs
open Go.Shelf
def Tryz.sortFacts_ren:Go.Shelf.Ren:=⟨fun|6=>133|15=>171|14=>176|28=>231|29=>232|20=>233|21=>234|22=>235|23=>236|24=>237|25=>238|26=>239|27=>240|46=>270|47=>266|48=>267|49=>271|50=>272|57=>283|n=>n,fun|22=>27|24=>37|25=>103|3=>3|39=>223|0=>0|53=>267|55=>269|4=>4|46=>261|45=>260|50=>178|5=>5|9=>9|66=>295|70=>299|76=>310|77=>285|n=>n,fun|n=>n⟩
theorem Tryz.sortFacts:Go.Proofs.SlLaysF0.n6 Tryz.prog Tryz.sortFacts_ren:={
 mixed:=by kernel_rfl
 f6:=⟨Tryz.f133.name,by decide,Tryz.func133.trans (congrArg some (by kernel_rfl))⟩
 f14:=⟨Tryz.f176.name,by decide,Tryz.func176.trans (congrArg some (by kernel_rfl))⟩
 f15:=Tryz.func171.trans (congrArg some (by kernel_rfl))
 f20:=⟨Tryz.f233.name,by decide,Tryz.func233.trans (congrArg some (by kernel_rfl))⟩
 f21:=⟨Tryz.f234.name,by decide,Tryz.func234.trans (congrArg some (by kernel_rfl))⟩
 f22:=⟨Tryz.f235.name,by decide,Tryz.func235.trans (congrArg some (by kernel_rfl))⟩
 f23:=⟨Tryz.f236.name,by decide,Tryz.func236.trans (congrArg some (by kernel_rfl))⟩
 f24:=⟨Tryz.f237.name,by decide,Tryz.func237.trans (congrArg some (by kernel_rfl))⟩
 f25:=⟨Tryz.f238.name,by decide,Tryz.func238.trans (congrArg some (by kernel_rfl))⟩
 f26:=⟨Tryz.f239.name,by decide,Tryz.func239.trans (congrArg some (by kernel_rfl))⟩
 f27:=⟨Tryz.f240.name,by decide,Tryz.func240.trans (congrArg some (by kernel_rfl))⟩
 f28:=Tryz.func231.trans (congrArg some (by kernel_rfl))
 f29:=Tryz.func232.trans (congrArg some (by kernel_rfl))
 f46:=⟨Tryz.f270.name,by decide,Tryz.func270.trans (congrArg some (by kernel_rfl))⟩
 f47:=Tryz.func266.trans (congrArg some (by kernel_rfl))
 f48:=Tryz.func267.trans (congrArg some (by kernel_rfl))
 f49:=⟨Tryz.f271.name,by decide,Tryz.func271.trans (congrArg some (by kernel_rfl))⟩
 f50:=⟨Tryz.f272.name,by decide,Tryz.func272.trans (congrArg some (by kernel_rfl))⟩
 f57:=⟨Tryz.f283.name,by decide,Tryz.func283.trans (congrArg some (by kernel_rfl))⟩
 t0:=Tryz.underlying0
 a0:=Tryz.isAgg0
 z0:=Tryz.sizeOf0
 v0:=Tryz.zeroValue0
 t3:=Tryz.underlying3
 a3:=Tryz.isAgg3
 z3:=Tryz.sizeOf3
 v3:=Tryz.zeroValue3
 t4:=Tryz.underlying4
 a4:=Tryz.isAgg4
 z4:=Tryz.sizeOf4
 v4:=Tryz.zeroValue4
 t5:=Tryz.underlying5
 a5:=Tryz.isAgg5
 z5:=Tryz.sizeOf5
 v5:=Tryz.zeroValue5
 t9:=Tryz.underlying9
 a9:=Tryz.isAgg9
 z9:=Tryz.sizeOf9
 v9:=Tryz.zeroValue9
 t22:=Tryz.underlying27
 a22:=Tryz.isAgg27
 z22:=Tryz.sizeOf27
 v22:=Tryz.zeroValue27
 t25:=Tryz.underlying103
 a25:=Tryz.isAgg103
 z25:=Tryz.sizeOf103
 v25:=Tryz.zeroValue103
 t39:=Tryz.underlying223
 a39:=Tryz.isAgg223
 z39:=Tryz.sizeOf223
 v39:=Tryz.zeroValue223
 t45:=Tryz.underlying260
 a45:=Tryz.isAgg260
 z45:=Tryz.sizeOf260
 v45:=Tryz.zeroValue260
 t46:=Tryz.underlying261
 a46:=Tryz.isAgg261
 z46:=Tryz.sizeOf261
 v46:=Tryz.zeroValue261
 t50:=Tryz.underlying178
 a50:=Tryz.isAgg178
 z50:=Tryz.sizeOf178
 v50:=Tryz.zeroValue178
 t53:=Tryz.underlying267
 a53:=Tryz.isAgg267
 z53:=Tryz.sizeOf267
 v53:=Tryz.zeroValue267
 t55:=Tryz.underlying269
 a55:=Tryz.isAgg269
 z55:=Tryz.sizeOf269
 v55:=Tryz.zeroValue269
 t66:=Tryz.underlying295
 a66:=Tryz.isAgg295
 z66:=Tryz.sizeOf295
 v66:=Tryz.zeroValue295
 t70:=Tryz.underlying299
 a70:=Tryz.isAgg299
 z70:=Tryz.sizeOf299
 v70:=Tryz.zeroValue299
 t76:=Tryz.underlying310
 a76:=Tryz.isAgg310
 z76:=Tryz.sizeOf310
 v76:=Tryz.zeroValue310
 t77:=Tryz.underlying285
 a77:=Tryz.isAgg285
 z77:=Tryz.sizeOf285
 v77:=Tryz.zeroValue285 }
def Tryz.sortWays_ren:Go.Shelf.Ren:=⟨fun|6=>117|15=>171|14=>170|28=>231|29=>232|20=>223|21=>224|22=>225|23=>226|24=>227|25=>228|26=>229|27=>230|46=>265|47=>266|48=>267|49=>268|50=>269|57=>282|n=>n,fun|22=>44|24=>22|25=>162|3=>3|39=>223|0=>0|53=>267|55=>269|4=>4|46=>261|45=>260|50=>178|5=>5|9=>9|66=>295|70=>299|76=>310|77=>285|n=>n,fun|n=>n⟩
theorem Tryz.sortWays:Go.Proofs.SlLaysF.n6 Tryz.prog Tryz.sortWays_ren:={
 mixed:=by kernel_rfl
 f6:=⟨Tryz.f117.name,by decide,Tryz.func117.trans (congrArg some (by kernel_rfl))⟩
 f14:=⟨Tryz.f170.name,by decide,Tryz.func170.trans (congrArg some (by kernel_rfl))⟩
 f15:=Tryz.func171.trans (congrArg some (by kernel_rfl))
 f20:=⟨Tryz.f223.name,by decide,Tryz.func223.trans (congrArg some (by kernel_rfl))⟩
 f21:=⟨Tryz.f224.name,by decide,Tryz.func224.trans (congrArg some (by kernel_rfl))⟩
 f22:=⟨Tryz.f225.name,by decide,Tryz.func225.trans (congrArg some (by kernel_rfl))⟩
 f23:=⟨Tryz.f226.name,by decide,Tryz.func226.trans (congrArg some (by kernel_rfl))⟩
 f24:=⟨Tryz.f227.name,by decide,Tryz.func227.trans (congrArg some (by kernel_rfl))⟩
 f25:=⟨Tryz.f228.name,by decide,Tryz.func228.trans (congrArg some (by kernel_rfl))⟩
 f26:=⟨Tryz.f229.name,by decide,Tryz.func229.trans (congrArg some (by kernel_rfl))⟩
 f27:=⟨Tryz.f230.name,by decide,Tryz.func230.trans (congrArg some (by kernel_rfl))⟩
 f28:=Tryz.func231.trans (congrArg some (by kernel_rfl))
 f29:=Tryz.func232.trans (congrArg some (by kernel_rfl))
 f46:=⟨Tryz.f265.name,by decide,Tryz.func265.trans (congrArg some (by kernel_rfl))⟩
 f47:=Tryz.func266.trans (congrArg some (by kernel_rfl))
 f48:=Tryz.func267.trans (congrArg some (by kernel_rfl))
 f49:=⟨Tryz.f268.name,by decide,Tryz.func268.trans (congrArg some (by kernel_rfl))⟩
 f50:=⟨Tryz.f269.name,by decide,Tryz.func269.trans (congrArg some (by kernel_rfl))⟩
 f57:=⟨Tryz.f282.name,by decide,Tryz.func282.trans (congrArg some (by kernel_rfl))⟩
 t0:=Tryz.underlying0
 a0:=Tryz.isAgg0
 z0:=Tryz.sizeOf0
 v0:=Tryz.zeroValue0
 t3:=Tryz.underlying3
 a3:=Tryz.isAgg3
 z3:=Tryz.sizeOf3
 v3:=Tryz.zeroValue3
 t4:=Tryz.underlying4
 a4:=Tryz.isAgg4
 z4:=Tryz.sizeOf4
 v4:=Tryz.zeroValue4
 t5:=Tryz.underlying5
 a5:=Tryz.isAgg5
 z5:=Tryz.sizeOf5
 v5:=Tryz.zeroValue5
 t9:=Tryz.underlying9
 a9:=Tryz.isAgg9
 z9:=Tryz.sizeOf9
 v9:=Tryz.zeroValue9
 t22:=Tryz.underlying44
 a22:=Tryz.isAgg44
 z22:=Tryz.sizeOf44
 v22:=Tryz.zeroValue44
 a24:=Tryz.isAgg22
 z24:=Tryz.sizeOf22
 t25:=Tryz.underlying162
 a25:=Tryz.isAgg162
 z25:=Tryz.sizeOf162
 v25:=Tryz.zeroValue162
 t39:=Tryz.underlying223
 a39:=Tryz.isAgg223
 z39:=Tryz.sizeOf223
 v39:=Tryz.zeroValue223
 t45:=Tryz.underlying260
 a45:=Tryz.isAgg260
 z45:=Tryz.sizeOf260
 v45:=Tryz.zeroValue260
 t46:=Tryz.underlying261
 a46:=Tryz.isAgg261
 z46:=Tryz.sizeOf261
 v46:=Tryz.zeroValue261
 t50:=Tryz.underlying178
 a50:=Tryz.isAgg178
 z50:=Tryz.sizeOf178
 v50:=Tryz.zeroValue178
 t53:=Tryz.underlying267
 a53:=Tryz.isAgg267
 z53:=Tryz.sizeOf267
 v53:=Tryz.zeroValue267
 t55:=Tryz.underlying269
 a55:=Tryz.isAgg269
 z55:=Tryz.sizeOf269
 v55:=Tryz.zeroValue269
 t66:=Tryz.underlying295
 a66:=Tryz.isAgg295
 z66:=Tryz.sizeOf295
 v66:=Tryz.zeroValue295
 t70:=Tryz.underlying299
 a70:=Tryz.isAgg299
 z70:=Tryz.sizeOf299
 v70:=Tryz.zeroValue299
 t76:=Tryz.underlying310
 a76:=Tryz.isAgg310
 z76:=Tryz.sizeOf310
 v76:=Tryz.zeroValue310
 t77:=Tryz.underlying285
 a77:=Tryz.isAgg285
 z77:=Tryz.sizeOf285
 v77:=Tryz.zeroValue285 }
end Go.Proofs
