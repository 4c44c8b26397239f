/- Several texts in one: DagD GxIns DagE. Condition: none. -/
import Derived.Test.YtapciiffpnociadGreatT13
import Derived.Test.YtapciiffpnociadGreatT09
import Derived.Laws.LoneSync
import Derived.Lib.AppendZerosOnto
set_option maxHeartbeats 8000000
open Array renaming getElem?_toList→Br,length_toList→A2,toList_append→Cd
open Int renaming le_refl→Dn
open List renaming append_assoc→Cf,drop_of_length_le→As,eraseIdx_eq_take_drop_succ→D8,getElem?_append_left→Bm,getElem?_append_right→A4,getElem?_drop→Fq,getElem?_take→Bi,getElem_append_left→C2,getElem_append_right→Cc,getElem_replicate→Eb,getElem_take→Dp,length→Bv,length_append→Af,length_drop→A7,length_map→Aa,length_replicate→Cb,length_singleton→Au,length_take→Aq,map_append→Ar,map_cons→A3,map_drop→G3,map_nil→Db,map_take→G2,map_toArray→D1,mem_append_left→Ax,mem_of_mem_drop→B2,mem_of_mem_take→Bq,replicate→Ap,size_toArray→Hi,take_append_of_le_length→Bl,take_of_length_le→Ai,take_take→H5
open Nat renaming add_mul→Bo,blt→Av,le_of_ble_eq_true→Ab,le_refl→Ah,min→Gw,min_eq_left→Eo,min_eq_right→Hq,mul_le_mul_right→Be,zero_add→Dk,zero_le→Ak,zero_mul→Ey
open Option renaming map_none→En,map_some→Bz
namespace Go.Proofs.YtapciiffpnociadGreat
section
open Go Go.RowKit
def rplD (r:Rpl):List D:=[.slice 5 (r.has.map aa),.slice 5 (r.waits.map aa)]
abbrev jf (r:Rpl):SV:=.agg [.d (.slice 5 (r.has.map aa)),.d (.slice 5 (r.waits.map aa))]
def dp (r:Rpl):Int :=
 if 200<r.has.length+r.waits.length then 2
 else if bm db (r.has++r.waits)≠0 then bm db (r.has++r.waits)
 else if dg (λa b:Upd=>bw a.id b.id) r.has=false∨dg (λa b:Upd=>bw a.id b.id) r.waits=false∨(r.waits.any λu=>hasU r.has u.id)=true then 4
 else if (r.has.any λu=>!readyU r.has u)=true then 5
 else if r5 r.has=true∨(r.waits.any λu=>readyU r.has u)=true then 4
 else 0
theorem rv {α:Type} {f:α->Int}:∀ {l:List α},bm f l=0->∀ x∈l,f x=0
 | x::l,h,y,hy=>by
  unfold bm at h
  split at h
  ·rename_i hx;exact absurd h hx
  ·rename_i hx
   rcases List.mem_cons.1 hy with rfl|hy
   ·simpa using hx
   ·exact rv h y hy
theorem pu {u:Upd} (h:db u=0):u.parents.length<=6/\u.says.length<=6/\u.takes.length<=6:=by
 unfold db at h;split at h;· cases h
 split at h;· cases h
 rename_i h1;omega
attribute [local irreducible] DW DS DL DQ Ev FnOk FnP ef bt DT
theorem risesU_fn {f:FuncId} (o:Upd->Upd->Int) (l:List (Upd)) (hp:∀ x y,Fn f [gc x,gc y] (λr=>r = .d (.int .i64 (o x y)))):Fn 178 [.d (.slice 5 (l.map aa)),.fn f []] (λr=>r = .d (.bool (dg o l))):=by
 refine fqE Tryz.func178 ?_;intro O w0 E0 β0;refine cp (t:=0) rfl λhb=>?_
 repeat' (first|refine zs ?_|fail)
 refine ag (ι:=Nat) (λi=>⟨0,[(0,.d (.slice 5 (l.map aa))),(1,.fn f []),(5,.d (.int .i64 ((i:Int)+1)))],[]⟩)
  (λi=>i<=l.length/\dg o l=dg o (l.drop i)) (λi=>l.length-i) 0 ⟨Ak _,rfl⟩
  (er id) ?_
 rintro i ⟨h1,h2⟩;repeat' (first|refine zs ?_|fail)
 refine bf rfl (λh=>?_) (λh=>?_)
 ·have hi:i+1<l.length:=by have:=h;rw [Aa] at this;omega
  have hpx:=hp (l[i]'(by omega)) (l[i+1]'hi);repeat' (first|refine zs ?_|(apply jd;exact rfl;exact rfl;exact rfl;exact rfl;apply hpx;exact rfl;(exact rfl);exact rfl;exact rfl;exact⟨_,rfl⟩;rintro _ rfl))
  refine bf rfl (λhb=>?_) (λhb=>?_)
  ·repeat' (first|refine zr ?_|fail)
   exact a7 rfl (by rw [h2,sk hi (by omega)])
  ·repeat' (first|refine zs ?_|fail)
   exact⟨i+1,⟨by omega,by rw [h2,ww hi (by omega)]⟩,er id,by omega⟩
 ·repeat' (first|refine zr ?_|fail)
  exact a7 rfl (by rw [h2,sj (by have:=h;rw [Aa] at this;omega)])
theorem growU_fn (n:Nat) (hn:n<=1000000):FnOk false Tryz.prog tab b9 241 [.nils,.d (.int .i64 n)] 0 0 [] (λ_ r H=>r = .row 0/\H=[(0,.row 82 5 [])]):=by
 refine frE Tryz.func241 ?_;intro O w0 E0 β0;by_cases h0:n=0
 ·subst h0;repeat' (first|refine zs ?_|(exfalso;omega))
  refine je (ek rfl rfl) rfl rfl ?_;repeat' (first|refine zs ?_|(exfalso;omega))
  refine ak (cd (t:=4) 82 5 rfl) ?_;repeat' (apply c9)
  exact⟨.inl rfl,_,rfl,kp id 1 (.row 0) ([(0,.row 82 5 [])]) ⟨rfl,rfl⟩⟩
 ·repeat' (first|refine zs ?_|(exfalso;omega))
  refine je (ek rfl rfl) rfl rfl ?_;repeat' (first|refine zr ?_|(refine zm ?_ ?_<;>intro hg)|(exfalso;omega))
  refine je (ek rfl rfl) rfl rfl ?_;repeat' refine z0 ?_
  all_goals try (exfalso;omega)
  refine ds_apmk (n:=n) (es:=5) (te:=82) [.int .i64 0,.int .i64 0,.slice 2 [],.slice 2 [],.slice 2 []] rfl rfl (by omega) rfl rfl rfl rfl ⟨.inl rfl,.inl rfl,.inr ⟨rfl,2,rfl⟩,.inr ⟨rfl,2,rfl⟩,.inr ⟨rfl,2,rfl⟩,trivial⟩ rfl rfl (by omega) (by omega) ?_ (by unfold maxLen;omega) rfl rfl ?_
  ·show n*88<=_;omega
  repeat' (first|refine zs ?_|(exfalso;omega))
  refine ak (yy (n:=0) 4 rfl rfl (Ak _) rfl) ?_;repeat' (apply c9)
  exact⟨.inl rfl,_,rfl,kp (λj=>match j with|0=>1|j=>j) 1 (.row 0) ([(0,.row 82 5 [])]) ⟨rfl,rfl⟩⟩
theorem concatU_fn (ls:List (List (Upd))) (h:(ls.map Bv).sum<=1000000) (h2:ls.length<=1000000):Fn 177 [.d (.slice 1 (ls.map λl=>[.slice 5 (l.map aa)]))] (λr=>r = .d (.slice 5 (ls.flatten.map aa))):=by
 refine fqE Tryz.func177 ?_;intro O w0 E0 β0;have ll:(ls.map λl=>[D.slice 5 (l.map aa)]).length=ls.length:=Aa _;repeat' (first|refine zs ?_|fail)
 refine ag (ι:=Nat) (λi=>⟨0,[(0,.d (.slice 1 (ls.map λl=>[.slice 5 (l.map aa)]))),(3,.d (.int .i64 (((ls.take i).map Bv).sum:Nat))),(9,.d (.slice 1 (ls.map λl=>[.slice 5 (l.map aa)]))),(10,.d (.int .i64 ls.length)),(11,.d (.int .i64 i))],[]⟩)
  (λi=>i<=ls.length) (λi=>ls.length-i) 0 (Ak _) (ai id ⟨rfl,rfl,rfl,by rw [<- ll];rfl,rfl,trivial⟩ trivial rfl rfl rfl rfl rfl rfl) ?_
 intro i g1;by_cases hi:i<ls.length
 ·have h3:=px hi;have h4:=yi ls (i+1);have h5:(ls[i].map aa).length=ls[i].length:=Aa _;repeat' (first|refine zs ?_|(refine zm ?_ ?_<;>intro hg)|(exfalso;omega))
  exact⟨i+1,by omega,ai id ⟨rfl,congrArg (λz=>SV.d (.int .i64 z)) (by rw [h3,h5];omega),rfl,rfl,rfl,trivial⟩ trivial rfl rfl rfl rfl rfl rfl,by omega⟩
 ·rw [Ai (by omega)];repeat' (first|refine zs ?_|(refine zm ?_ ?_<;>intro hg)|(exfalso;omega))
  refine bg id (growU_fn (ls.map Bv).sum h) rfl rfl rfl rfl trivial rfl rfl rfl rfl rfl rfl ?_ ?_
  ·rintro k2 r H2 ⟨rfl,rfl⟩;exact⟨rfl,rfl⟩
  rintro k2 r H2 ⟨rfl,rfl⟩;change DS _ _ _ _ _ _ _ _;repeat' (first|refine zs ?_|fail)
  refine ag (ι:=Nat) (λi=>⟨1,[(6,.row 0),(25,.d (.slice 1 (ls.map λl=>[.slice 5 (l.map aa)]))),(26,.d (.int .i64 ls.length)),(27,.d (.int .i64 i))],[(0,.row 82 5 ((ls.take i).flatten.map aa))]⟩)
   (λi=>i<=ls.length) (λi=>ls.length-i) 0 (Ak _) (ai id ⟨rfl,rfl,by rw [<- ll];rfl,rfl,trivial⟩ ⟨rfl,trivial⟩ rfl rfl rfl rfl rfl rfl) ?_
  clear hi g1;intro i g1;by_cases hi:i<ls.length
  ·have h3:=px hi;have h4:=yi ls (i+1);have h5:(ls[i].map aa).length=ls[i].length:=Aa _;have h6:((ls.take i).flatten.map aa).length=((ls.take i).map Bv).sum:=by rw [Aa,List.length_flatten]
   have h7:(ls.take (i+1)).flatten=(ls.take i).flatten++ls[i]:=by rw [List.take_succ_eq_append_getElem hi,List.flatten_append];simp
   repeat' (first|refine zr ?_|(refine zm ?_ ?_<;>intro hg)|(exfalso;omega))
   exact⟨i+1,by omega,ai (λ_=>1) ⟨rfl,rfl,rfl,rfl,trivial⟩ ⟨by rw [h7,Ar];rfl,trivial⟩ rfl rfl rfl rfl rfl rfl,by omega⟩
  ·rw [Ai (by omega)];repeat' (first|refine zs ?_|(refine zm ?_ ?_<;>intro hg)|(exfalso;omega))
   refine ak (bh 2 rfl rfl rfl) ?_;repeat' (apply c9)
   exact⟨.inl rfl,_,rfl,rfl,rfl⟩
theorem check1_fn (r:Rpl) (u:Upd) (hl:r.has.length<=1000000) (hs:StrU r.has):Fn 181 ([gc u]++[.pd (rplD r)]) (λres=>res = .d (.bool (hasU r.has u.id))):=by
 refine fqE Tryz.func181 ?_;intro O w0 E0 β0;have w:=zb r.has u.id hl hs;repeat' (first|refine zr ?_|refine z21 ?_ (hc:=by apply w)|fail)
 exact a7 rfl rfl
theorem check2_fn (r:Rpl) (u:Upd) (hl:r.has.length<=1000000) (hs:StrU r.has) (h:u.parents.length+u.takes.length<=1000000):Fn 182 ([gc u]++[.pd (rplD r)]) (λres=>res = .d (.bool (!readyU r.has u))):=by
 refine fqE Tryz.func182 ?_;intro O w0 E0 β0;have w:=dready_fn r.has u hl hs h;repeat' (first|refine zr ?_|refine z21 ?_ (hc:=by apply w)|fail)
 exact a7 rfl rfl
theorem check3_fn (r:Rpl) (u:Upd) (hl:r.has.length<=1000000) (hs:StrU r.has) (h:u.parents.length+u.takes.length<=1000000):Fn 185 ([gc u]++[.pd (rplD r)]) (λres=>res = .d (.bool (readyU r.has u))):=by
 refine fqE Tryz.func185 ?_;intro O w0 E0 β0;have w:=dready_fn r.has u hl hs h;repeat' (first|refine zr ?_|refine z21 ?_ (hc:=by apply w)|fail)
 exact a7 rfl rfl
theorem dcheck_fn (r:Rpl) (hh:r.has.length<=4398046511104) (hw:r.waits.length<=4398046511104):Fn 136 [jf r] (λres=>res = .d (.int .i64 (dp r))):=by
 have lh:(r.has.map aa).length=r.has.length:=Aa _;have lw:(r.waits.map aa).length=r.waits.length:=Aa _;refine fqE Tryz.func136 ?_;intro O w0 E0 β0;by_cases h1:200<r.has.length+r.waits.length
 ·have hc:dp r=2:=if_pos h1;rw [hc];repeat' (first|refine zr ?_|(refine zm ?_ ?_<;>intro hg)|(exfalso;omega))
  all_goals exact a6 rfl rfl
 ·have hc1:Fn 177 [.d (.slice 1 [[.slice 5 (r.has.map aa)],[.slice 5 (r.waits.map aa)]])] (λres=>res = .d (.slice 5 ((r.has++r.waits).map aa))):=by
   have h:=concatU_fn [r.has,r.waits] (by simp;omega) (by simp);rw [show [r.has,r.waits].flatten=r.has++r.waits by simp] at h;exact h
  have hc:dp r=if bm db (r.has++r.waits)≠0 then bm db (r.has++r.waits)
    else if dg (λa b:Upd=>bw a.id b.id) r.has=false∨dg (λa b:Upd=>bw a.id b.id) r.waits=false∨(r.waits.any λu=>hasU r.has u.id)=true then 4
    else if (r.has.any λu=>!readyU r.has u)=true then 5
    else if r5 r.has=true∨(r.waits.any λu=>readyU r.has u)=true then 4
    else 0:=if_neg h1
  rw [hc];clear hc;obtain⟨all,hall⟩:∃ all,all=r.has++r.waits:=⟨_,rfl⟩;have hal:all.length<=200:=by rw [hall,Af];omega
  have la:(all.map aa).length=all.length:=Aa _;rw [<- hall] at hc1 ⊢;repeat' (first|refine zr ?_|refine z21 ?_ (hc:=by apply hc1)|(refine zm ?_ ?_<;>intro hg)|(exfalso;omega))
  refine ag (ι:=Nat) (λi=>⟨1,[(1,.loc 0 0),(2,.d (.int .i64 0)),(19,.d (.slice 5 (all.map aa))),(20,.d (.int .i64 all.length)),(21,.d (.int .i64 i))],[(0,.blk 72 [.d (.slice 5 (r.has.map aa)),.d (.slice 5 (r.waits.map aa))])]⟩)
   (λi=>i<=all.length/\bm db all=bm db (all.drop i)) (λi=>all.length-i) 0 ⟨Ak _,rfl⟩ (ai id ⟨rfl,rfl,rfl,by rw [<- la];rfl,rfl,trivial⟩ ⟨rfl,trivial⟩ rfl rfl rfl rfl rfl rfl) ?_
  rintro i ⟨g1,g2⟩;dsimp only at g1 g2 ⊢;by_cases hi:i<all.length
  ·rw [ga hi] at g2;have w2:=checkU_fn all[i];by_cases h3:db all[i]≠0
   ·rw [if_pos h3] at g2;rw [g2,if_pos h3];repeat' (first|refine zr ?_|refine z21 ?_ (hc:=by apply w2)|(refine zm ?_ ?_<;>intro hg)|(exfalso;omega))
    all_goals exact a6 rfl rfl
   ·rw [if_neg h3] at g2;repeat' (first|refine zr ?_|refine z21 ?_ (hc:=by apply w2)|(refine zm ?_ ?_<;>intro hg)|(exfalso;omega))
    exact⟨i+1,⟨hi,g2⟩,er id,by omega⟩
  ·rw [ir (by omega)] at g2;rw [g2,if_neg (by simp)];have hok:=rv g2;have hsm:∀ u∈all,u.parents.length+u.takes.length<=1000000:=λu hu=>by have:=pu (hok u hu);omega
   clear g1 g2 hc1;repeat' ((fail_if_success (apply eo 10));(first|refine zs ?_|(refine zm ?_ ?_<;>intro hg)|fail))
   all_goals try (exfalso;omega)
   clear hi;have hlh:r.has.length<=1000000:=by omega
   refine ak (io (ds:=rplD r) 1 0 rfl rfl) ?_;refine ak (ai (k':=0) (L':=[(1,.pd (rplD r)),(2,.d (.int .i64 0))]) (H':=[]) id ⟨rfl,rfl,trivial⟩ trivial rfl rfl rfl rfl rfl rfl) ?_;have w1:=risesU_fn (λa b:Upd=>bw a.id b.id) r.has dorder_fn;have w2:=risesU_fn (λa b:Upd=>bw a.id b.id) r.waits dorder_fn;cases hr1:dg (λa b:Upd=>bw a.id b.id) r.has with
   | false =>
    rw [hr1] at w1;rw [if_pos (.inl rfl)];repeat' (first|refine zr ?_|refine z21 ?_ (hc:=by apply w1)|(exfalso;omega))
    all_goals exact a6 rfl rfl
   | true =>
    rw [hr1] at w1;have hs:=si hr1;cases hr2:dg (λa b:Upd=>bw a.id b.id) r.waits with
    | false =>
     rw [hr2] at w2;rw [if_pos (.inr (.inl rfl))];repeat' (first|refine zr ?_|refine z21 ?_ (hc:=by apply w1)|refine z21 ?_ (hc:=by apply w2)|(exfalso;omega))
     all_goals exact a6 rfl rfl
    | true =>
     rw [hr2] at w2;have w3:=pt (caps:=[.pd (rplD r)]) (λu=>hasU r.has u.id) r.waits rfl (λu _=>check1_fn r u hlh hs);cases hr3:r.waits.any λu=>hasU r.has u.id with
     | true =>
      rw [hr3] at w3;rw [if_pos (.inr (.inr rfl))];repeat' (first|refine zr ?_|refine z21 ?_ (hc:=by apply w1)|refine z21 ?_ (hc:=by apply w2)|refine z21 ?_ (hc:=by apply w3)|(exfalso;omega))
      all_goals exact a6 rfl rfl
     | false =>
      rw [hr3] at w3;rw [if_neg (by simp)];have w4:=pt (caps:=[.pd (rplD r)]) (λu=>!readyU r.has u) r.has rfl (λu hu=>check2_fn r u hlh hs (hsm u (by rw [hall];exact Ax _ hu)));cases hr4:r.has.any λu=>!readyU r.has u with
      | true =>
       rw [hr4] at w4;rw [if_pos rfl];repeat' (first|refine zr ?_|refine z21 ?_ (hc:=by apply w1)|refine z21 ?_ (hc:=by apply w2)|refine z21 ?_ (hc:=by apply w3)|refine z21 ?_ (hc:=by apply w4)|(exfalso;omega))
       all_goals exact a6 rfl rfl
      | false =>
       rw [hr4] at w4;rw [if_neg (by simp)];have w5:=round_fn r.has hlh hs (λu hu=>hsm u (by rw [hall];exact Ax _ hu));have w6:=pt (caps:=[.pd (rplD r)]) (λu=>readyU r.has u) r.waits rfl (λu hu=>check3_fn r u hlh hs (hsm u (by rw [hall];exact List.mem_append_right _ hu)));cases hr5:r5 r.has with
       | true =>
        rw [hr5] at w5;rw [if_pos (.inl rfl)];repeat' (first|refine zr ?_|refine z21 ?_ (hc:=by apply w1)|refine z21 ?_ (hc:=by apply w2)|refine z21 ?_ (hc:=by apply w3)|refine z21 ?_ (hc:=by apply w4)|refine z21 ?_ (hc:=by apply w5)|(exfalso;omega))
        all_goals exact a6 rfl rfl
       | false =>
        rw [hr5] at w5;cases hr6:r.waits.any λu=>readyU r.has u with
        | true =>
         rw [hr6] at w6;rw [if_pos (.inr rfl)];repeat' (first|refine zr ?_|refine z21 ?_ (hc:=by apply w1)|refine z21 ?_ (hc:=by apply w2)|refine z21 ?_ (hc:=by apply w3)|refine z21 ?_ (hc:=by apply w4)|refine z21 ?_ (hc:=by apply w5)|refine z21 ?_ (hc:=by apply w6)|(exfalso;omega))
         all_goals exact a6 rfl rfl
        | false =>
         rw [hr6] at w6;rw [if_neg (by simp)];repeat' (first|refine zr ?_|refine z21 ?_ (hc:=by apply w1)|refine z21 ?_ (hc:=by apply w2)|refine z21 ?_ (hc:=by apply w3)|refine z21 ?_ (hc:=by apply w4)|refine z21 ?_ (hc:=by apply w5)|refine z21 ?_ (hc:=by apply w6)|(exfalso;omega))
         all_goals exact a6 rfl rfl
end
section
open Go Go.RowKit
theorem zp {P:Program} (w:World) (dT sT ty elem:TypeId) (g o dLen dCap:Nat) (a:Addr) (sLen sCap:Nat) (cur:Array Value) (t:TypeId) (cs:List Value) (inf:TypeInfo)
  (hu:P.underlying dT=some (.slice elem)) (hi:P.info? elem=some inf) (hg:w.heap[g]?=some (.cells cur t (0,0))) (hn:cs.length=Gw sLen dLen*inf.size)
  (hsrc:∀ j v,cs[j]?=some v->w.cell? (a.add j)=some v) (hfit:o+cs.length<=cur.size) (h1:∀ v∈cs,v.oneCell'=true) :
  (Builtin.copy_ #[dT,sT] ty #[.slice (some ⟨g,o,none⟩) dLen dCap,.slice (some a) sLen sCap]).run P w =
   .ok (goInt (Gw sLen dLen)) (w.setRow g (cur.toList.take o++cs++cur.toList.drop (o+cs.length)).toArray):=by
 have hf:=run_firstCells_some (P:=P) w inf.size (Gw sLen dLen) a sLen sCap cs hn hsrc;have hst:=run_storeCells_at P g o t cs 0 cur w hg (by simpa using hfit) h1;simp only [Nat.add_zero] at hst;simp [Builtin.copy_,run_underlying hu,Builtin.lenOf,sizeOf,typeInfo,hi,hf,hst]
theorem frozen_own {w:World} {g:Nat} {cur:Array Value} {t:TypeId} (hg:w.heap[g]?=some (.cells cur t (0,0))) (o:Nat) (s:Option Nat):w.frozen? ⟨g,o,s⟩=false:=by
 unfold World.frozen?;rw [hg];cases s<;>simp
theorem run_overlaps_own {P:Program} (w:World) (tS tR e:TypeId) (ht:P.underlying tS=some (.slice e)) (size:Nat) (hz:∀ w,(Go.sizeOf e).run P w = .ok size w)
  (a b:Addr) (la ca lb cb:Nat) (hne:a.block≠b.block) (tA tB:TypeId) (kA kB:Nat) (hsa:w.shape? a.block=some (tA,kA)) (hsb:w.shape? b.block=some (tB,kB)) (hkA:kA≠0)
  (hfb:w.frozen? b=false) (hfe:w.frozen? { block:=b.block,off:=kB }=false) :
  (Extern.SlicesOverlaps.overlaps #[tS,tS] #[tR] #[.slice (some a) la ca,.slice (some b) lb cb]).run P w = .ok (.bool false) w:=by
 have hnb:(a.block != b.block)=true:=by simpa using hne
 have hnb':(a.block == b.block)=false:=by simpa using hne
 change Sem.run P (α:=Value) (do
  let some t := (#[tS, tS] : Array TypeId)[0]? | stuck "slices.overlaps: no parameter types"
  let .slice elem <- underlying t | stuck "slices.overlaps: slice type expected"
  let size <- sizeOf elem
  match (some a:Option Addr),(some b:Option Addr) with
  | some a,some b =>
   if la=0∨lb=0∨size=0 then pure (Value.bool false)
   else if a.block != b.block && (<- frozen a) && (<- frozen b) then unsupported .addressObserved
   else do
    if a.block != b.block then do
     noView a;noView b
     if <- mayBeOne a b then return Value.bool ((<- choose (.extern "sameAddr.stringBytes" 2)) == 1)
    pure (Value.bool (a.block == b.block && a.off<b.off+lb*size && b.off<a.off+la*size))
  | _,_=>pure (Value.bool false)) w=_
 by_cases h0:la=0∨lb=0∨size=0
 ·simp [run_underlying ht,hz,h0]
 ·cases kA with
  | zero=>exact absurd rfl hkA
  | succ kA =>
   cases hfa:w.frozen? a<;>cases hfa2:w.frozen? { block:=a.block,off:=kA+1 } <;>
    simp [run_underlying ht,hz,h0,hnb,hnb',frozen,noView,viewAt,mayBeOne,stringish,shape,Sem.run,hsa,hsb,hfb,hfe,hfa,hfa2]
section
variable {Γ : Ctx} {kk : Nat -> Prop} {L : Sl} {H : Hp} {a : Act} {w : World} {e : Env}
theorem row_at (m:Models Γ kk L H e a w) {i es g n c:Nat} {tb:TypeId} {xs:List (List D)} (hH:Hp.get H i=some (.row tb es xs)) (hη:e.η i = .slice (some ⟨g,0,none⟩) n c) :
  ∃ (cur:Array Value) (vs:List Value),w.heap[g]?=some (.cells cur tb (0,0))/\n=xs.length/\xs.length<=c/\c<=maxLen/\cur.size=c*es/\cur.toList.take (xs.length*es)=vs/\vs.length=xs.length*es /\
   (∀ p (hp:p<xs.length),(xs[p]'hp).length=es)/\(∀ v∈vs,v.oneCell'=true)/\∀ p (hp:p<xs.length) q (hq:q<(xs[p]'hp).length),∃ v,vs[p*es+q]?=some v/\RepC (Γ.X e H) w v ((xs[p]'hp)[q]'hq):=by
 obtain⟨vs,ho,hes,hone,hrep⟩:=(m.heap _ (Hp.mem_of hH)).2;rcases ho.2 with ⟨h2,_⟩|⟨g',cap',cur,h2,_,hg,hnc,hcm,hcs,htake⟩
 ·rw [hη] at h2;cases h2
 ·rw [hη] at h2;cases h2;exact⟨cur,vs,hg,rfl,hnc,hcm,hcs,htake,ho.1,hes,hone,hrep⟩
theorem cell_cur {w:World} {g:Nat} {cur:Array Value} {t:TypeId} (hg:w.heap[g]?=some (.cells cur t (0,0))) (j:Nat):w.cell? ⟨g,j,none⟩=cur[j]?:=by
 simp [World.cell?,hg]
theorem seg_cells {es:Nat} {xs:List (List D)} {vs:List Value} (hl:vs.length=xs.length*es) (hes:∀ p (hp:p<xs.length),(xs[p]'hp).length=es) {X:Nat->Prop} {w:World} (hrep:∀ p (hp:p<xs.length) q (hq:q<(xs[p]'hp).length),∃ v,vs[p*es+q]?=some v/\RepC X w v ((xs[p]'hp)[q]'hq))
  {j q:Nat} (hjq:j+q<=xs.length):((vs.drop (j*es)).take (q*es)).length=((xs.drop j).take q).length*es/\(∀ p (hp:p<((xs.drop j).take q).length),(((xs.drop j).take q)[p]'hp).length=es) /\
   ∀ p (hp:p<((xs.drop j).take q).length) r (hr:r<(((xs.drop j).take q)[p]'hp).length),∃ v,((vs.drop (j*es)).take (q*es))[p*es+r]?=some v/\RepC X w v ((((xs.drop j).take q)[p]'hp)[r]'hr):=by
 have hq:((xs.drop j).take q).length=q:=by rw [Aq,A7];omega
 have hge:∀ p (hp:p<((xs.drop j).take q).length),((xs.drop j).take q)[p]'hp=xs[j+p]'(by omega):=λp hp=>by rw [Dp,List.getElem_drop]
 have hm:j*es+q*es<=xs.length*es:=by rw [<- Bo];exact Be _ hjq
 refine⟨by rw [hq,Aq,A7];omega,λp hp=>by rw [hge p hp];exact hes _ _,λp hp r hr=>?_⟩
 have hr':r<(xs[j+p]'(by omega)).length:=by rw [<- hge p hp];exact hr
 obtain⟨v,h1,h2⟩:=hrep (j+p) (by omega) r hr';refine⟨v,?_,by simpa [hge p hp] using h2⟩
 have hre:r<es:=by rw [<- hes (j+p) (by omega)];exact hr'
 have hlt:p*es+r<q*es:=by
  have:(p+1)*es<=q*es:=Be _ (by omega)
  rw [Bo] at this;omega
 rw [Bi,if_pos hlt,Fq,<- h1];congr 1;rw [Bo];omega
end
section
variable {Γ : Ctx} {k : Nat} {L : Sl} {H H' : Hp} {K : cy} {ops : List Oper} {rest : List Oper} {t t' : TypeId} {x y : Operand}
theorem anchor_η {kk:Nat->Prop} {a:Act} {w:World} {e:Env} (m:Models Γ kk L H e a w) {i:Nat} {v:Value} (hJ:Av i Γ.J=true) (hη:(Γ.β0 i).2=v):e.η i=v:=by
 have:=m.anchor i (Ab hJ)
 rw [<- hη,<- this];rfl
theorem ds_capRow {d i es:Nat} {tb ty:TypeId} {pos:String} {af:Array Edge} {g:Option (Nat×Bool)} {xs:List (List D)} (hx:ap L x = .row i) (hH:Hp.get H i=some (.row tb es xs)) (hJ:Av i Γ.J=true) (ht:(aj Γ.τ t).sh = .slice t') (hw:au ops L g=some true) (hd:Av d Γ.n=true)
  (h0:xs=[]->DS false Γ ops rest K k ((d,.d (.int .i64 0))::L) H)
  (h1:∀ g0 c,(Γ.β0 i).2 = .slice (some ⟨g0,0,none⟩) xs.length c->xs.length<=c->c<=maxLen->DS false Γ ops rest K k ((d,.d (.int .i64 c))::L) H) :
  DS false Γ ops (⟨some d,.call { callee:=.builtin .cap,args:=#[x],argTypes:=#[t] },ty,pos,af,g⟩::rest) K k L H:=by
 refine gp hw λe a w m=>?_
 obtain⟨_,hv,_⟩:=evT m hx (l9 · _);have ha:=m.anchor i (Ab hJ);obtain⟨vs,ho,_⟩:=(m.heap _ (Hp.mem_of hH)).2;rcases ho.2 with ⟨hη,h3⟩|⟨g0,c,cur,hη,_,_,hnc,hmx,_⟩
 ·rw [hη] at hv;have hrun:(execOp a.eval ⟨some d,.call { callee:=.builtin .cap,args:=#[x],argTypes:=#[t] },ty,pos,af,g⟩).run Γ.P w = .ok (.value (.int .i64 0)) w:=by
   simp [execOp,resolve,invoke,builtin,hv,Builtin.cap_,goInt,run_underlying (Ctx.slice ht)]
  unfold Oper.wp;rw [hrun];exact⟨k,_,H,e,m.put (s:=.d (.int .i64 0)) (v:=.int .i64 0) (Ab hd) (RepC.int (by decide)),h0 (List.eq_nil_of_length_eq_zero h3)⟩
 ·rw [hη] at hv;have hrun:(execOp a.eval ⟨some d,.call { callee:=.builtin .cap,args:=#[x],argTypes:=#[t] },ty,pos,af,g⟩).run Γ.P w = .ok (.value (.int .i64 c)) w:=by
   simp [execOp,resolve,invoke,builtin,hv,Builtin.cap_,goInt,run_underlying (Ctx.slice ht)]
  unfold Oper.wp;rw [hrun];exact⟨k,_,H,e,m.put (s:=.d (.int .i64 c)) (v:=.int .i64 c) (Ab hd) (RepC.int (WalkArith.wf_i64 (by unfold maxLen at hmx;omega))),h1 g0 c (by rw [<- hη];exact (congrArg Prod.snd ha).symm) hnc hmx⟩
theorem highC_some (s:SV) (a b:Nat):jq a (some s)=jq b (some s):=by
 unfold jq;split<;>first|rfl|simp_all
theorem ev_slice_ext {kk:Nat->Prop} {i es g0 n0 c:Nat} {ty:TypeId} {hi:Option Operand} {m':Int} {len:Nat} (ht:(aj Γ.τ t).sh = .slice t') (hkn:(aj Γ.τ t').sh.known=true) (hx:ap L x = .row i) (hJ:Av i Γ.J=true) (hη:(Γ.β0 i).2 = .slice (some ⟨g0,0,none⟩) n0 c)
  (hh:jq len (hi.map (ap L))=some m') (hlen:hi=none->len=n0) (h0:0<=m') (h2:m'<=c) (hmx:c<=maxLen):Ev Γ kk L H (.slice t x none hi none) ty (.rsl i es 0 m'.toNat):=by
 intro e a w m;obtain⟨hd,hv,_⟩:=evT m hx (l9 · _);have he:=anchor_η m hJ hη;rw [he] at hv;cases hi with
 | none =>
  have hl:=hlen rfl;subst hl;cases hh;have hrun:=λw'=>kj (len:=len) (cap:=c) (lo:=none) (hi:=none) (n:=0) (m':=len) m (some ⟨g0,0,none⟩) ht hkn rfl rfl (Dn 0) (by omega) (by omega) w'
  refine⟨sliced (some ⟨g0,0,none⟩) 0 len c (Γ.cells t'),λ_ _ _ _ w' _=>?_,hd,?_,.inr ⟨g0,len,c,0,he,Ak _,hmx,by omega,?_,λ_=>by simp⟩⟩
  ·have:=hrun w'
   simp only [En] at this;simp [execOp,Instr.sliceAt,hv,run_underlying (Ctx.slice ht),this]
  ·unfold sliced;split<;>rfl
  ·unfold sliced;split<;>simp [Addr.add_at]
 | some z =>
  rw [Bz,highC_some _ len n0] at hh;have hrun:=λw'=>kj (len:=n0) (cap:=c) (lo:=none) (hi:=some z) (n:=0) (m':=m') m (some ⟨g0,0,none⟩) ht hkn rfl hh (Dn 0) h0 (by omega) w'
  refine⟨sliced (some ⟨g0,0,none⟩) 0 m'.toNat c (Γ.cells t'),λ_ _ _ _ w' _=>?_,hd,?_,.inr ⟨g0,n0,c,0,he,Ak _,hmx,by omega,?_,λ_=>by simp⟩⟩
  ·have:=hrun w'
   simp only [En,Bz] at this;simp [execOp,Instr.sliceAt,hv,run_underlying (Ctx.slice ht),this]
  ·unfold sliced;split<;>rfl
  ·unfold sliced;split<;>simp [Addr.add_at]
theorem ev_slice_far {kk:Nat->Prop} {i es j len:Nat} {tb ty:TypeId} {xs:List (List D)} {lo hi:Operand} {n m':Int} (ht:(aj Γ.τ t).sh = .slice t') (hc:(aj Γ.τ t').cells=es) (hkn:(aj Γ.τ t').sh.known=true) (hx:ap L x = .rsl i es j len) (hH:Hp.get H i=some (.row tb es xs))
  (hl:ap L lo = .d (.int .i64 n)) (hh:ap L hi = .d (.int .i64 m')) (h0:0<=n) (h1:n<=m') (h2:j+m'.toNat<=xs.length) (hpos:0<xs.length):Ev Γ kk L H (.slice t x (some lo) (some hi) none) ty (.rsl i es (j+n.toNat) (m'.toNat-n.toNat)):=by
 intro e a w m;obtain⟨hd,_,hcs⟩:=evT m hx (ks · _ _ _ _);rcases hcs with ⟨hη,hv,rfl,rfl⟩|⟨g,n0,cap,o,hη,hk,hmx,hn,hv,ho⟩
 ·obtain⟨vs,hown,_⟩:=(m.heap _ (Hp.mem_of hH)).2;rcases hown.2 with ⟨_,h3⟩|⟨g',cap',cur,h3,_⟩
  ·omega
  ·rw [hη] at h3;cases h3
 ·obtain⟨cur,vs,_,hnx,hxc,_⟩:=row_at m hH hη;have hrun:=λw'=>kj (len:=len) (cap:=cap-j) (lo:=some lo) (hi:=some hi) (n:=n) (m':=m') m (some ⟨g,o,none⟩) ht hkn (by simp [um,hl]) (by simp [jq,hh]) h0 h1 (by omega) w'
  refine⟨sliced (some ⟨g,o,none⟩) n.toNat m'.toNat (cap-j) (Γ.cells t'),λ_ _ _ _ w' _=>?_,hd,?_,.inr ⟨g,n0,cap,if cap-j=n.toNat then o else o+n.toNat*es,hη,by omega,hmx,by omega,?_,?_⟩⟩
  ·have:=hrun w'
   simp only [Bz] at this;simp [execOp,Instr.sliceAt,hv,run_underlying (Ctx.slice ht),this]
  ·unfold sliced;split<;>rfl
  ·unfold sliced;split
   ·rw [Nat.sub_sub]
   ·rw [Bz,Addr.add_at,Nat.sub_sub];have hc':Γ.cells t'=es:=hc;rw [hc']
  ·intro h;have hoj:j<cap∨j=0:=by omega
   have:=ho hoj
   subst this;split
   ·rename_i hcap;rcases h with h|h
    ·omega
    ·have:n.toNat=0:=by omega
     rw [this,Nat.add_zero]
   ·rw [Bo]
theorem ev_slice3 {kk:Nat->Prop} {i es:Nat} {tb ty:TypeId} {xs:List (List D)} {lo hi mx:Operand} {n m' p:Int} (ht:(aj Γ.τ t).sh = .slice t') (hkn:(aj Γ.τ t').sh.known=true) (hx:ap L x = .row i) (hH:Hp.get H i=some (.row tb es xs))
  (hl:ap L lo = .d (.int .i64 n)) (hh:ap L hi = .d (.int .i64 m')) (hm:ap L mx = .d (.int .i64 p)) (h0:0<=n) (h1:n<=m') (h2:m'<=p) (h3:p<=xs.length):Ev Γ kk L H (.slice t x (some lo) (some hi) (some mx)) ty .junk:=by
 intro e a w m;obtain⟨hd,hv,_⟩:=evT m hx (l9 · _);obtain⟨inf,z,hi',_,hs,_⟩:=Ctx.info (Sh.known_ne hkn);have e1:=evI m hl;have e2:=evI m hh;have e3:=evI m hm;obtain⟨vs,ho,_⟩:=(m.heap _ (Hp.mem_of hH)).2;have key:∀ (ao:Option Addr) (len cap:Nat),xs.length<=cap->∃ v,∀ w',(Instr.slice t (.slice ao len cap) (some (.int .i64 n)) (some (.int .i64 m')) (some (.int .i64 p))).run Γ.P w' = .ok v w':=by
  intro ao len cap hc;have hn:n<=max m' 0:=by omega
  have hm':m'<=max p 0:=by omega
  have hp:p<=(cap:Int):=by omega
  have h01:0<=m':=by omega
  have h02:0<=p:=by omega
  refine⟨.slice (if p.toNat=n.toNat then ao else ao.map (·.add (n.toNat*inf.size))) (m'.toNat-n.toNat) (p.toNat-n.toNat),λw'=>?_⟩
  have hz:(sizeOf t').run Γ.P w' = .ok inf.size w':=dv hi' w';simp [Instr.slice,run_underlying (Ctx.slice ht),Instr.sliceBounds,Instr.sliceBound,asIntOf,hn,hm',hp,h0,h01,h02,hz,Result.andThen]
 rcases ho.2 with ⟨hη,h4⟩|⟨g,cap,cur,hη,_,_,hnc,hmx,_⟩
 ·rw [hη] at hv;obtain⟨v,hk2⟩:=key none 0 0 (by omega);refine⟨v,λ_ _ _ _ w' _=>?_,trivial⟩
  simp [execOp,Instr.sliceAt,hv,run_underlying (Ctx.slice ht),e1,e2,e3,hk2 w']
 ·rw [hη] at hv;obtain⟨v,hk2⟩:=key (some ⟨g,0,none⟩) xs.length cap (by omega);refine⟨v,λ_ _ _ _ w' _=>?_,trivial⟩
  simp [execOp,Instr.sliceAt,hv,run_underlying (Ctx.slice ht),e1,e2,e3,hk2 w']
theorem copy_core {kk:Nat->Prop} {a:Act} {w:World} {e:Env} (m:Models Γ kk L H e a w) {d i es j n sLen sCap:Nat} {tb ty t2:TypeId} {pos:String} {af:Array Edge} {g:Option (Nat×Bool)} {xs ys:List (List D)} {N:List Value} {ad:Addr}
  (hx:ap L x = .rsl i es j n) (hH:Hp.get H i=some (.row tb es xs)) (ht:(aj Γ.τ t).sh = .slice t') (hkn:(aj Γ.τ t').sh.known=true) (hes:(aj Γ.τ t').cells=es) (h0:0<ys.length) (hq:ys.length=Gw sLen n) (hj:j+ys.length<=xs.length)
  (hv:a.eval y = .slice (some ad) sLen sCap) (hN:N.length=ys.length*es) (hyl:∀ p (hp:p<ys.length),(ys[p]'hp).length=es) (h1:∀ v∈N,v.oneCell'=true) (hr:∀ p (hp:p<ys.length) q (hq:q<(ys[p]'hp).length),∃ v,N[p*es+q]?=some v/\RepC (Γ.X e H) w v ((ys[p]'hp)[q]'hq))
  (hsrc:∀ j v,N[j]?=some v->w.cell? (ad.add j)=some v) :
  ∃ w',(execOp a.eval ⟨some d,.call { callee:=.builtin .copy,args:=#[x,y],argTypes:=#[t,t2] },ty,pos,af,g⟩).run Γ.P w = .ok (.value (.int .i64 ys.length)) w'/\Models Γ kk L (Hp.set H i (.row tb es (xs.take j++ys++xs.drop (j+ys.length)))) e a w':=by
 obtain⟨inf,z,hi,_,hs,_⟩:=Ctx.info (Sh.known_ne hkn);have hsz:inf.size=es:=by rw [hs];exact hes
 obtain⟨_,_,hcs⟩:=evT m hx (ks · _ _ _ _);obtain⟨vs,hown,_⟩:=(m.heap _ (Hp.mem_of hH)).2;rcases hcs with ⟨hη,_,rfl,rfl⟩|⟨g0,n0,cap,o,hη,hk,hmx,hn,hvx,ho⟩
 ·rw [hq] at h0;simp at h0
 ·rcases hown.2 with ⟨h2,_⟩|⟨g',cap',cur,h2,_,hg,hnc,_,_⟩
  ·rw [hη] at h2;cases h2
  rw [hη] at h2;cases h2;have hoj:=ho (by omega);subst hoj;obtain⟨hfit,m2⟩:=row_write m hH (j:=j) (ys:=ys) (N:=N) hj hN hyl h1 hr hη hg;have hrun:=zp (P:=Γ.P) w t t2 ty t' g0 (j*es) n (cap-j) ad sLen sCap cur tb N inf (Ctx.slice ht) hi hg (by rw [hN,hsz,hq]) hsrc hfit h1;refine⟨_,?_,m2⟩
  simp only [execOp,resolve,invoke,builtin,Sem.run_bind,Sem.run_pure,Result.andThen_ok,D1,A3,Db,hvx,hv,hrun,goInt,hq]
theorem ds_copyD {d i es j n:Nat} {tb ty t2:TypeId} {pos:String} {af:Array Edge} {g:Option (Nat×Bool)} {xs ys:List (List D)} (hx:ap L x = .rsl i es j n) (hH:Hp.get H i=some (.row tb es xs)) (hy:ap L y = .d (.slice es ys)) (ht:(aj Γ.τ t).sh = .slice t') (hkn:(aj Γ.τ t').sh.known=true) (hes:(aj Γ.τ t').cells=es)
  (h0:0<ys.length) (hn:ys.length<=n) (hj:j+ys.length<=xs.length) (hw:au ops L g=some true) (hd:Av d Γ.n=true) (hS:zk H i (.row tb es (xs.take j++ys++xs.drop (j+ys.length))) some=some H') (hk:DS false Γ ops rest K k ((d,.d (.int .i64 ys.length))::L) H') :
  DS false Γ ops (⟨some d,.call { callee:=.builtin .copy,args:=#[x,y],argTypes:=#[t,t2] },ty,pos,af,g⟩::rest) K k L H:=by
 rw [l6] at hS;cases hS;refine gp hw λe a w m=>?_
 have hry:=evT m hy (mu · _ _);obtain⟨ao,capy,hvy,hlc,hcy,hnone⟩:=hry.slice_inv;cases ao with
 | none=>exact absurd (hnone rfl) (λh=>by rw [h] at h0;simp at h0)
 | some ad =>
  have hr:=hry;rw [hvy] at hr;obtain⟨_,hye,us,u1,u2,u3,u4⟩:=sliceAddr hr;obtain⟨w',hrun,m2⟩:=copy_core (d:=d) (ty:=ty) (t2:=t2) (pos:=pos) (af:=af) (g:=g) m hx hH ht hkn hes h0 (Eo hn).symm hj hvy u1 hye u3 u4 u2;unfold Oper.wp;rw [hrun];refine⟨k,_,_,e,m2.put (s:=.d (.int .i64 ys.length)) (v:=.int .i64 ys.length) (Ab hd) (RepC.int (WalkArith.wf_i64 ?_)),hk⟩
  unfold maxLen at hcy;omega
theorem view_cells {kk:Nat->Prop} {a:Act} {w:World} {e:Env} (m:Models Γ kk L H e a w) {i es p len q:Nat} {tb:TypeId} {xs:List (List D)} (hy:ap L y = .rsl i es p len) (hH:Hp.get H i=some (.row tb es xs)) (hp:p+q<=xs.length) (hq:0<q) (hl:q<=len) :
  ∃ (ad:Addr) (sCap:Nat) (N:List Value),a.eval y = .slice (some ad) len sCap/\N.length=((xs.drop p).take q).length*es/\(∀ r (hr:r<((xs.drop p).take q).length),(((xs.drop p).take q)[r]'hr).length=es)/\(∀ v∈N,v.oneCell'=true) /\
   (∀ r (hr:r<((xs.drop p).take q).length) s (hs:s<(((xs.drop p).take q)[r]'hr).length),∃ v,N[r*es+s]?=some v/\RepC (Γ.X e H) w v ((((xs.drop p).take q)[r]'hr)[s]'hs))/\∀ j v,N[j]?=some v->w.cell? (ad.add j)=some v:=by
 obtain⟨_,_,hcs⟩:=evT m hy (ks · _ _ _ _);rcases hcs with ⟨hη,_,rfl,rfl⟩|⟨g0,n0,cap,o,hη,hk,hmx,hn,hvx,ho⟩
 ·omega
 ·obtain⟨cur,vs,hg,rfl,hnc,hcm,hcs,htake,hlen,hes,hone,hrep⟩:=row_at m hH hη;have hoj:=ho (by omega);subst hoj;obtain⟨s1,s2,s3⟩:=seg_cells hlen hes hrep (j:=p) (q:=q) hp;refine⟨⟨g0,p*es,none⟩,cap-p,(vs.drop (p*es)).take (q*es),hvx,s1,s2,λv hv=>hone v (B2 (Bq hv)),s3,λj v hj=>?_⟩
  have hjl:j<q*es:=by
   rw [Bi] at hj;split at hj
   ·assumption
   ·cases hj
  rw [Bi,if_pos hjl,Fq,<- htake,Bi] at hj;split at hj
  ·rw [Addr.add_lit,cell_cur hg,<- hj,Br]
  ·cases hj
theorem ds_copyRR (q:Nat) {d i es j n i2 p len:Nat} {tb tb2 ty t2:TypeId} {pos:String} {af:Array Edge} {g:Option (Nat×Bool)} {xs zs:List (List D)} (hx:ap L x = .rsl i es j n) (hH:Hp.get H i=some (.row tb es xs)) (hy:ap L y = .rsl i2 es p len) (hH2:Hp.get H i2=some (.row tb2 es zs))
  (ht:(aj Γ.τ t).sh = .slice t') (hkn:(aj Γ.τ t').sh.known=true) (hes:(aj Γ.τ t').cells=es) (h0:0<q) (hq:q=Gw len n) (hp:p+q<=zs.length) (hj:j+q<=xs.length) (hw:au ops L g=some true) (hd:Av d Γ.n=true)
  (hS:zk H i (.row tb es (xs.take j++(zs.drop p).take q++xs.drop (j+q))) some=some H') (hk:DS false Γ ops rest K k ((d,.d (.int .i64 q))::L) H') :
  DS false Γ ops (⟨some d,.call { callee:=.builtin .copy,args:=#[x,y],argTypes:=#[t,t2] },ty,pos,af,g⟩::rest) K k L H:=by
 rw [l6] at hS;cases hS;refine gp hw λe a w m=>?_
 have hql:q<=len:=by rw [hq];exact Nat.min_le_left _ _
 have hyl:((zs.drop p).take q).length=q:=by rw [Aq,A7];omega
 obtain⟨ad,sCap,N,hv,s1,s2,s3,s4,s5⟩:=view_cells m hy hH2 hp h0 hql;obtain⟨w',hrun,m2⟩:=copy_core (d:=d) (ty:=ty) (t2:=t2) (pos:=pos) (af:=af) (g:=g) m hx hH ht hkn hes (by rw [hyl];exact h0) (by rw [hyl];exact hq) (by rw [hyl];exact hj) hv s1 s2 s3 s4 s5;rw [hyl] at hrun m2;unfold Oper.wp;rw [hrun];refine⟨k,_,_,e,m2.put (s:=.d (.int .i64 q)) (v:=.int .i64 q) (Ab hd) (RepC.int (WalkArith.wf_i64 ?_)),hk⟩
 obtain⟨_,_,hcs⟩:=evT m hy (ks · _ _ _ _);rcases hcs with ⟨_,_,_,rfl⟩|⟨g0,n0,cap,o,_,_,hmx,hn,_⟩
 ·omega
 ·unfold maxLen at hmx;omega
theorem ds_copyGrow (s:Nat) {d i es p n len:Nat} {tb ty t2:TypeId} {pos:String} {af:Array Edge} {g:Option (Nat×Bool)} {xs:List (List D)} {jx jy nx ns:Nat} (hx:ap L x = .rsl i es jx nx) (hH:Hp.get H i=some (.row tb es xs)) (hy:ap L y = .rsl i es jy len) (hs:L.get s = .rsl i es 0 ns) (hjx:p+1=jx) (hnx:n=nx) (hjy:p=jy) (hns:xs.length+1=ns)
  (ht:(aj Γ.τ t).sh = .slice t') (hkn:(aj Γ.τ t').sh.known=true) (hes:(aj Γ.τ t').cells=es) (hp:p+n=xs.length) (hl:n<=len) (h0:0<n) (hw:au ops L g=some true) (hd:Av d Γ.n=true)
  (hD:zn H i some=some H') (hk:DS false Γ ops rest K (k+1) ((d,.d (.int .i64 n))::(s,.row k)::L) ((k,.row tb es (xs.take (p+1)++xs.drop p))::H')) :
  DS false Γ ops (⟨some d,.call { callee:=.builtin .copy,args:=#[x,y],argTypes:=#[t,t2] },ty,pos,af,g⟩::rest) K k L H:=by
 subst hjx hnx hjy hns;rw [ni] at hD;cases hD;refine gp hw λe a w m=>?_
 have hyl:(xs.drop p).length=n:=by rw [A7];omega
 have htk:(xs.drop p).take n=xs.drop p:=Ai (by omega);obtain⟨ad,sCap,N,hv,s1,s2,s3,s4,s5⟩:=view_cells m hy hH (q:=n) (by omega) h0 hl;obtain⟨inf,z,hi,_,hss,_⟩:=Ctx.info (Sh.known_ne hkn);have hsz:inf.size=es:=by rw [hss];exact hes
 obtain⟨_,_,hcs⟩:=evT m hx (ks · _ _ _ _);have hslot:=m.slot s;rw [hs] at hslot;obtain⟨_,hone1,hcase⟩:=hslot;rcases hcs with ⟨_,_,_,rfl⟩|⟨g0,n0,cap,o,hη,hk1,hmx,hn,hvx,ho⟩
 ·omega
 rcases hcase with ⟨hη2,_⟩|⟨g1,n1,cap1,o1,hη2,_,_,hn1,hv1,ho1⟩
 ·rw [hη] at hη2;cases hη2
 rw [hη] at hη2;cases hη2;have h01:=ho1 (.inr rfl);rw [Ey] at h01;subst h01;obtain⟨cur,vs,hg,rfl,hnc,hcm,hcsz,htake,hlen,hxes,hone,hrep⟩:=row_at m hH hη;have hoj:=ho (by omega);subst hoj;rw [htk] at s1;simp only [htk] at s2 s4;have hNl:N.length=n*es:=by rw [s1,hyl]
 have hfit:(p+1)*es+N.length<=cur.size:=by
  rw [hNl,hcsz,<- Bo];exact Be _ (by omega)
 have hrun:=zp (P:=Γ.P) w t t2 ty t' g0 ((p+1)*es) n (cap-(p+1)) ad len sCap cur tb N inf (Ctx.slice ht) hi hg (by rw [hNl,hsz,show Gw len n=n from Hq hl]) s5 hfit s3;have hop:(execOp a.eval ⟨some d,.call { callee:=.builtin .copy,args:=#[x,y],argTypes:=#[t,t2] },ty,pos,af,g⟩).run Γ.P w = .ok (.value (.int .i64 n)) (w.setRow g0 (cur.toList.take ((p+1)*es)++N++cur.toList.drop ((p+1)*es+N.length)).toArray):=by
  simp only [execOp,resolve,invoke,builtin,Sem.run_bind,Sem.run_pure,Result.andThen_ok,D1,A3,Db,hvx,hv,hrun,goInt,show Gw len n=n from Hq hl]
 unfold Oper.wp;rw [hop];have hmem:=Hp.mem_of hH;have hze:¬ e.dom k:=λh=>gn k ((m.top k).1 h)
 have hηk:(e.bindRow k (.slice (some ⟨g0,0,none⟩) (xs.length+1) cap)).η k = .slice (some ⟨g0,0,none⟩) (xs.length+1) cap:=if_pos rfl;have hown:HB.owned e (i,.row tb es xs)=some g0:=by simp [HB.owned,hη,Value.ownBlock]
 have hnl:(xs.take (p+1)++xs.drop p).length=xs.length+1:=by rw [Af,Aq,A7];omega
 have hgo:=setRow_heap w g0 cur (cur.toList.take ((p+1)*es)++N++cur.toList.drop ((p+1)*es+N.length)).toArray tb (0,0) hg;have m2:=m.trade (hb:=.row tb es (xs.take (p+1)++xs.drop p)) hH (gn k) (e':=e.bindRow k (.slice (some ⟨g0,0,none⟩) (xs.length+1) cap)) (w':=w.setRow g0 (cur.toList.take ((p+1)*es)++N++cur.toList.drop ((p+1)*es+N.length)).toArray) (λi=>or_congr (m.top i) Iff.rfl) (e.bindRow_ext _ _ hze) (by simp [World.setRow]) rfl rfl rfl (λ_=>Ah _)
  (λc _ hne=>setRow_other w _ c _ (λh=>hne (by rw [hown,h]))) (λc hc=>by simp only [HB.owned,hηk] at hc;exact .inl (by rw [hown];exact hc)) (λhX=>by
   have hkeep:∀ b,b<w.heap.size->¬ Γ.X e H b->(w.setRow g0 (cur.toList.take ((p+1)*es)++N++cur.toList.drop ((p+1)*es+N.length)).toArray).heap[b]?=w.heap[b]?:=λb _ hb=>setRow_other w _ b _ (λh=>hb (.inr (List.mem_filterMap.2 ⟨_,hmem,by rw [hown,h]⟩)))
   have hp1:(p+1)*es<=xs.length*es:=Be _ (by omega);have hvt:(vs.take ((p+1)*es)).length=(p+1)*es:=by rw [Aq,hlen];omega
   refine⟨vs.take ((p+1)*es)++N,⟨?_,.inr ⟨g0,cap,_,by rw [hηk,hnl],Ak _,hgo,by rw [hnl];omega,hcm,?_,?_⟩⟩,λr hr=>?_,λv hv=>?_,λr hr q hq=>?_⟩
   ·rw [Af,hvt,hNl,hnl,<- Bo];congr 1;omega
   ·rw [<- hcsz];simp only [Hi,Af,Aq,A7,A2];omega
   ·have ht1:cur.toList.take ((p+1)*es)=vs.take ((p+1)*es):=by rw [<- htake,H5,Eo hp1]
    rw [hnl,ht1,Bl (by rw [Af,hvt,hNl,<- Bo];exact Be _ (by omega)),Ai (by rw [Af,hvt,hNl,<- Bo];exact Be _ (by omega))]
   ·by_cases h:r<p+1
    ·rw [C2 (by rw [Aq];omega),Dp];exact hxes _ _
    ·rw [Cc (by rw [Aq];omega)];exact s2 _ (by rw [hyl,Aq];omega)
   ·rcases List.mem_append.1 hv with hv|hv
    ·exact hone v (Bq hv)
    ·exact s3 v hv
   ·have key:∀ {v:Value} {x:D},RepC (Γ.X e H) w v x->RepC _ (w.setRow g0 (cur.toList.take ((p+1)*es)++N++cur.toList.drop ((p+1)*es+N.length)).toArray) v x:=λh=>RepC.keep (by simp [World.setRow]) hkeep hX h
    by_cases h:r<p+1
    ·have he:(xs.take (p+1)++xs.drop p)[r]=xs[r]'(by omega):=by rw [C2 (by rw [Aq];omega),Dp]
     have hq':q<(xs[r]'(by omega)).length:=by rw [<- he];exact hq
     obtain⟨v,p1,p2⟩:=hrep r (by omega) q hq';have hqe:q<es:=by rw [<- hxes r (by omega)];exact hq'
     refine⟨v,?_,key (by simpa [he] using p2)⟩
     have:(r+1)*es<=(p+1)*es:=Be _ h
     rw [Bo,Nat.one_mul] at this;rw [Bm (by omega),Bi,if_pos (by omega),p1]
    ·have hr':r-(p+1)<(xs.drop p).length:=by rw [hyl];omega
     have hlt:(xs.take (p+1)).length=p+1:=by rw [Aq];omega
     have he:(xs.take (p+1)++xs.drop p)[r]=(xs.drop p)[r-(p+1)]'hr':=by
      rw [Cc (by omega)];congr 1;omega
     have hq':q<((xs.drop p)[r-(p+1)]'hr').length:=by rw [<- he];exact hq
     obtain⟨v,p1,p2⟩:=s4 (r-(p+1)) hr' q hq';refine⟨v,?_,key (by simpa [he] using p2)⟩
     have h2:(p+1)*es<=r*es:=Be _ (by omega);rw [A4 (by omega),hvt,<- p1];congr 1;rw [Nat.sub_mul];omega)
 have m3:=m2.cast (ff k);have m4:Models Γ (lo (k+1)) ((s,.row k)::L) ((k,.row tb es (xs.take (p+1)++xs.drop p))::Hp.del H i) (e.bindRow k (.slice (some ⟨g0,0,none⟩) (xs.length+1) cap)) a (w.setRow g0 (cur.toList.take ((p+1)*es)++N++cur.toList.drop ((p+1)*es+N.length)).toArray):=by
  refine⟨m3.toHeap,m3.defers,m3.len,λt'=>?_⟩
  rw [Sl.get_cons];split
  ·rename_i ht;subst ht;exact⟨.inr rfl,by rw [hηk];exact hv1,hone1⟩
  ·exact m3.slot t'
 refine⟨k+1,_,_,_,m4.put (s:=.d (.int .i64 n)) (v:=.int .i64 n) (Ab hd) (RepC.int (WalkArith.wf_i64 ?_)),hk⟩
 unfold maxLen at hcm;omega
theorem ev_overlaps {kk : Nat -> Prop} {f : FuncId} {fn : Func} {tR ty : TypeId} {ts : Array TypeId} {es i j n : Nat} {tb : TypeId} {xs ys : List (List D)} (hf : Γ.P.funcs[f]?=some fn) (hname : (fn.name == "runtime.NumGoroutine")=false)
  (hb:fn.body.isNone=true) (hn:Extern.findNext fn=none) (he:Extern.find fn=some (Extern.SlicesOverlaps.overlaps #[t,t] #[tR])) (ht:(aj Γ.τ t).sh = .slice t') (hkn:(aj Γ.τ t').sh.known=true) (hpos:0<es)
  (hx:ap L x = .d (.slice es ys)) (hne:ys≠[]) (hy:ap L y = .rsl i es j n) (hH:Hp.get H i=some (.row tb es xs)) (hxs:xs≠[]):Ev Γ kk L H (.call { callee:=.value (.func f),args:=#[x,y],argTypes:=ts }) ty (.d (.bool false)):=by
 intro e a w m;have hry:=evT m hx (mu · _ _);obtain⟨ao,capy,hvy,hlc,hcy,hnone⟩:=hry.slice_inv;obtain⟨_,_,hcs⟩:=evT m hy (ks · _ _ _ _);have hxl:0<xs.length:=List.length_pos_iff.2 hxs;have hyl:0<ys.length:=List.length_pos_iff.2 hne;have hmem:=Hp.mem_of hH;obtain⟨inf,z,hi,_,hss,_⟩:=Ctx.info (Sh.known_ne hkn);cases ao with
 | none=>exact absurd (hnone rfl) hne
 | some ad =>
  rw [hvy] at hry;rcases hcs with ⟨hη,_,_,_⟩|⟨g0,n0,cap,o,hη,hk,hmx,hn1,hvx,ho⟩
  ·obtain⟨vs,ho,_⟩:=(m.heap _ hmem).2;rcases ho.2 with ⟨_,h4⟩|⟨g,cap,cur,hη2,_⟩
   ·omega
   ·rw [hη] at hη2;cases hη2
  ·obtain⟨cur,vs,hg,rfl,hnc,hcm,hcsz,_⟩:=row_at m hH hη;generalize hds:D.slice es ys=dd at hry;generalize hnn:ys.length=nn at hry;cases hry with
   | zero=>cases hds;omega
   | @slice b off _ _ _ xs' c hn' hc hm hX hb' hee hcell hrep =>
    cases hds;refine⟨.bool false,λdst pos after guard w' hB=>?_,RepC.bool⟩
    have hown:HB.owned e (i,.row tb es xs)=some g0:=by simp [HB.owned,hη,Value.ownBlock]
    have hbg:b≠g0:=λh=>hX (.inr (List.mem_filterMap.2 ⟨_,hmem,by rw [hown,h]⟩))
    have h00:0<(ys[0]'hyl).length:=by rw [hee 0 hyl];exact hpos
    have hc0:=hcell 0 hyl 0 h00;obtain⟨cells,tb',fz,hb2⟩:∃ cells tb' fz,w.heap[b]?=some (.cells cells tb' fz):=by
     unfold World.cell? at hc0;split at hc0
     ·rename_i h;exact⟨_,_,_,h⟩
     ·cases hc0
    have hsz:cells.size≠0:=by
     intro h;have hc1:cells[off+0*es+0]?=some (c 0 0):=by rw [World.cell?,hb2] at hc0;exact hc0
     have:=(Array.getElem?_eq_some_iff.1 hc1).1
     omega
    have hgb:=(Array.getElem?_eq_some_iff.1 hg).1;have hg':w'.heap[g0]?=some (.cells cur tb (0,0)):=by rw [hB.block g0 hgb];exact hg
    have hb':w'.heap[b]?=some (.cells cells tb' fz):=by rw [hB.block b hb'];exact hb2
    have h:=run_callFunc_extern (P:=Γ.P) hf hname hb hn he #[.slice (some ⟨b,off,none⟩) ys.length capy,.slice (some ⟨g0,o,none⟩) n (cap-j)] w';rw [run_overlaps_own w' t tR t' (Ctx.slice ht) inf.size (λw=>dv hi w) ⟨b,off,none⟩ ⟨g0,o,none⟩ ys.length capy n (cap-j) hbg tb' tb cells.size cur.size (by simp [World.shape?,hb']) (by simp [World.shape?,hg']) hsz (frozen_own hg' _ _) (frozen_own hg' _ _)] at h;simp [execOp,resolve,Deferred.ofValue,invoke,hvy,hvx];exact h
theorem ds_apGrow (zs:List D) {d i es p q:Nat} {tb ti ty:TypeId} {pos:String} {af:Array Edge} {g:Option (Nat×Bool)} {m':Int} {xs:List (List D)} (hx:ap L x = .rsl i es 0 p) (hH:Hp.get H i=some (.row tb es xs)) (hJ:Av i Γ.J=true) {g0 n0 c:Nat} (hη:(Γ.β0 i).2 = .slice (some ⟨g0,0,none⟩) n0 c)
  (hy:ap L y = .d (.int .i64 m')) (hn:m'=(q:Int)) (hp:p<=xs.length) (hgr:c<p+q) (ht:(aj Γ.τ t).sh = .slice t') (hti:(aj Γ.τ ti).sh = .int .i64)
  (hkn:(aj Γ.τ t').sh.known=true) (hes:(aj Γ.τ t').cells=es) (hz:zeroIs (aj Γ.τ t').zero zs) (hzok:gk (aj Γ.τ t').zero=true) (hzl:(aj Γ.τ t').zero.length=es) (he:0<es) (h0:0<q) (hroom:(p+q)*(aj Γ.τ t').bytes<=140737488355328) (h63:p+q<=maxLen)
  (hw:au ops L g=some true) (hd:Av d Γ.n=true) (hk:DS false Γ ops rest K (k+1) ((d,.row k)::L) ((k,.row t' es (xs.take p++Ap q zs))::H)) :
  DS false Γ ops (⟨some d,.call { callee:=.builtin .append,args:=#[x,y],argTypes:=#[t,ti] },ty,pos,af,g⟩::rest) K k L H:=by
 subst hn;refine gp hw λe a w m=>?_
 obtain⟨inf,z,hi,hzz,hs,hb,hzc⟩:=Ctx.info (Sh.known_ne hkn);have hzsz:z.cells.size=es:=by rw [<- A2,hzc,hzl]
 have hsz:inf.size=es:=by rw [hs];exact hes
 have hti':Γ.P.underlying ti=some (.int .i64):=by
  have hti2:Γ.sh ti = .int .i64:=hti;obtain⟨u,inf,z,h1,_,_,h4,_⟩:=ie (Γ.ti (t:=ti) (by rw [hti2];intro h;cases h));rw [h1];have h5:m5 Γ.P u = .int .i64:=h4▸hti2;cases u<;>simp [m5] at h5 ⊢
  exact h5
 have hηi:=anchor_η m hJ hη;obtain⟨_,_,hcs⟩:=evT m hx (ks · _ _ _ _);rcases hcs with ⟨hη2,_⟩|⟨g1,n1,cap,o,hη2,_,hmx,hn1,hvx,ho⟩
 ·rw [hηi] at hη2;cases hη2
 rw [hηi] at hη2;cases hη2;have h00:=ho (.inr rfl);rw [Ey] at h00;subst h00;obtain⟨cur,vs,hg,rfl,hnc,hcm,hcsz,htake,hlen,hxes,hone,hrep⟩:=row_at m hH hηi;obtain⟨s1,s2,s3⟩:=seg_cells hlen hxes hrep (j:=0) (q:=p) (by omega);rw [Ey] at s1 s3;simp only [List.drop_zero] at s1 s2 s3;have hpl:(xs.take p).length=p:=by rw [Aq];omega
 rw [hpl] at s1;have hdh:w.drew.heap=w.heap:=rfl;have hold:(Builtin.firstCells inf.size p (.slice (some ⟨g0,0,none⟩) p (c-0))).run Γ.P w.drew = .ok (vs.take (p*es)).toArray w.drew:=by
  refine run_firstCells_some (P:=Γ.P) w.drew inf.size p ⟨g0,0,none⟩ p (c-0) (vs.take (p*es)) (by rw [hsz];exact s1) λj v hj=>?_
  rw [Addr.add_lit,Dk,cell_cur (w:=w.drew) hg,<- Br];have hjl:j<p*es:=by
   rw [Bi] at hj;split at hj
   ·assumption
   ·cases hj
  rw [Bi,if_pos hjl,<- htake,Bi] at hj;split at hj
  ·exact hj
  ·cases hj
 have hmul:q*(aj Γ.τ t').bytes<=(p+q)*(aj Γ.τ t').bytes:=Be _ (by omega);have hrun:=Lib.run_append_grow_zeros (P:=Γ.P) w t ti ty t' inf z .i64 .i64 (Ctx.slice ht) hti' hi hzz (some ⟨g0,0,none⟩) p (c-0) (vs.take (p*es)) hold q h0 (by omega) (by omega) (by unfold maxLen at h63;omega)
  (by rw [hb];omega) (growslice_fits (by omega) (by rw [hb];exact hroom))
 have hge:=grownCap_ge w (p+q) (c-0) t';have hcm2:=grownCap_le_maxLen w (p+q) (c-0) t' h63;generalize grownCap w (p+q) (c-0) t'=c2 at hrun hge hcm2;have hop:(execOp a.eval ⟨some d,.call { callee:=.builtin .append,args:=#[x,y],argTypes:=#[t,ti] },ty,pos,af,g⟩).run Γ.P w = .ok (.value (.slice (some ⟨w.heap.size,0,none⟩) (p+q) c2)) (w.drew.alloc (.cells ((vs.take (p*es)).toArray++Builtin.zeroCells z.cells q++Builtin.zeroCells z.cells (c2-(p+q))) t')):=by
  simp only [execOp,resolve,invoke,builtin,Sem.run_bind,Sem.run_pure,Result.andThen_ok,D1,A3,Db,hvx,evI m hy,hrun]
 unfold Oper.wp;rw [hop];have m1:Models Γ (lo k) L H e a w.drew:=m.below ((Beld.refl _ _ _).drew);have hze:¬ e.dom k:=λh=>gn k ((m.top k).1 h)
 have hη3:(e.bindRow k (.slice (some ⟨w.heap.size,0,none⟩) (p+q) c2)).η k = .slice (some ⟨w.heap.size,0,none⟩) (p+q) c2:=if_pos rfl;have hNl:(Builtin.zeroCells z.cells q).toList.length=q*es:=by simp [Builtin.zeroCells,hzsz]
 have hfl:=qe z.cells q (by omega);have hnl:(xs.take p++Ap q zs).length=p+q:=by rw [Af,hpl,Cb]
 have m2:=m1.new (gn k) (hb:=.row t' es (xs.take p++Ap q zs)) (e':=e.bindRow k (.slice (some ⟨w.heap.size,0,none⟩) (p+q) c2)) (w':=w.drew.alloc (.cells ((vs.take (p*es)).toArray++Builtin.zeroCells z.cells q++Builtin.zeroCells z.cells (c2-(p+q))) t')) (λi=>or_congr (m.top i) Iff.rfl) (e.bindRow_ext _ _ hze) (em Γ.dr _ _)
  (λb hb=>by simp only [HB.owned,hη3,Value.ownBlock,Option.some.injEq] at hb;subst hb;exact Ah _) (λhX=>by
   have hzr:=f7 (X:=Γ.X (e.bindRow k (.slice (some ⟨w.heap.size,0,none⟩) (p+q) c2)) ((k,.row t' es (xs.take p++Ap q zs))::H)) (e:=e) (w:=w.drew.alloc (.cells ((vs.take (p*es)).toArray++Builtin.zeroCells z.cells q++Builtin.zeroCells z.cells (c2-(p+q))) t')) _ hzok;obtain⟨zl,zr⟩:=ri hz hzr.1;refine⟨vs.take (p*es)++(Builtin.zeroCells z.cells q).toList,⟨by rw [Af,s1,hNl,hnl,Bo],.inr ⟨w.heap.size,c2,_,by rw [hη3,hnl],Ak _,heap_alloc_new w.drew _,by rw [hnl];exact hge,hcm2,?_,?_⟩⟩,λr hr=>?_,λv hv=>?_,λr hr s hs=>?_⟩
   ·have:(vs.take (p*es)).toArray.size=p*es:=by rw [Hi];exact s1
    simp only [Array.size_append,this,size_zeroCells,hzsz,<- Bo];congr 1;omega
   ·rw [hnl,Cd,Cd,List.toList_toArray,Bl (by rw [Af,hNl,s1,Bo];exact Ah _),Ai (by rw [Af,hNl,s1,Bo];exact Ah _)]
   ·by_cases h:r<p
    ·rw [C2 (by omega),Dp];exact hxes _ _
    ·rw [Cc (by omega),Eb,<- zl,hzl]
   ·rcases List.mem_append.1 hv with hv|hv
    ·exact hone v (Bq hv)
    ·exact hzr.2 v (by rw [<- hzc];exact k7 hv)
   ·by_cases h:r<p
    ·have hxe:(xs.take p++Ap q zs)[r]=(xs.take p)[r]'(by omega):=C2 (by omega);have hs':s<((xs.take p)[r]'(by omega)).length:=by rw [<- hxe];exact hs
     obtain⟨v,p1,p2⟩:=s3 r (by omega) s hs';have hse:s<es:=by rw [<- s2 r (by omega)];exact hs'
     have hlt:(r+1)*es<=p*es:=Be _ h;rw [Bo,Nat.one_mul] at hlt;refine⟨v,by rw [Bm (by omega)];exact p1,?_⟩
     have p3:RepC (Γ.X e H) w v ((xs.take p++Ap q zs)[r][s]):=by simpa [hxe] using p2
     exact RepC.keep (em Γ.dr _ _).size (λb hb _=>(em Γ.dr _ _).block b hb) (λb hb hx=>hX b hb hx) (RepC.keep (w:=w) (w':=w.drew) (Ah _) (λ_ _ _=>rfl) (λ_ _ h=>h) p3)
    ·have hxe:(xs.take p++Ap q zs)[r]=zs:=by rw [Cc (by omega),Eb]
     have hs':s<zs.length:=by rw [<- hxe];exact hs
     obtain⟨v,q1,q2⟩:=zr s hs';have hse:s<es:=by rw [<- hzl,zl];exact hs'
     refine⟨v,?_,by simpa [hxe] using q2⟩
     have h2:p*es<=r*es:=Be _ (by omega);rw [A4 (by omega),s1,show r*es+s-p*es=(r-p)*es+s by rw [Nat.sub_mul];omega,hfl,<- hzsz,<- A2,om _ _ _ _ (by omega) (by rw [A2,hzsz];exact hse),hzc];exact q1)
 have m3:=m2.cast (ff k);exact⟨k+1,_,_,_,m3.put (s:=.row k) (v:=.slice (some ⟨w.heap.size,0,none⟩) (p+q) c2) (Ab hd) ⟨.inr rfl,hη3.symm,rfl⟩,hk⟩
theorem ds_apRR {d i es p j n:Nat} {tb ty:TypeId} {pos:String} {af:Array Edge} {g:Option (Nat×Bool)} {xs:List (List D)} (hx:ap L x = .rsl i es 0 p) (hy:ap L y = .rsl i es j n) (hH:Hp.get H i=some (.row tb es xs)) (ht:(aj Γ.τ t).sh = .slice t')
  (hkn:(aj Γ.τ t').sh.known=true) (hes:(aj Γ.τ t').cells=es) (hj:j+n<=xs.length) (hp:p+n<=xs.length) (h0:0<xs.length) (hw:au ops L g=some true) (hd:Av d Γ.n=true)
  (hS:zk H i (.row tb es (xs.take p++(xs.drop j).take n++xs.drop (p+n))) some=some H') (hk:DS false Γ ops rest K k ((d,.rsl i es 0 (p+n))::L) H') :
  DS false Γ ops (⟨some d,.call { callee:=.builtin .append,args:=#[x,y],argTypes:=#[t,t] },ty,pos,af,g⟩::rest) K k L H:=by
 rw [l6] at hS;cases hS;refine gp hw λe a w m=>?_
 obtain⟨inf,z,hi,_,hs,_⟩:=Ctx.info (Sh.known_ne hkn);have hsz:inf.size=es:=by rw [hs];exact hes
 obtain⟨hdm,_,hcs⟩:=evT m hx (ks · _ _ _ _);obtain⟨_,_,hcy⟩:=evT m hy (ks · _ _ _ _);rcases hcs with ⟨hη,_⟩|⟨g0,n0,cap,o,hη,_,hmx,hn1,hvx,ho⟩
 ·obtain⟨vs,ho,_⟩:=(m.heap _ (Hp.mem_of hH)).2;rcases ho.2 with ⟨_,h4⟩|⟨g,cap,cur,hη2,_⟩
  ·omega
  ·rw [hη] at hη2;cases hη2
 have h00:=ho (.inr rfl);rw [Ey] at h00;subst h00;obtain⟨cur,vs,hg,rfl,hnc,hcm,hcsz,htake,hlen,hxes,hone,hrep⟩:=row_at m hH hη;have hnl:((xs.drop j).take n).length=n:=by rw [Aq,A7];omega
 rcases hcy with ⟨hη2,_⟩|⟨g1,n1,cap1,o1,hη2,hk1,_,hn2,hvy,ho1⟩
 ·rw [hη] at hη2;cases hη2
 rw [hη] at hη2;cases hη2;obtain⟨s1,s2,s3⟩:=seg_cells hlen hxes hrep (j:=j) (q:=n) hj;rw [hnl] at s1;obtain⟨hfit,m2⟩:=row_write m hH (j:=p) (ys:=(xs.drop j).take n) (N:=(vs.drop (j*es)).take (n*es)) (by rw [hnl];exact hp) (by rw [hnl];exact s1) s2 (λv hv=>hone v (B2 (Bq hv))) s3 hη hg;rw [hnl] at m2;have hcell:∀ r v,((vs.drop (j*es)).take (n*es))[r]?=some v->w.cell? ((⟨g0,o1,none⟩:Addr).add r)=some v:=λr v hr=>by
  have hrl:r<n*es:=by
   rw [Bi] at hr;split at hr
   ·assumption
   ·cases hr
  have h0n:0<n:=Nat.pos_of_ne_zero λh=>by rw [h,Ey] at hrl;omega
  have:=ho1 (by omega)
  subst this;rw [Bi,if_pos hrl,Fq,<- htake,Bi] at hr;split at hr
  ·rw [Addr.add_lit,cell_cur hg,<- hr,Br]
  ·cases hr
 have hrun:=qm (P:=Γ.P) w t ty t' inf (Ctx.slice ht) hi g0 0 p (cap-0) tb cur hg ⟨g0,o1,none⟩ n (cap-j) ((vs.drop (j*es)).take (n*es)) (by rw [hsz];exact s1) hcell (λv hv=>hone v (B2 (Bq hv))) (by omega) (by rw [hsz,Dk];exact hfit);rw [hsz,Dk] at hrun;have hop:(execOp a.eval ⟨some d,.call { callee:=.builtin .append,args:=#[x,y],argTypes:=#[t,t] },ty,pos,af,g⟩).run Γ.P w = .ok (.value (.slice (some ⟨g0,0,none⟩) (p+n) (cap-0))) (w.setRow g0 (cur.toList.take (p*es)++(vs.drop (j*es)).take (n*es)++cur.toList.drop (p*es+((vs.drop (j*es)).take (n*es)).length)).toArray):=by
  simp only [execOp,resolve,invoke,builtin,Sem.run_bind,Sem.run_pure,Result.andThen_ok,D1,A3,Db,hvx,hvy,hrun]
 unfold Oper.wp;rw [hop];exact⟨k,_,_,e,m2.put (s:=.rsl i es 0 (p+n)) (v:=.slice (some ⟨g0,0,none⟩) (p+n) (cap-0)) (Ab hd) ⟨hdm,rfl,.inr ⟨g0,xs.length,cap,0,hη,Ak _,hmx,by omega,rfl,λ_=>by rw [Ey]⟩⟩,hk⟩
end
attribute [local irreducible] DW DS DL DQ Ev FnOk FnP ef bt DT
theorem ins_new {α:Type} (X:List α) (z y:α) {p n:Nat} (hn:X.length=n) (hp:p<=n) {A B:List α} (hA:A=X.take p++Ap (n+1-p) z) (hB:B=A.take p++[y]++A.drop (p+1)) :
  B.take (p+1)++(X.drop p).take (n-p)++B.drop (p+1+(n-p))=X.take p++y::X.drop p:=by
 have h1:(X.take p).length=p:=by rw [Aq];omega
 have h2:A.take p=X.take p:=by rw [hA,Bl (by omega),Ai (by omega)]
 have h3:B=(X.take p++[y])++A.drop (p+1):=by rw [hB,h2]
 have h4:(X.take p++[y]).length=p+1:=by simp [h1]
 have h5:B.length=n+1:=by rw [h3,Af,h4,A7,hA,Af,h1,Cb];omega
 have e1:B.drop (p+1+(n-p))=[]:=As (by omega);have e2:(X.drop p).take (n-p)=X.drop p:=Ai (by rw [A7];omega);have e3:B.take (p+1)=X.take p++[y]:=by rw [h3,Bl (by omega),Ai (by omega)]
 rw [e1,e2,e3,List.append_nil,Cf];rfl
theorem ins_in {α:Type} (X:List α) (y:α) {p:Nat} (hp:p<X.length) {A:List α} (hA:A=X.take (p+1)++X.drop p):A.take p++[y]++A.drop (p+1)=X.take p++y::X.drop p:=by
 have h1:(X.take (p+1)).length=p+1:=by rw [Aq];omega
 rw [hA,Bl (by omega),H5,Eo (by omega),List.drop_append_of_le_length (by omega),As (by omega),Cf];rfl
theorem insertU_fn (xs:List Upd) (y:Upd) (p:Nat) (hp:p<=xs.length) (hl:xs.length<=1000000) :
  FnOk false Tryz.prog tab b9 252 [.row 0,.d (.int .i64 p),.d (.slice 5 [aa y])] 1 1 [(0,.row 82 5 (xs.map aa))]
   (λk r H=>k=2/\r = .row 1/\H=[(1,.row 82 5 ((xs.take p++y::xs.drop p).map aa))]):=by
 refine frE Tryz.func252 ?_;intro O w0 E0 β0;have ll:(xs.map aa).length=xs.length:=Aa _;by_cases hpe:p=xs.length
 ·subst hpe;repeat' (first|refine zs ?_|(refine zm ?_ ?_<;>intro hg)|(exfalso;omega))
  repeat' (first|refine zr ?_|fail)
  exact⟨.inl rfl,_,rfl,id,2,.row 1,[(1,.row 82 5 ((xs.take xs.length++y::xs.drop xs.length).map aa))],rfl,⟨by rw [List.take_length,List.drop_length,Ar];rfl,trivial⟩,rfl,rfl,rfl,rfl,rfl,rfl,rfl,rfl,rfl⟩
 ·have h00:xs.map aa≠[]:=λh=>by rw [List.map_eq_nil_iff] at h;subst h;simp at hp hpe;exact hpe hp
  repeat' (first|refine zs ?_|(refine zm ?_ ?_<;>intro hg)|(exfalso;omega))
  refine ds_capRow rfl rfl rfl rfl rfl rfl (λh=>absurd h h00) (λg0 c hη hc hmx=>?_);by_cases hgr:c<xs.length+1
  ·repeat' ((fail_if_success (apply ip 10));(first|refine zs ?_|(refine zm ?_ ?_<;>intro hg)|fail))
   all_goals try (exfalso;simp only [Au,ll] at *;omega)
   obtain⟨z,hz⟩:∃ z:List D,z=[.int .i64 0,.int .i64 0,.slice 2 [],.slice 2 [],.slice 2 []]:=⟨_,rfl⟩;refine ds_apGrow (p:=p) (q:=xs.length+1-p) z rfl rfl rfl hη rfl (by simp only [Au,ll];omega) (by omega) (by omega) rfl rfl rfl rfl (by subst hz;exact⟨.inl rfl,.inl rfl,.inr ⟨rfl,2,rfl⟩,.inr ⟨rfl,2,rfl⟩,.inr ⟨rfl,2,rfl⟩,trivial⟩) rfl rfl (by omega) (by omega) (Nat.le_trans (Nat.mul_le_mul_left _ (show _<=88 from Ah _)) (by omega)) (by unfold maxLen;omega) rfl rfl ?_;obtain⟨A,hA⟩:∃ A,A=(xs.map aa).take p++Ap (xs.length+1-p) z:=⟨_,rfl⟩;have hAl:A.length=xs.length+1:=by rw [hA,Af,Aq,Cb,ll];omega
   rw [<- hA];repeat' ((fail_if_success (apply bk 11));(first|refine zs ?_|fail))
   all_goals try (exfalso;simp only [Au,ll] at *;omega)
   obtain⟨B,hB⟩:∃ B,B=A.take p++[aa y]++A.drop (p+1):=⟨_,rfl⟩;have hBl:B.length=xs.length+1:=by rw [hB,Af,Af,Aq,A7,hAl,Au];omega
   refine ds_copyD (j:=p) (n:=xs.length+1-p) (ys:=[aa y]) (H':=[(1,.row 82 5 B),(0,.row 82 5 (xs.map aa))]) (by rw [hAl];rfl) rfl rfl rfl rfl rfl (by simp) (by rw [Au];omega) (by rw [Au];omega) rfl rfl (by rw [hB];rfl) ?_;repeat' ((fail_if_success (apply bk 11));(first|refine zs ?_|fail))
   all_goals try (exfalso;simp only [Au,ll] at *;omega)
   refine j6 8 (by kernel_rfl) (by kernel_rfl) (by kernel_rfl) rfl rfl rfl ?_;repeat' (first|refine zs ?_|fail)
   refine ds_copyRR (q:=xs.length-p) (j:=p+1) (p:=p) (H':=[(1,.row 82 5 (B.take (p+1)++((xs.map aa).drop p).take (xs.length-p)++B.drop (p+1+(xs.length-p)))),(0,.row 82 5 (xs.map aa))]) rfl rfl rfl rfl rfl rfl rfl (by omega) (by show _=min _ _;simp only [Au,ll,hBl];omega) (by rw [ll];omega) (by rw [hBl];omega) rfl rfl rfl ?_;rw [ins_new (xs.map aa) z (aa y) ll hp hA hB];repeat' (first|refine zr ?_|fail)
   exact⟨.inl rfl,_,rfl,id,2,.row 1,[(1,.row 82 5 ((xs.take p++y::xs.drop p).map aa))],rfl,⟨by rw [Ar,A3,G2,G3];rfl,trivial⟩,rfl,rfl,rfl,rfl,rfl,rfl,rfl,rfl,rfl⟩
  ·repeat' ((fail_if_success (apply ip 13));(first|refine zs ?_|(refine zm ?_ ?_<;>intro hg)|fail))
   all_goals try (exfalso;simp only [Au,ll] at *;omega)
   repeat' fail
   refine je (s:=.rsl 0 5 0 (xs.length+1)) (by have h9:=@ev_slice_ext;rw [show xs.length+1=(((xs.map aa).length:Int)+([aa y].length:Int)).toNat by rw [ll];rfl];exact ev_slice_ext (es:=5) (len:=0) rfl rfl rfl rfl hη rfl (by intro h;cases h) (by omega) (by rw [Au];omega) hmx) rfl rfl ?_;repeat' (first|refine zs ?_|fail)
   refine je (ev_overlaps (tR:=4) (t:=70) (i:=0) (es:=5) Tryz.func275 (by kernel_rfl) (by kernel_rfl) (by kernel_rfl) (by kernel_rfl) rfl rfl (by omega) rfl (by simp) rfl rfl h00) rfl rfl ?_;repeat' ((fail_if_success (apply bk 15));(first|refine zs ?_|fail))
   all_goals try (exfalso;simp only [Au,ll] at *;omega)
   refine j6 8 (by kernel_rfl) (by kernel_rfl) (by kernel_rfl) rfl rfl rfl ?_;repeat' (first|refine zs ?_|fail)
   refine ds_copyGrow 0 (p:=p) (n:=xs.length-p) (H':=[]) rfl rfl rfl rfl (by rw [Dk];rfl) (by rw [Au];omega) (Dk _).symm (by rw [ll]) rfl rfl rfl (by rw [ll];omega) (by omega) (by omega) rfl rfl rfl ?_;obtain⟨A,hA⟩:∃ A,A=(xs.map aa).take (p+1)++(xs.map aa).drop p:=⟨_,rfl⟩;have hAl:A.length=xs.length+1:=by rw [hA,Af,Aq,A7,ll];omega
   rw [<- hA];repeat' (first|refine zs ?_|fail)
   all_goals try (exfalso;simp only [Au,ll] at *;omega)
   refine ds_copyD (j:=p) (n:=xs.length+1-p) (ys:=[aa y]) (H':=[(1,.row 82 5 (A.take p++[aa y]++A.drop (p+1)))]) (by rw [hAl];rfl) rfl rfl rfl rfl rfl (by simp) (by rw [Au];omega) (by rw [Au];omega) rfl rfl rfl ?_;rw [ins_in (xs.map aa) (aa y) (by rw [ll];omega) hA];repeat' (first|refine zr ?_|fail)
   exact⟨.inl rfl,_,rfl,id,2,.row 1,[(1,.row 82 5 ((xs.take p++y::xs.drop p).map aa))],rfl,⟨by rw [Ar,A3,G2,G3];rfl,trivial⟩,rfl,rfl,rfl,rfl,rfl,rfl,rfl,rfl,rfl⟩
theorem del_list {α:Type} (X:List α) (z:List α) {p n m:Nat} (hn:X.length=n) (hp:p<n) (hm:m=n-(p+1)) {A:List α} (hA:A=X.take p++(X.drop (p+1)).take m++X.drop (p+m)) {q:Nat} (hq:q=p+m):(A.take q++z).take q=X.eraseIdx p:=by
 have h1:(X.take p).length=p:=by rw [Aq];omega
 have h2:((X.drop (p+1)).take m)=X.drop (p+1):=Ai (by rw [A7];omega);have h3:(X.take p++X.drop (p+1)).length=q:=by rw [Af,h1,A7];omega
 have h4:A.take q=X.take p++X.drop (p+1):=by rw [hA,h2,Bl (by omega),Ai (by omega)]
 rw [h4,Bl (by omega),Ai (by omega),D8]
theorem deleteU_fn (xs:List Upd) (p:Nat) (hp:p<xs.length) (hl:xs.length<=1000000) :
  FnOk false Tryz.prog tab b9 202 [.row 0,.d (.int .i64 p),.d (.int .i64 ((p:Int)+1))] 1 1 [(0,.row 82 5 (xs.map aa))]
   (λk r H=>k=2/\r = .row 1/\H=[(1,.row 82 5 ((xs.eraseIdx p).map aa))]):=by
 refine frE Tryz.func202 ?_;intro O w0 E0 β0;have ll:(xs.map aa).length=xs.length:=Aa _;repeat' (first|refine zs ?_|fail)
 refine je (ev_slice3 (t':=82) (n:=p) (m':=(p:Int)+1) (p:=(xs.map aa).length) rfl rfl rfl rfl rfl rfl rfl (by omega) (by omega) (by omega) (Dn _)) rfl rfl ?_;repeat' ((fail_if_success (apply bk 5));(first|refine zs ?_|(refine zm ?_ ?_<;>intro hg)|fail))
 all_goals try (exfalso;omega)
 refine j6 6 (by kernel_rfl) (by kernel_rfl) (by kernel_rfl) rfl rfl rfl ?_;repeat' (first|refine zs ?_|fail)
 obtain⟨m,hm⟩:∃ m,m=((xs.map aa).length:Int).toNat-((p:Int)+1).toNat:=⟨_,rfl⟩;have hm':m=xs.length-(p+1):=by rw [hm,ll];omega
 obtain⟨A,hA⟩:∃ A,A=(xs.map aa).take p++((xs.map aa).drop (p+1)).take m++(xs.map aa).drop (p+m):=⟨_,rfl⟩;have hAl:A.length=xs.length:=by rw [hA,Af,Af,Aq,Aq,A7,A7,ll];omega
 refine ds_apRR (p:=p) (j:=p+1) (n:=m) (H':=[(0,.row 82 5 A)]) rfl (by rw [hm];rfl) rfl rfl rfl rfl (by omega) (by omega) (by omega) rfl rfl (by rw [hA];rfl) ?_;repeat' (first|refine zs ?_|(exfalso;omega))
 refine je (ev_slice_far (t':=82) rfl rfl rfl rfl rfl rfl rfl (by omega) (by omega) (by omega) (by omega)) rfl rfl ?_;obtain⟨z,hz⟩:∃ z:List D,z=[.int .i64 0,.int .i64 0,.slice 2 [],.slice 2 [],.slice 2 []]:=⟨_,rfl⟩;refine ds_clear (es:=5) (te:=82) (tb:=82) (xs:=A) (j:=0+(((p+m:Nat):Int)).toNat) (n:=(((xs.map aa).length:Int)).toNat-(((p+m:Nat):Int)).toNat) z rfl rfl rfl rfl (by subst hz;exact⟨.inl rfl,.inl rfl,.inr ⟨rfl,2,rfl⟩,.inr ⟨rfl,2,rfl⟩,.inr ⟨rfl,2,rfl⟩,trivial⟩) rfl rfl (by omega) (by omega) (by omega) rfl rfl ?_;repeat' (first|refine zs ?_|fail)
 refine ak (yy (n:=p+m) 6 rfl rfl (by simp only [Af,Aq,A7,Cb];omega) rfl) ?_;rw [Cf,show 0+(((p+m:Nat):Int)).toNat=p+m by omega,del_list (xs.map aa) _ ll hp hm' hA rfl];repeat' (apply c9)
 exact⟨.inl rfl,_,rfl,id,2,.row 1,[(1,.row 82 5 ((xs.eraseIdx p).map aa))],rfl,⟨by rw [D8,D8,Ar,G2,G3];rfl,trivial⟩,rfl,rfl,rfl,rfl,rfl,rfl,rfl,rfl,rfl⟩
end
end Go.Proofs.YtapciiffpnociadGreat
