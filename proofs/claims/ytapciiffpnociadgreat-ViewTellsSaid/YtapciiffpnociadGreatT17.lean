/- Several texts in one: DagU DagV DagW DagX GosP DagY MoP ScoA TokT TokU TokV TokW TokX TokY TokZ TokA. Condition: none. -/
import Derived.Test.YtapciiffpnociadGreatT16
import Derived.Test.YtapciiffpnociadGreatT02
import Derived.Test.YtapciiffpnociadGreatT11
import Derived.Test.YtapciiffpnociadGreatT10
set_option maxHeartbeats 8000000
open Bool renaming and_eq_true→Ae,false_or→B9,not_eq_true→Cm
open Classical renaming byContradiction→Bc
open List renaming countP_append→G8,countP_cons→Hr,drop_eq_getElem_cons→Am,drop_of_length_le→As,getD→A6,getElem?_eq_getElem→Ad,getElem_append_left→C2,getElem_append_right→Cc,getElem_mem→Aj,length_append→Af,length_cons→Bj,length_map→Aa,length_nil→Dl,length_singleton→Au,map_append→Ar,mem_append_left→Ax,mem_append_right→B1,mem_cons→Bh,mem_cons_of_mem→Ag,mem_cons_self→Ac,replicate→Ap,take_of_length_le→Ai,take_succ_eq_append_getElem→An
open Nat renaming le_refl→Ah,not_lt_zero→A9,zero_le→Ak
namespace Go.Proofs.YtapciiffpnociadGreat
open Go Go.RowKit
theorem roundB_iff {has:List Upd} (hs:StrU has) (hr:∀ u∈has,readyU has u=true):r5 has=true↔∃ u∈has,¬ Der has u.id:=by
 unfold r5;rw [List.any_eq_true];constructor
 ·rintro⟨u,hu,h⟩;exact⟨u,hu,λhd=>der_no_round hs hd u hu rfl ((behM_iff hs _ _).1 h)⟩
 ·rintro⟨u,hu,h⟩;refine Bc λhn=>h (no_round_der hr (λv hv hre=>hn ⟨v,hv,(behM_iff hs _ _).2 hre⟩) u hu)
def i7 (has:List Upd) (F:List Bool) (j:UId):Bool:=match has.findIdx? λu=>u.id.same j with
 | some n=>F.getD n false
 | none=>false
theorem findIdxS_at {has:List Upd} (hs:StrU has) {i:Nat} (hi:i<has.length):has.findIdx? (λu=>u.id.same (has[i]'hi).id)=some i:=by
 rw [List.findIdx?_eq_some_iff_getElem];refine⟨hi,same_iff.2 rfl,λj hj=>?_⟩
 rw [same_iff];intro he;have h1:=hs.uniq (Aj (by omega)) (Aj hi) he;have:=(List.getElem_inj hs.nodup).1 h1
 omega
theorem markOf_at {has:List Upd} (hs:StrU has) (F:List Bool) {i:Nat} (hi:i<has.length):i7 has F (has[i]'hi).id=F.getD i false:=by unfold i7;rw [findIdxS_at hs hi]
def FreeOk (has:List Upd) (F:List Bool):Prop:=F.length=has.length/\∀ (i:Nat) (hi:i<has.length),F.getD i false=true->Der has (has[i]'hi).id
theorem FreeOk.mark {has:List Upd} {F:List Bool} (h:FreeOk has F) {j:UId} (hm:i7 has F j=true):Der has j:=by
 unfold i7 at hm;split at hm
 ·rename_i n hf;obtain⟨hn,hs,_⟩:=List.findIdx?_eq_some_iff_getElem.1 hf;rw [<- same_iff.1 hs];exact h.2 n hn hm
 ·cases hm
theorem FreeOk.set {has:List Upd} {F:List Bool} (h:FreeOk has F) {i:Nat} (hi:i<has.length) (ha:(cv (has[i]'hi)).all (i7 has F)=true):FreeOk has (F.set i true):=by
 refine⟨by rw [List.length_set];exact h.1,λj hj hm=>?_⟩
 by_cases he:i=j
 ·subst he;exact .mk _ (Aj hi) λk hk=>h.mark (List.all_eq_true.1 ha k hk)
 ·refine h.2 j hj ?_;rw [A6,List.getElem?_set_ne he] at hm;exact hm
def Closed (has:List Upd) (F:List Bool):Prop:=∀ (i:Nat) (hi:i<has.length),F.getD i false=false->(cv (has[i]'hi)).all (i7 has F)=false
theorem Closed.der {has:List Upd} (hs:StrU has) {F:List Bool} (h:Closed has F) {j:UId} (hd:Der has j):i7 has F j=true:=by
 induction hd with
 | mk u hu _ ih =>
  obtain⟨i,hi,rfl⟩:=List.mem_iff_getElem.1 hu;rw [markOf_at hs F hi];cases hb:F.getD i false with
  | true=>rfl
  | false =>
   have:=h i hi hb
   rw [List.all_eq_true.2 ih] at this;cases this
theorem free_iff {has:List Upd} (hs:StrU has) {F:List Bool} (h:FreeOk has F) (hc:Closed has F) {i:Nat} (hi:i<has.length):F.getD i false=true↔Der has (has[i]'hi).id :=
 ⟨h.2 i hi,λhd=>by rw [<- markOf_at hs F hi];exact hc.der hs hd⟩
def pf (F:List Bool):Nat:=F.countP λb=>!b
theorem leftF_set {F:List Bool} {i:Nat} (hi:i<F.length) (hf:F.getD i false=false):pf (F.set i true)+1=pf F:=by
 have e:F=F.take i++F[i]::F.drop (i+1):=by rw [<- Am hi,List.take_append_drop]
 have hb:F[i]=false:=by rw [A6,Ad hi] at hf;exact hf
 have e2:F.set i true=F.take i++true::F.drop (i+1):=by rw [List.set_eq_take_append_cons_drop,if_pos hi]
 unfold pf;rw [e2];conv=>rhs;rw [e]
 rw [G8,G8,Hr,Hr,hb];simp;omega
theorem leftF_pos {F:List Bool}:0<pf F↔∃ (i:Nat) (_:i<F.length),F.getD i false=false:=by
 unfold pf;rw [List.countP_pos_iff];constructor
 ·rintro⟨b,hb,h⟩;obtain⟨i,hi,rfl⟩:=List.mem_iff_getElem.1 hb;exact⟨i,hi,by rw [A6,Ad hi];simpa using h⟩
 ·rintro⟨i,hi,h⟩;rw [A6,Ad hi] at h;exact⟨F[i],Aj hi,by simpa using h⟩
theorem left_iff {has:List Upd} (hs:StrU has) {F:List Bool} (h:FreeOk has F) (hc:Closed has F):0<pf F↔∃ u∈has,¬ Der has u.id:=by
 rw [leftF_pos];constructor
 ·rintro⟨i,hi,hf⟩;have hi':i<has.length:=by rw [<- h.1];exact hi
  exact⟨has[i],Aj hi',λhd=>by rw [(free_iff hs h hc hi').2 hd] at hf;cases hf⟩
 ·rintro⟨u,hu,hd⟩;obtain⟨i,hi,rfl⟩:=List.mem_iff_getElem.1 hu;refine⟨i,by rw [h.1];exact hi,?_⟩
  cases hb:F.getD i false with
  | false=>rfl
  | true=>exact absurd ((free_iff hs h hc hi).1 hb) hd
theorem markOf_idx (has:List Upd) (F:List Bool) (j:UId):(kr (λu=>u.id.same j) has = -1/\i7 has F j=false)∨∃ (n:Nat) (_:n<has.length),kr (λu=>u.id.same j) has=n/\i7 has F j=F.getD n false:=by
 unfold kr i7;cases h:has.findIdx? λu=>u.id.same j with
 | none=>exact .inl ⟨rfl,rfl⟩
 | some n=>exact .inr ⟨n,(List.findIdx?_eq_some_iff_getElem.1 h).1,rfl,rfl⟩
attribute [local irreducible] DW DS DL DQ Ev FnOk FnP ef bt DT
theorem isRound_fn (has:List Upd) (hl:has.length<=100000) (hs:StrU has) (hk:∀ u∈has,u.parents.length+u.takes.length<=1000000):Fn 145 [.d (.slice 5 (has.map aa))] (λr=>∃ b,r = .d (.bool b)/\(b=true↔∃ u∈has,¬ Der has u.id)):=by
 refine fqE Tryz.func145 ?_;intro O w0 E0 β0;have ll:(has.map aa).length=has.length:=Aa _;repeat' (first|refine zs ?_|fail)
 refine ds_mk ((Ap has.length false).map cu) rfl rfl (by rw [ll]) rfl rfl rfl rfl rfl rfl (by show 1*_<=_;omega) (by unfold maxLen;omega) (by rw [List.map_replicate];rfl) rfl rfl ?_;repeat' (first|refine zs ?_|fail)
 refine ag (ι:=List Bool×Bool) (λx=>⟨1,[(0,.d (.slice 5 (has.map aa))),(3,.row 0),(4,.d (.int .i64 (pf x.1))),(5,.d (.bool x.2))],[(0,.row 4 1 (x.1.map cu))]⟩)
  (λx=>FreeOk has x.1/\(x.2=false->Closed has x.1)) (λx=>2*pf x.1+(match x.2 with|true=>1|false=>0)) (Ap has.length false,true)
  ⟨⟨List.length_replicate,λi hi h=>by rw [A6,List.getElem?_replicate] at h;split at h<;>cases h⟩,λh=>by cases h⟩ (ai id ⟨rfl,rfl,?_,rfl,trivial⟩ ⟨rfl,trivial⟩ rfl rfl rfl rfl rfl rfl) ?_
 ·exact congrArg (λz:Int=>SV.d (.int .i64 z)) (by unfold pf;rw [ll,List.countP_replicate];simp)
 rintro⟨F,ch⟩ ⟨g1,g2⟩;dsimp only at g1 g2 ⊢;cases ch with
 | false =>
  repeat' (first|refine zr ?_|fail)
  exact⟨.inl rfl,_,rfl,rfl,_,rfl,by rw [decide_eq_true_eq,<- left_iff hs g1 (g2 rfl)];omega⟩
 | true =>
  clear g2;repeat' (first|refine zs ?_|fail)
  refine ag (ι:=Nat×List Bool×Bool) (λx=>⟨1,[(0,.d (.slice 5 (has.map aa))),(3,.row 0),(4,.d (.int .i64 (pf x.2.1))),(5,.d (.bool x.2.2)),(6,.d (.int .i64 x.1))],[(0,.row 4 1 (x.2.1.map cu))]⟩)
   (λx=>x.1<=has.length/\FreeOk has x.2.1/\(x.2.2=false->x.2.1=F/\∀ (j:Nat) (hj:j<has.length),j<x.1->F.getD j false=false->(cv (has[j]'hj)).all (i7 has F)=false)/\(x.2.2=true->pf x.2.1<pf F)) (λx=>has.length-x.1) (0,F,false)
   ⟨Ak _,g1,λ_=>⟨rfl,λj _ h=>absurd h (A9 j)⟩,λh=>by cases h⟩ (er id) ?_
  rintro⟨i,G,cg⟩ ⟨f1,f2,f3,f4⟩;dsimp only at f1 f2 f3 f4 ⊢;have lg:(G.map cu).length=G.length:=Aa _;have lgh:=f2.1;by_cases hi:i<has.length
  ·have w1:=underOf_fn has[i] (hk _ (Aj hi));have hul:(cv has[i]).length<=1000000:=by unfold cv;rw [Af];exact hk _ (Aj hi)
   obtain⟨ids,hids⟩:∃ ids,ids=cv has[i]:=⟨_,rfl⟩;rw [<- hids] at w1 hul;have li:(ids.map ck).length=ids.length:=Aa _;have hiG:i<G.length:=by omega
   repeat' (first|refine zs ?_|refine z21 ?_ (hc:=by apply w1)|(refine zm ?_ ?_<;>intro hg)|(exfalso;omega))
   have hgd:G.getD i false=G[i]:=by rw [A6,Ad hiG];rfl
   refine ag (ι:=Nat) (λk=>⟨1,[(0,.d (.slice 5 (has.map aa))),(3,.row 0),(4,.d (.int .i64 (pf G))),(5,.d (.bool cg)),(6,.d (.int .i64 i)),(7,.d (.slice 2 (ids.map ck))),(8,.d (.bool (!G[i] && (ids.take k).all (i7 has G)))),(9,.d (.int .i64 k))],[(0,.row 4 1 (G.map cu))]⟩)
    (λk=>k<=ids.length) (λk=>ids.length-k) 0 (Ak _) (ai id ⟨rfl,rfl,rfl,rfl,rfl,rfl,by rw [List.take_zero,List.all_nil,Bool.and_true];rfl,rfl,trivial⟩ ⟨rfl,trivial⟩ rfl rfl rfl rfl rfl rfl) ?_
   clear w1;intro k e1;have stay:(!G[i] && ids.all (i7 has G))=false->((i+1<=has.length)/\FreeOk has G/\(cg=false->G=F/\∀ (j:Nat) (hj:j<has.length),j<i+1->F.getD j false=false->(cv (has[j]'hj)).all (i7 has F)=false)/\(cg=true->pf G<pf F)):=λhc=>⟨hi,f2,λh=>by
     obtain⟨h1,h2⟩:=f3 h;refine⟨h1,λj hj hlt hf=>?_⟩
     by_cases he:j=i
     ·subst he;subst h1;rw [hgd] at hf;rw [hf,hids] at hc;simpa using hc
     ·exact h2 j hj (by omega) hf,f4⟩
   cases hok:(!G[i] && (ids.take k).all (i7 has G)) with
   | true =>
    by_cases hk2:k<ids.length
    ·have w2:=qp has ids[k] (by omega);have hst:(!G[i] && (ids.take (k+1)).all (i7 has G))=i7 has G ids[k]:=by
      rw [An hk2,List.all_append,<- Bool.and_assoc,hok];simp
     rcases markOf_idx has G ids[k] with ⟨m1,m2⟩|⟨n,hn,m1,m2⟩
     ·rw [m1] at w2;rw [m2] at hst;repeat' (first|refine z0 ?_|refine z12 ?_|apply gy|(apply kh;exact rfl;exact rfl;(apply iq;(omega));exact rfl;exact rfl;(exact kb rfl);exact rfl;exact rfl;exact rfl;exact rfl;exact rfl;exact rfl)|refine zs ?_|refine z21 ?_ (hc:=by apply w2)|(refine zm ?_ ?_<;>intro hg)|(exfalso;omega))
      exact⟨k+1,hk2,ai id ⟨rfl,rfl,rfl,rfl,rfl,rfl,by rw [hst];rfl,rfl,trivial⟩ ⟨rfl,trivial⟩ rfl rfl rfl rfl rfl rfl,by omega⟩
     ·have hnG:n<G.length:=by omega
      have hgn:G.getD n false=G[n]:=by rw [A6,Ad hnG];rfl
      rw [m1] at w2;rw [m2,hgn] at hst;repeat' (first|refine z0 ?_|refine z12 ?_|apply gy|(apply kh;exact rfl;exact rfl;(apply iq;(omega));exact rfl;exact rfl;(exact kb rfl);exact rfl;exact rfl;exact rfl;exact rfl;exact rfl;exact rfl)|refine zs ?_|refine z21 ?_ (hc:=by apply w2)|(refine zm ?_ ?_<;>intro hg)|(exfalso;omega))
      exact⟨k+1,hk2,ai id ⟨rfl,rfl,rfl,rfl,rfl,rfl,by rw [hst];rfl,rfl,trivial⟩ ⟨rfl,trivial⟩ rfl rfl rfl rfl rfl rfl,by omega⟩
    ·rw [Ai (by omega)] at hok;have hok2:=hok;rw [Ae,Bool.not_eq_true'] at hok2;have hls:=leftF_set hiG (hgd.trans hok2.1);have hcl:pf G<=G.length:=List.countP_le_length;repeat' (first|refine z0 ?_|refine z12 ?_|apply gy|(apply kh;exact rfl;exact rfl;(apply iq;(omega));exact rfl;exact rfl;(exact kb rfl);exact rfl;exact rfl;exact rfl;exact rfl;exact rfl;exact rfl)|refine zs ?_|(refine zm ?_ ?_<;>intro hg)|(exfalso;omega))
     refine⟨(i+1,G.set i true,true),⟨hi,f2.set hi (by rw [<- hids];exact hok2.2),λh=>(by cases h),λ_=>?_⟩,ai id ⟨rfl,rfl,?_,rfl,rfl,trivial⟩ ⟨by rw [List.map_set];rfl,trivial⟩ rfl rfl rfl rfl rfl rfl,by show has.length-(i+1)<has.length-i;omega⟩
     ·dsimp only;cases cg with
      | false=>obtain⟨h1,_⟩:=f3 rfl;subst h1;omega
      | true=>have:=f4 rfl;omega
     ·exact congrArg (λz:Int=>SV.d (.int .i64 z)) (by dsimp only;omega)
   | false =>
    have hall:(!G[i] && ids.all (i7 has G))=false:=by
     cases hb:(!G[i] && ids.all (i7 has G)) with
     | false=>rfl
     | true =>
      rw [Ae] at hb;have:=List.all_eq_true.1 hb.2
      rw [hb.1,Bool.true_and] at hok;have h9:(ids.take k).all (i7 has G)=true:=List.all_eq_true.2 λx hx=>this x (List.mem_of_mem_take hx)
      rw [h9] at hok;cases hok
    repeat' (first|refine zs ?_|(refine zm ?_ ?_<;>intro hg)|(exfalso;omega))
    all_goals exact⟨(i+1,G,cg),stay hall,er id,by show has.length-(i+1)<has.length-i;omega⟩
  ·repeat' (first|refine zs ?_|(refine zm ?_ ?_<;>intro hg)|(exfalso;omega))
   refine⟨(G,cg),⟨f2,λh=>?_⟩,er id,?_⟩
   ·obtain⟨h1,h2⟩:=f3 h;dsimp only at h1 ⊢;subst h1;exact λj hj hf=>h2 j hj (by omega) hf
   ·dsimp only;cases cg with
    | false=>obtain⟨h1,_⟩:=f3 rfl;subst h1;dsimp only;omega
    | true=>have:=f4 rfl;dsimp only;omega
theorem rises_adj {α:Type} {o:α->α->Int}:∀ {l:List α},dg o l=true↔∀ (i:Nat) (h:i+1<l.length),o (l[i]'(by omega)) l[i+1]<0
 | []=>⟨λ_ i h=>absurd h (A9 _),λ_=>rfl⟩
 | [x]=>⟨λ_ i h=>by simp at h,λ_=>rfl⟩
 | x::y::l=>by
  unfold dg
  rw [Ae,decide_eq_true_eq,rises_adj]
  constructor
  ·rintro⟨h1,h2⟩ i h
   cases i with
   | zero=>exact h1
   | succ i=>exact h2 i (by simpa using h)
  ·intro h
   exact⟨h 0 (by simp),λi hi=>h (i+1) (by simpa using hi)⟩
theorem pairs_iff {α:Type} {o:α->α->Int} {a b:List α}:(dg o a=true/\dg o b=true)↔∀ (i:Nat) (h:i+1<(a++b).length),i+1≠a.length->o ((a++b)[i]'(by omega)) (a++b)[i+1]<0:=by
 rw [rises_adj,rises_adj];constructor
 ·rintro⟨h1,h2⟩ i h hne;by_cases hi:i+1<a.length
  ·rw [C2 (by omega),C2 hi];exact h1 i hi
  ·rw [Af] at h;rw [Cc (by omega),Cc (by omega)];have:=h2 (i-a.length) (by omega)
   simp only [show i+1-a.length=i-a.length+1 by omega];exact this
 ·intro h;refine⟨λi hi=>?_,λi hi=>?_⟩
  ·have:=h i (by rw [Af];omega) (by omega)
   rw [C2 (by omega),C2 hi] at this;exact this
  ·have:=h (i+a.length) (by rw [Af];omega) (by omega)
   rw [Cc (by omega),Cc (by omega)] at this;simp only [show i+a.length+1-a.length=i+1 by omega,Nat.add_sub_cancel] at this;exact this
theorem any_step {α:Type} {f:α->Bool} {l:List α} {i:Nat} (hi:i<l.length):(l.drop i).any f=(f l[i] || (l.drop (i+1)).any f):=by rw [Am hi,List.any_cons]
theorem rcheckR_fn (r:Rpl) (hh:r.has.length<=4398046511104) (hw:r.waits.length<=4398046511104):Fn 81 [jf r] (λres=>res = .d (.int .i64 (dp r))):=by
 have lh:(r.has.map aa).length=r.has.length:=Aa _;have lw:(r.waits.map aa).length=r.waits.length:=Aa _;refine fqE Tryz.func81 ?_;intro O w0 E0 β0;by_cases h1:200<r.has.length+r.waits.length
 ·have hc:dp r=2:=if_pos h1;rw [hc];repeat' (first|refine zr ?_|(refine zm ?_ ?_<;>intro hg)|(exfalso;omega))
  all_goals exact a6 rfl rfl
 ·have hc:dp r=if bm db (r.has++r.waits)≠0 then bm db (r.has++r.waits)
    else if dg (λa b:Upd=>bw a.id b.id) r.has=false∨dg (λa b:Upd=>bw a.id b.id) r.waits=false∨(r.waits.any λu=>hasU r.has u.id)=true then 4
    else if (r.has.any λu=>!readyU r.has u)=true then 5
    else if r5 r.has=true∨(r.waits.any λu=>readyU r.has u)=true then 4
    else 0:=if_neg h1
  rw [hc];clear hc;repeat' (first|(apply dt_bs0;exact rfl;exact rfl;exact rfl;exact rfl;exact rfl;exact rfl;exact rfl;exact rfl;exact rfl;exact rfl)|(first|refine zs ?_|(refine zm ?_ ?_<;>intro hg)|fail))
  all_goals try (exfalso;omega)
  refine ak (bh 3 rfl rfl rfl) ?_;refine ak (ai (k':=1) (L':=[(1,.loc 0 0),(2,.d (.int .i64 0)),(3,.d (.slice 5 ((r.has++r.waits).map aa))),(4,.d (.int .i64 0))]) (H':=[(0,rplB r)]) id ⟨rfl,rfl,by rw [Ar];rfl,rfl,trivial⟩ ⟨rfl,trivial⟩ rfl rfl rfl rfl rfl rfl) ?_;obtain⟨all,hall⟩:∃ all,all=r.has++r.waits:=⟨_,rfl⟩;have hal:all.length=r.has.length+r.waits.length:=by rw [hall,Af]
  have la:(all.map aa).length=all.length:=Aa _;have hpair:=pairs_iff (o:=λa b:Upd=>bw a.id b.id) (a:=r.has) (b:=r.waits);rw [<- hall];simp only [<- hall] at hpair;repeat' fail
  refine ag (ι:=Nat) (λi=>⟨1,[(1,.loc 0 0),(2,.d (.int .i64 0)),(3,.d (.slice 5 (all.map aa))),(4,.d (.int .i64 i))],[(0,rplB r)]⟩)
   (λi=>i<=all.length/\bm db all=bm db (all.drop i)) (λi=>all.length-i) 0 ⟨Ak _,rfl⟩ (er id) ?_
  rintro i ⟨g1,g2⟩;dsimp only at g1 g2 ⊢;by_cases hi:i<all.length
  ·rw [ga hi] at g2;have w2:=x8 all[i];by_cases h3:db all[i]≠0
   ·rw [if_pos h3] at g2;rw [g2,if_pos h3];repeat' (first|refine zr ?_|refine z21 ?_ (hc:=by apply w2)|(refine zm ?_ ?_<;>intro hg)|(exfalso;omega))
    all_goals exact a6 rfl rfl
   ·rw [if_neg h3] at g2;repeat' (first|refine zr ?_|refine z21 ?_ (hc:=by apply w2)|(refine zm ?_ ?_<;>intro hg)|(exfalso;omega))
    exact⟨i+1,⟨hi,g2⟩,er id,by omega⟩
  ·rw [ir (by omega)] at g2;rw [g2,if_neg (by simp)];have hok:=rv g2;have hsm:∀ u∈all,u.parents.length+u.takes.length<=1000000:=λu hu=>by have:=pu (hok u hu);omega
   clear g1 g2;repeat' (first|refine zs ?_|(refine zm ?_ ?_<;>intro hg)|(exfalso;omega))
   clear hi;refine ag (ι:=Nat) (λi=>⟨1,[(1,.loc 0 0),(2,.d (.int .i64 0)),(3,.d (.slice 5 (all.map aa))),(6,.d (.int .i64 ((i:Int)+1)))],[(0,rplB r)]⟩)
    (λi=>i<=all.length/\∀ (j:Nat) (h:j+1<all.length),j<i->j+1≠r.has.length->bw (all[j]'(by omega)).id all[j+1].id<0) (λi=>all.length-i) 0 ⟨Ak _,λj _ h=>absurd h (A9 j)⟩ (er id) ?_
   rintro i ⟨g1,g2⟩;dsimp only at g1 g2 ⊢;by_cases hi:i+1<all.length
   ·have step:(i+1≠r.has.length->bw (all[i]'(by omega)).id all[i+1].id<0)->(i+1<=all.length/\∀ (j:Nat) (h:j+1<all.length),j<i+1->j+1≠r.has.length->bw (all[j]'(by omega)).id all[j+1].id<0):=λh=>⟨by omega,λj hj hlt hne=>by
     by_cases he:j=i
     ·subst he;exact h hne
     ·exact g2 j hj (by omega) hne⟩
    by_cases hm:i+1=r.has.length
    ·repeat' (first|refine zs ?_|(refine zm ?_ ?_<;>intro hg)|(exfalso;omega))
     exact⟨i+1,step λh=>absurd hm h,er id,by omega⟩
    ·have w2:=idOrder_fn (all[i]'(by omega)).id all[i+1].id;by_cases ho:bw (all[i]'(by omega)).id all[i+1].id<0
     ·repeat' (first|refine zs ?_|refine z22 ?_ (hc:=by apply w2)|(refine zm ?_ ?_<;>intro hg)|(exfalso;omega))
      exact⟨i+1,step λ_=>ho,er id,by omega⟩
     ·have hb:¬ (dg (λa b:Upd=>bw a.id b.id) r.has=true/\dg (λa b:Upd=>bw a.id b.id) r.waits=true):=λh=>ho (hpair.1 h i hi hm)
      rw [if_pos (by
       cases h1:dg (λa b:Upd=>bw a.id b.id) r.has with
       | false=>exact .inl rfl
       | true =>
        cases h2:dg (λa b:Upd=>bw a.id b.id) r.waits with
        | false=>exact .inr (.inl rfl)
        | true=>exact absurd ⟨h1,h2⟩ hb)]
      repeat' (first|refine zr ?_|refine z22 ?_ (hc:=by apply w2)|(refine zm ?_ ?_<;>intro hg)|(exfalso;omega))
      exact a6 rfl rfl
   ·obtain⟨hr1,hr2⟩:=hpair.2 λj hj hne=>g2 j hj (by omega) hne
    have hs:=si hr1;clear g2 hpair;rw [hr1,hr2];repeat' (first|refine zs ?_|(refine zm ?_ ?_<;>intro hg)|(exfalso;omega))
    clear hi g1;refine ag (ι:=Nat) (λi=>⟨1,[(1,.loc 0 0),(2,.d (.int .i64 0)),(7,.d (.int .i64 i))],[(0,rplB r)]⟩)
     (λi=>i<=r.waits.length/\(r.waits.any λu=>hasU r.has u.id)=(r.waits.drop i).any λu=>hasU r.has u.id) (λi=>r.waits.length-i) 0 ⟨Ak _,rfl⟩ (er id) ?_
    rintro i ⟨g1,g2⟩;dsimp only at g1 g2 ⊢;by_cases hi:i<r.waits.length
    ·rw [any_step hi] at g2;have w2:=qp r.has (r.waits[i]'hi).id (by omega);have hd:=hasU_idx r.has (r.waits[i]'hi).id;cases hb:hasU r.has (r.waits[i]'hi).id with
     | true =>
      rw [hb] at g2 hd;have hd:=of_decide_eq_false hd;rw [if_pos (.inr (.inr (by rw [g2];rfl)))];repeat' (first|refine zr ?_|refine z22 ?_ (hc:=by apply w2)|(refine zm ?_ ?_<;>intro hg)|(exfalso;omega))
      exact a6 rfl rfl
     | false =>
      rw [hb,B9] at g2;rw [hb] at hd;have hd:=of_decide_eq_true hd;repeat' (first|refine zs ?_|refine z22 ?_ (hc:=by apply w2)|(refine zm ?_ ?_<;>intro hg)|(exfalso;omega))
      exact⟨i+1,⟨hi,g2⟩,er id,by omega⟩
    ·rw [As (by omega)] at g2;rw [g2,if_neg (by simp)];repeat' (first|refine zs ?_|(refine zm ?_ ?_<;>intro hg)|(exfalso;omega))
     clear hi g1 g2;refine ag (ι:=Nat) (λi=>⟨1,[(1,.loc 0 0),(2,.d (.int .i64 0)),(8,.d (.int .i64 i))],[(0,rplB r)]⟩)
      (λi=>i<=r.has.length/\(r.has.any λu=>!readyU r.has u)=(r.has.drop i).any λu=>!readyU r.has u) (λi=>r.has.length-i) 0 ⟨Ak _,rfl⟩ (er id) ?_
     rintro i ⟨g1,g2⟩;dsimp only at g1 g2 ⊢;by_cases hi:i<r.has.length
     ·rw [any_step hi] at g2;have w2:=xr r.has (r.has[i]'hi) (by omega) (hsm _ (by rw [hall];exact Ax _ (Aj hi)));cases hb:readyU r.has (r.has[i]'hi) with
      | false =>
       rw [hb] at g2 w2;rw [if_pos (by rw [g2];rfl)];repeat' (first|refine zr ?_|refine z22 ?_ (hc:=by apply w2)|(refine zm ?_ ?_<;>intro hg)|(exfalso;omega))
       exact a6 rfl rfl
      | true =>
       rw [hb,Bool.not_true,B9] at g2;rw [hb] at w2;repeat' (first|refine zs ?_|refine z22 ?_ (hc:=by apply w2)|(refine zm ?_ ?_<;>intro hg)|(exfalso;omega))
       exact⟨i+1,⟨hi,g2⟩,er id,by omega⟩
     ·rw [As (by omega)] at g2;rw [g2,if_neg (by simp)];have hready:∀ u∈r.has,readyU r.has u=true:=λu hu=>by
       have:=List.any_eq_false.1 g2 u hu
       simpa using this
      clear g1 g2;have w5:=isRound_fn r.has (by omega) hs (λu hu=>hsm u (by rw [hall];exact Ax _ hu));have hrb:=roundB_iff hs hready;have w5:Fn 145 [.d (.slice 5 (r.has.map aa))] (λx=>x = .d (.bool (r5 r.has))):=FnP.imp w5 (by
       rintro x ⟨b,rfl,hb⟩;rw [Bool.eq_iff_iff.2 (hb.trans hrb.symm)])
      cases hr5:r5 r.has with
      | true =>
       rw [hr5] at w5;rw [if_pos (.inl rfl)];repeat' (first|refine zr ?_|refine z21 ?_ (hc:=by apply w5)|(refine zm ?_ ?_<;>intro hg)|(exfalso;omega))
       exact a6 rfl rfl
      | false =>
       rw [hr5] at w5;repeat' (first|refine zs ?_|refine z21 ?_ (hc:=by apply w5)|(refine zm ?_ ?_<;>intro hg)|(exfalso;omega))
       refine ag (ι:=Nat) (λi=>⟨1,[(1,.loc 0 0),(2,.d (.int .i64 0)),(9,.d (.int .i64 i))],[(0,rplB r)]⟩)
        (λi=>i<=r.waits.length/\(r.waits.any λu=>readyU r.has u)=(r.waits.drop i).any λu=>readyU r.has u) (λi=>r.waits.length-i) 0 ⟨Ak _,rfl⟩ (er id) ?_
       rintro i ⟨g1,g2⟩;dsimp only at g1 g2 ⊢;by_cases hi:i<r.waits.length
       ·rw [any_step hi] at g2;have w2:=xr r.has (r.waits[i]'hi) (by omega) (hsm _ (by rw [hall];exact B1 _ (Aj hi)));cases hb:readyU r.has (r.waits[i]'hi) with
        | true =>
         rw [hb] at g2 w2;rw [if_pos (.inr (by rw [g2];rfl))];repeat' (first|refine zr ?_|refine z22 ?_ (hc:=by apply w2)|(refine zm ?_ ?_<;>intro hg)|(exfalso;omega))
         exact a6 rfl rfl
        | false =>
         rw [hb,B9] at g2;rw [hb] at w2;repeat' (first|refine zs ?_|refine z22 ?_ (hc:=by apply w2)|(refine zm ?_ ?_<;>intro hg)|(exfalso;omega))
         exact⟨i+1,⟨hi,g2⟩,er id,by omega⟩
       ·rw [As (by omega)] at g2;rw [g2,if_neg (by simp)];repeat' (first|refine zr ?_|(refine zm ?_ ?_<;>intro hg)|(exfalso;omega))
        exact a6 rfl rfl
theorem eraseIdx_at {α:Type} (a b:List α) (x:α):(a++x::b).eraseIdx a.length=a++b:=by
 rw [List.eraseIdx_append_of_length_le (Ah _),Nat.sub_self,List.eraseIdx_cons_zero]
theorem RplGo.moveAt {A:List Upd} {h a b:List Upd} {x:Upd} (hg:RplGo A ⟨h,a++x::b⟩) (hr:readyU h x=true):RplGo A ⟨po h x,a++b⟩:=by
 have hm:=hg.move (u:=x) (by simp) hr;have hi:a.length<(a++x::b).length:=by rw [Af,Bj];omega
 have he:(a++x::b)[a.length]=x:=by rw [Cc (Ah _)];simp
 have:=erase_filter hg.sw hi
 dsimp only at hm this;rw [he] at this;rw [<- this,eraseIdx_at] at hm;exact hm
def AddOfIs (r:Rpl) (u:Upd) (res:SV):Prop :=
 (hasU r.both u.id=true/\res = .tup [jf r,.d (.bool true)]) ∨
 (hasU r.both u.id=false/\200<=r.both.length/\res = .tup [jf ⟨[],[]⟩,.d (.bool false)]) ∨
 (hasU r.both u.id=false/\r.both.length<200/\∃ o,RplOk (u::r.both) o/\res = .tup [jf o,.d (.bool true)])
theorem addOf_fn (r:Rpl) (u:Upd) (hok:RplOk r.both r) (h1:r.has.length<=100000) (h2:r.waits.length<=100000) (hs:∀ v,v=u∨v∈r.has∨v∈r.waits->v.parents.length+v.takes.length<=1000000):Fn 35 [jf r,gc u] (AddOfIs r u):=by
 refine fqE Tryz.func35 ?_;intro O w0 E0 β0;have lh:(r.has.map aa).length=r.has.length:=Aa _;have lw:(r.waits.map aa).length=r.waits.length:=Aa _;have hty:=hasU_app r.has r.waits u.id;have w1:=qp r.has u.id (by omega);have w2:=qp r.waits u.id (by omega);have d1:=hasU_idx r.has u.id;have d2:=hasU_idx r.waits u.id;have hbl:r.both.length=r.has.length+r.waits.length:=Af;cases hb1:hasU r.has u.id with
 | true =>
  rw [hb1] at d1 hty;have d1:=of_decide_eq_false d1;repeat' (first|refine zs ?_|refine z21 ?_ (hc:=by apply w1)|refine z21 ?_ (hc:=by apply w2)|(refine zm ?_ ?_<;>intro hg)|(exfalso;omega))
  repeat' (first|refine zr ?_|fail)
  exact⟨.inl rfl,_,rfl,rfl,.inl ⟨by rw [hty];rfl,rfl⟩⟩
 | false =>
  rw [hb1] at d1 hty;have d1:=of_decide_eq_true d1;cases hb2:hasU r.waits u.id with
  | true =>
   rw [hb2] at d2 hty;have d2:=of_decide_eq_false d2;repeat' (first|refine zs ?_|refine z21 ?_ (hc:=by apply w1)|refine z21 ?_ (hc:=by apply w2)|(refine zm ?_ ?_<;>intro hg)|(exfalso;omega))
   repeat' (first|refine zr ?_|fail)
   exact⟨.inl rfl,_,rfl,rfl,.inl ⟨by rw [hty];rfl,rfl⟩⟩
  | false =>
   rw [hb2] at d2 hty;have d2:=of_decide_eq_true d2;by_cases hf:200<=r.has.length+r.waits.length
   ·repeat' (first|refine zs ?_|refine z21 ?_ (hc:=by apply w1)|refine z21 ?_ (hc:=by apply w2)|(refine zm ?_ ?_<;>intro hg)|(exfalso;omega))
    refine ak (bi 2 0 5 rfl rfl rfl) ?_;refine ak (bi 2 1 5 rfl rfl rfl) ?_;repeat' (first|refine zr ?_|fail)
    exact⟨.inl rfl,_,rfl,rfl,.inr (.inl ⟨by rw [hty];rfl,by omega,rfl⟩)⟩
   ·have w3:=inOrder_fn r.waits u (by omega);repeat' (first|refine zs ?_|refine z21 ?_ (hc:=by apply w1)|refine z21 ?_ (hc:=by apply w2)|refine z22 ?_ (hc:=by apply w3)|(refine zm ?_ ?_<;>intro hg)|(exfalso;omega))
    have w3:=True.intro;clear w1 w2 d1 d2 w3;refine ag (ι:=Rpl×Bool) (λx=>⟨2,[(4,.loc 0 0),(6,.loc 1 0),(7,.d (.bool x.2))],[(0,.blk 72 [.nils,.nils]),(1,.blk 72 [.d (.slice 5 (x.1.has.map aa)),.d (.slice 5 (x.1.waits.map aa))])]⟩)
     (λx=>RplGo (u::r.both) x.1/\x.1.has.length+x.1.waits.length=r.has.length+r.waits.length+1/\(x.2=false->∀ v∈x.1.waits,readyU x.1.has v=false)) (λx=>2*x.1.waits.length+(match x.2 with|true=>1|false=>0)) (⟨r.has,po r.waits u⟩,true)
     ⟨hok.more hb1 hb2,by dsimp only;rw [xt];omega,λh=>by cases h⟩ (er (λj=>match j with|0=>2|1=>10|j=>j)) ?_
    rintro⟨⟨H,W⟩,ch⟩ ⟨g1,g2,g3⟩;dsimp only at g1 g2 g3 ⊢;cases ch with
    | false =>
     repeat' (first|refine zs ?_|fail)
     repeat' (apply c9)
     exact⟨.inl rfl,_,rfl,rfl,.inr (.inr ⟨by rw [hty];rfl,by omega,⟨H,W⟩,g1.done (g3 rfl),rfl⟩)⟩
    | true =>
     clear g3;have lW:(W.map aa).length=W.length:=Aa _;repeat' (first|refine zs ?_|fail)
     refine ak (cd (t:=8) 82 5 rfl) ?_;repeat' fail
     refine ag (ι:=Nat×List Upd×List Upd×Bool) (λx=>⟨3,[(4,.loc 0 0),(6,.loc 1 0),(7,.d (.bool x.2.2.2)),(8,.row 2),(9,.d (.int .i64 x.1))],[(0,.blk 72 [.nils,.nils]),(1,.blk 72 [.d (.slice 5 (x.2.1.map aa)),.d (.slice 5 (W.map aa))]),(2,.row 82 5 (x.2.2.1.map aa))]⟩)
      (λx=>x.1<=W.length/\RplGo (u::r.both) ⟨x.2.1,x.2.2.1++W.drop x.1⟩/\x.2.1.length+x.2.2.1.length+(W.length-x.1)=r.has.length+r.waits.length+1/\x.2.2.1.length<=x.1/\(x.2.2.2=false->x.2.1=H/\x.2.2.1=W.take x.1/\∀ v∈W.take x.1,readyU H v=false)/\(x.2.2.2=true->x.2.2.1.length<x.1)) (λx=>W.length-x.1) (0,H,[],false)
      ⟨Ak _,g1,by dsimp only [Dl];omega,Ak _,λ_=>⟨rfl,rfl,λv hv=>by simp at hv⟩,λh=>by cases h⟩ (er id) ?_
     rintro⟨i,G,ws,m⟩ ⟨f1,f2,f3,f4,f5,f6⟩;dsimp only at f1 f2 f3 f4 f5 f6 ⊢;have lo:(ws.map aa).length=ws.length:=Aa _;by_cases hi:i<W.length
     ·have hmem:W[i]=u∨W[i]∈r.has∨W[i]∈r.waits:=by
       have:=(g1.all W[i]).2 (.inr (Aj hi))
       rcases List.mem_cons.1 this with h|h
       ·exact .inl h
       ·exact .inr (List.mem_append.1 h)
      have w1:=xr G W[i] (by omega) (hs _ hmem);rw [Am hi] at f2;cases hr:readyU G W[i] with
      | true =>
       rw [hr] at w1;have w2:=inOrder_fn G W[i] (by omega);repeat' (first|refine zs ?_|refine z21 ?_ (hc:=by apply w1)|refine z21 ?_ (hc:=by apply w2)|(refine zm ?_ ?_<;>intro hg)|(exfalso;omega))
       exact⟨(i+1,po G W[i],ws,true),⟨hi,f2.moveAt hr,by dsimp only;rw [xt];omega,by dsimp only;omega,λh=>(by cases h),λ_=>by dsimp only;omega⟩,er id,by show W.length-(i+1)<W.length-i;omega⟩
      | false =>
       rw [hr] at w1;repeat' (first|refine zs ?_|refine z21 ?_ (hc:=by apply w1)|(refine zm ?_ ?_<;>intro hg)|(exfalso;omega))
       refine⟨(i+1,G,ws++[W[i]],m),⟨hi,by simpa using f2,by dsimp only;rw [Af,Au];omega,by dsimp only;rw [Af,Au];omega,λh=>?_,λh=>?_⟩,ai (λj=>match j with|2=>4|j=>j) ⟨rfl,rfl,rfl,rfl,rfl,trivial⟩ ⟨rfl,rfl,by rw [Ar];rfl,trivial⟩ rfl rfl rfl rfl rfl rfl,by show W.length-(i+1)<W.length-i;omega⟩
       ·obtain⟨h1,h2,h3⟩:=f5 h;dsimp only at h1 ⊢;subst h1;refine⟨rfl,by rw [An hi,h2],λv hv=>?_⟩
        rw [An hi] at hv;rcases List.mem_append.1 hv with hv|hv
        ·exact h3 v hv
        ·rw [List.mem_singleton] at hv;rw [hv];exact hr
       ·have:=f6 h
        dsimp only;rw [Af,Au];omega
     ·rw [As (by omega),List.append_nil] at f2;repeat' ((fail_if_success (apply bk 18));(first|refine zs ?_|(refine zm ?_ ?_<;>intro hg)|fail))
      all_goals try (exfalso;omega)
      refine ak (bh 8 rfl rfl rfl) ?_;repeat' (first|refine zs ?_|fail)
      refine⟨(⟨G,ws⟩,m),⟨f2,by dsimp only;omega,λh=>?_⟩,er id,?_⟩
      ·obtain⟨h1,h2,h3⟩:=f5 h;dsimp only at h1 h2 ⊢;rw [Ai (by omega)] at h2 h3;rw [h1,h2];exact h3
      ·cases m with
       | true =>
        have:=f6 rfl
        dsimp only;omega
       | false =>
        have:=(f5 rfl).2.1
        rw [this,Ai (by omega)];dsimp only;omega
theorem RplOk.nodup {A:List Upd} {r:Rpl} (h:RplOk A r):r.both.Nodup :=
 List.nodup_append.2 ⟨h.sh.nodup,h.sw.nodup,λu hu v hv he=>h.apart u hu v hv (by rw [he])⟩
structure ToldOk (A:List Upd) (r:Rpl):Prop where
 ok:RplOk A r
 nodup:A.Nodup
theorem ToldOk.len {A:List Upd} {r:Rpl} (h:ToldOk A r):A.length=r.both.length :=
 ((List.perm_ext_iff_of_nodup h.nodup h.ok.nodup).2 λu=>(h.ok.all u).trans List.mem_append.symm).length_eq
theorem ToldOk.has {A:List Upd} {r:Rpl} (h:ToldOk A r) (i:UId):hasU A i=hasU r.both i:=hasU_congr (λu=>(h.ok.all u).trans List.mem_append.symm) i
theorem ToldOk.self {r:Rpl} (h:RplOk r.both r):ToldOk r.both r:=⟨h,h.nodup⟩
theorem ToldOk.step {A:List Upd} {r o:Rpl} (h:ToldOk A r) {u:Upd} (hu:hasU r.both u.id=false) (ho:RplOk (u::r.both) o):ToldOk (u::A) o:=by
 refine⟨ho.congr λv=>?_,List.nodup_cons.2 ⟨λhm=>?_,h.nodup⟩⟩
 ·rw [Bh,Bh,h.ok.all,List.mem_append]
 ·rw [<- h.has,<- Cm,hasU_iff] at hu;exact hu ⟨u,hm,rfl⟩
def ToldIs (r:Rpl) (l:List Upd) (o:Option Rpl):Prop :=
 match tellA r.both l,o with
 | none,none=>True
 | some A,some o=>ToldOk A o
 | _,_=>False
theorem ToldIs.unique {r:Rpl} {l:List Upd} {o p:Option Rpl} (h:ToldIs r l o) (g:ToldIs r l p):o=p:=by
 unfold ToldIs at h g;revert h g;cases tellA r.both l with
 | none=>cases o with
  | none=>cases p with
   | none=>exact λ_ _=>rfl
   | some p=>exact λ_ g=>g.elim
  | some o=>exact λh=>h.elim
 | some A=>cases o with
  | none=>exact λh=>h.elim
  | some o=>cases p with
   | none=>exact λ_ g=>g.elim
   | some p=>exact λh g=>by rw [h.ok.unique g.ok]
theorem firstL_of0 {α:Type} {f:α->Int}:∀ {l:List α},(∀ x∈l,f x=0)->bm f l=0
 | [],_=>rfl
 | x::l,h=>by
  unfold bm
  rw [if_neg (by rw [h x (Ac ..)];simp)]
  exact firstL_of0 λy hy=>h y (Ag _ hy)
theorem checkR_zero {r:Rpl} (h:RplOk r.both r) (hl:r.has.length+r.waits.length<=200) (hc:∀ u∈r.both,db u=0):dp r=0:=by
 have hz:bm db (r.has++r.waits)=0:=firstL_of0 hc;have hr:∀ u∈r.has,readyU r.has u=true:=λu hu=>h.ready hu
 have hrb:r5 r.has=false:=by
  rw [<- Cm,roundB_iff h.sh hr];rintro⟨u,hu,hd⟩;exact hd (h.der (h.had u hu))
 unfold dp;rw [if_neg (by omega),if_neg (by simp [hz]),str_rises h.sh,str_rises h.sw,hrb];have h1:(r.waits.any λu=>hasU r.has u.id)=false:=List.any_eq_false.2 λu hu hh=>by
  obtain⟨v,hv,he⟩:=hasU_iff.1 hh;exact h.apart v hv u hu he
 have h2:(r.has.any λu=>!readyU r.has u)=false:=List.any_eq_false.2 λu hu=>by rw [hr u hu];simp
 have h3:(r.waits.any λu=>readyU r.has u)=false:=List.any_eq_false.2 λu hu=>by rw [h.not_ready hu];simp
 rw [h1,h2,h3];simp
theorem rpl0_ok:RplOk [] ⟨[],[]⟩:=⟨.nil,.nil,λu=>by simp,λu hu=>by simp at hu,λu hu=>by simp at hu,λu hu=>by simp at hu⟩
theorem second_waits:readyU [] secondU=false:=by kernel_rfl
theorem rpl1_ok:RplOk [secondU] ⟨[],[secondU]⟩:=by
 have g:RplGo [secondU] ⟨[],[secondU]⟩:=rpl0_ok.more (u:=secondU) rfl rfl;exact g.done λu hu=>by rw [List.mem_singleton.1 hu];exact second_waits
theorem rpl2_ok:RplOk [firstU,secondU] ⟨[firstU,secondU],[]⟩:=by
 have g1:RplGo [firstU,secondU] ⟨[],[firstU,secondU]⟩:=rpl1_ok.more (u:=firstU) (by kernel_rfl) (by kernel_rfl);have g2:RplGo [firstU,secondU] ⟨[firstU],[secondU]⟩:=g1.moveAt (a:=[]) (b:=[secondU]) (by kernel_rfl);have g3:RplGo [firstU,secondU] ⟨[firstU,secondU],[]⟩:=g2.moveAt (a:=[]) (b:=[]) (by kernel_rfl);exact g3.done λu hu=>by simp at hu
structure Lv (ρ:Type) where
 rs:List ρ
 hd:List Fct->ρ->List Fct
 mw:List Fct->ρ->Bool
 A:List Fct->Prop
structure LvOk {ρ:Type} (V:Lv ρ):Prop where
 mono:∀ S T,V.A S->V.A T->Strict S->Strict T->(∀ x∈S,x∈T)->∀ r∈V.rs,V.mw T r=true->V.mw S r=true/\∀ x∈V.hd S r,x∈V.hd T r
 grow:∀ S T,V.A S->(∀ x∈S,x∈T)->(∀ x∈T,x∈S∨∃ r∈V.rs,∃ S',V.A S'/\Strict S'/\x∈V.hd S' r)->V.A T
structure Good {ρ:Type} (V:Lv ρ) (m0 T:List Fct):Prop where
 strict:Strict T
 a:V.A T
 sub:∀ x∈m0,x∈T
 few:∀ r∈V.rs,V.mw T r=true
 cl:∀ r∈V.rs,∀ x∈V.hd T r,x∈T
structure Fit {ρ:Type} (V:Lv ρ) (m0 M:List Fct):Prop where
 good:Good V m0 M
 len:M.length<=60
 least:∀ T,Good V m0 T->∀ x∈M,x∈T
structure InvM {ρ:Type} (V:Lv ρ) (m0 m:List Fct):Prop where
 strict:Strict m
 a:V.A m
 sub:∀ x∈m0,x∈m
 len:m.length<=60
 least:∀ T,Good V m0 T->∀ x∈m,x∈T
theorem Strict.nodup {l:List Fct} (h:Strict l):l.Nodup:=h.imp λh he=>by subst he;exact lt_irrefl h
theorem mq {α:Type}:∀ {a b:List α},a.Nodup->(∀ x∈a,x∈b)->a.length<=b.length
 | [],_,_,_=>Ak _
 | x::a,b,hn,hs=>by
  obtain⟨h1,h2⟩:=List.nodup_cons.1 hn
  obtain⟨s,t,rfl⟩:=List.append_of_mem (hs x (Ac ..))
  have:=mq (b:=s++t) h2 λy hy=>by
   have hy':=hs y (Ag _ hy)
   rcases List.mem_append.1 hy' with h|h
   ·exact Ax _ h
   ·rcases List.mem_cons.1 h with rfl|h
    ·exact absurd hy h1
    ·exact B1 _ h
  simp only [Af,Bj] at this ⊢
  omega
theorem j8 (l:List Fct):(a8 l).length<=l.length:=by
 have h:=v8 l [];rw [Dl,Nat.add_zero] at h;exact h
section
variable {ρ : Type} {V : Lv ρ} {m0 m m' : List Fct}
theorem Fit.unique {M M':List Fct} (h:Fit V m0 M) (h':Fit V m0 M'):M=M' :=
 j7 h.good.strict h'.good.strict λx=>⟨h.least M' h'.good x,h'.least M h.good x⟩
theorem n5 (h:Strict m0) (ha:V.A m0) (hl:m0.length<=60):InvM V m0 m0:=⟨h,ha,λ_ h=>h,hl,λ_ hT=>hT.sub⟩
theorem no_many (hV:LvOk V) (h:InvM V m0 m) {r:ρ} (hr:r∈V.rs) (hm:V.mw m r=false):¬ ∃ M,Fit V m0 M:=by
 rintro⟨M,hM⟩;have:=(hV.mono m M h.a hM.good.a h.strict hM.good.strict (h.least M hM.good) r hr (hM.good.few r hr)).1
 rw [hm] at this;cases this
theorem head_in (hV:LvOk V) (h:InvM V m0 m) {r:ρ} (hr:r∈V.rs) {x:Fct} (hx:x∈V.hd m r) {T:List Fct} (hT:Good V m0 T):x∈T :=
 hT.cl r hr x ((hV.mono m T h.a hT.a h.strict hT.strict (h.least T hT) r hr (hT.few r hr)).2 x hx)
theorem inv_put (hV:LvOk V) (h:InvM V m0 m) {H:List Fct} (hH:∀ x∈H,∃ r∈V.rs,∃ m',InvM V m0 m'/\x∈V.hd m' r) (hl:(a8 (m++H)).length<=60):InvM V m0 (a8 (m++H)):=by
 obtain⟨h1,h2⟩:=bp (m++H);refine⟨h1,?_,λx hx=>(h2 x).2 (Ax _ (h.sub x hx)),hl,λT hT x hx=>?_⟩
 ·refine hV.grow m _ h.a (λx hx=>(h2 x).2 (Ax _ hx)) λx hx=>?_
  rcases List.mem_append.1 ((h2 x).1 hx) with hx|hx
  ·exact .inl hx
  ·obtain⟨r,hr,m',hm',hx⟩:=hH x hx;exact .inr ⟨r,hr,m',hm'.a,hm'.strict,hx⟩
 ·rcases List.mem_append.1 ((h2 x).1 hx) with hx|hx
  ·exact h.least T hT x hx
  ·obtain⟨r,hr,m',hm',hx⟩:=hH x hx;exact head_in hV hm' hr hx hT
theorem no_room (hV:LvOk V) (h:InvM V m0 m) {H:List Fct} (hH:∀ x∈H,∃ r∈V.rs,∃ m',InvM V m0 m'/\x∈V.hd m' r) (hn:H.Nodup) (hd:∀ x∈H,x ∉ m) (hl:60<m.length+H.length):¬ ∃ M,Fit V m0 M:=by
 rintro⟨M,hM⟩;have:(m++H).length<=M.length:=by
  refine mq (List.nodup_append.2 ⟨h.strict.nodup,hn,λx hx y hy he=>?_⟩) λx hx=>?_
  ·subst he;exact hd x hy hx
  ·rcases List.mem_append.1 hx with hx|hx
   ·exact h.least M hM.good x hx
   ·obtain⟨r,hr,m',hm',hx⟩:=hH x hx;exact head_in hV hm' hr hx hM.good
 have h2:=hM.len;rw [Af] at this;omega
theorem s6 (h:InvM V m0 m) (hf:∀ r∈V.rs,V.mw m r=true) (hc:∀ r∈V.rs,∀ x∈V.hd m r,x∈m):Fit V m0 m :=
 ⟨⟨h.strict,h.a,h.sub,hf,hc⟩,h.len,h.least⟩
theorem same_len {a b:List Fct} (ha:Strict a) (hb:Strict b) (hs:∀ x∈a,x∈b) (hl:b.length<=a.length):a=b:=by
 refine j7 ha hb λx=>⟨hs x,λhx=>?_⟩
 apply Bc;intro hn;have:=mq (a:=x::a) (b:=b) (List.nodup_cons.2 ⟨hn,ha.nodup⟩) λy hy=>by
  rcases List.mem_cons.1 hy with rfl|hy
  ·exact hx
  ·exact hs y hy
 rw [Bj] at this;omega
end
theorem arity_at {p:Prg} {n:Int} (h0:0<=n) (h:n<(p.arity.length:Int)):p.arity.getD n.toNat 0=p.arity[n.toNat]'(by omega):=by
 rw [A6,Ad (by omega)];rfl
theorem ly {n a b:Int} (h:inR n a b=true):a<=n/\n<=b:=by
 unfold inR at h;simpa using h
theorem lit_fn (p:Prg) (l:Ltl) (vars:Int) (h0:0<=vars) (h8:vars<=8):Fn 214 [gu p,elLtl l,.d (.int .i64 vars)] (λr=>r = .d (.int .i64 (kz p.arity vars l))):=by
 refine fqE Tryz.func214 ?_;intro O w0 E0 β0;obtain⟨kind,op,pred,terms⟩:=l;have la:(p.arity.map aq).length=p.arity.length:=Aa _;have lb:(terms.map av).length=terms.length:=Aa _;refine fx 0 0 rfl rfl (λhk=>?_);refine fx 1 3 rfl rfl (λhk2=>?_);have ht:=terms_fn terms vars h0 h8;have w1:=fc kind 1 4;have ho:=op_fn kind op;unfold kz;dsimp only [elLtl];by_cases hk1:inR kind 1 4=true
 ·have hk':=ly hk1;rw [hk1] at w1;rw [hk1,if_neg (show ¬ (true=false) by decide)];generalize opB kind op=bo at ho ⊢;by_cases hn:kind=1∨kind=2
  ·have w2:=fc pred 0 (((p.arity.map aq).length:Int)-1);rw [if_pos hn,<- la];by_cases hp:inR pred 0 (((p.arity.map aq).length:Int)-1)=true
   ·have hp':=ly hp;have hA:=arity_at (p:=p) (n:=pred) (by omega) (by omega);rw [hp] at w2 ⊢;rw [if_neg (show ¬ (true=false) by decide),hA];clear hk1 hp hA;rcases hn with rfl|rfl
    all_goals repeat' (first|refine zr ?_|refine z21 ?_ (hc:=by apply w1)|refine z21 ?_ (hc:=by apply w2)|refine z21 ?_ (hc:=by apply ho)|refine z21 ?_ (hc:=by apply ht)|(refine zm ?_ ?_<;>intro hg)|fail)
    all_goals first
     | exact a6 rfl (by simp_all<;>omega)
     | exact a6 rfl rfl
   ·rw [Cm] at hp;rw [hp] at w2 ⊢;rw [if_pos rfl];clear hk1 hp;rcases hn with rfl|rfl
    all_goals repeat' (first|refine zr ?_|refine z21 ?_ (hc:=by apply w1)|refine z21 ?_ (hc:=by apply w2)|refine z21 ?_ (hc:=by apply ho)|(refine zm ?_ ?_<;>intro hg)|fail)
    all_goals first
     | exact a6 rfl (by simp_all<;>omega)
  ·rw [if_neg hn];clear hk1;rcases (show kind=3∨kind=4 by omega) with rfl|rfl
   all_goals repeat' (first|refine zr ?_|refine z21 ?_ (hc:=by apply w1)|refine z21 ?_ (hc:=by apply ho)|refine z21 ?_ (hc:=by apply ht)|(refine zm ?_ ?_<;>intro hg)|fail)
   all_goals first
    | exact a6 rfl (by simp_all<;>omega)
 ·rw [Cm] at hk1;rw [hk1] at w1 ⊢;rw [if_pos rfl];repeat' (first|refine zr ?_|refine z21 ?_ (hc:=by apply w1)|(refine zm ?_ ?_<;>intro hg)|fail)
  all_goals exact a6 rfl rfl
def isTok (kind:Int) (s:ByteArray):Bool :=
 if h:0<s.size then
  decide (s.size<=5000) && decide (kind≠0) && decide ((ct s.data.toList).1=kind) && decide ((ct s.data.toList).2=s.size) && decide (eu kind s.size s[0]=0)
 else false
theorem tokErr_eq (kind:Int) (n:Nat) (c:UInt8):eu kind n c=if kind=0 then 1 else if ((kind=1∨kind=2)/\12<n)∨(kind=3/\7<n) then 2 else if kind=3/\1<n/\c=48 then 1 else 0:=by
 unfold eu;rfl
theorem size_zero (s:ByteArray) (h:s=⟨#[]⟩):s.size=0:=by rw [h];rfl
theorem size_pos (s:ByteArray) (h:¬ s=⟨#[]⟩):0<s.size:=by
 rcases Nat.eq_zero_or_pos s.size with h0|h0
 ·exact absurd (ByteArray.ext (Array.eq_empty_of_size_eq_zero h0)) h
 ·exact h0
theorem u8i (c d:UInt8):((c.toNat:Int)=(d.toNat:Int))=(c=d):=by
 rw [eq_iff_iff];exact⟨λh=>UInt8.toNat_inj.1 (by omega),λh=>by rw [h]⟩
theorem u48 (c:UInt8):((c.toNat:Int)=48)=(c=48):=u8i c 48
theorem natc_eq (a b:Nat):((a:Int)=(b:Int))=(a=b):=by rw [eq_iff_iff];omega
theorem natc_lt1 (b:Nat):((1:Int)<(b:Int))=(1<b):=by rw [eq_iff_iff];omega
theorem natc_lt7 (b:Nat):((7:Int)<(b:Int))=(7<b):=by rw [eq_iff_iff];omega
theorem natc_lt12 (b:Nat):((12:Int)<(b:Int))=(12<b):=by rw [eq_iff_iff];omega
theorem isToken_fn (kind:Int) (s:ByteArray):Fn 203 [.d (.int .i64 kind),.d (.str s)] (λr=>r = .d (.bool (isTok kind s))):=by
 refine fqE Tryz.func203 ?_;intro O w0 E0 β0;repeat' (first|refine zr ?_|(refine zm ?_ ?_<;>intro hg)|fail)
 all_goals first
  | exact a7 rfl (by
    unfold isTok;split
    ·first
      | (simp [*];done)
      | (exfalso
         rw [size_zero s ‹_›] at *;omega)
      | (have h5:¬ s.size<=5000:=by omega
         simp [h5];done)
    ·rfl)
  | skip
 have h0:=size_pos s ‹_›;have hT:=tokenAt_fn s 0 h0 (by omega);rw [List.drop_zero] at hT;refine yz rfl rfl hT rfl rfl rfl ?_;rintro _ rfl;have hsz:s.size<=5000:=by omega
 have hd:isTok kind s=(decide ((ct s.data.toList).1=kind) && decide ((ct s.data.toList).2=s.size) && decide (eu kind s.size s[0]=0)):=by
  unfold isTok;rw [dif_pos h0];simp [*]
 repeat' (first|refine zr ?_|(refine zm ?_ ?_<;>intro hg)|fail)
 all_goals first
  | exact a7 rfl (by
    rw [hd,tokErr_eq];try simp only [natc_eq,natc_lt1,natc_lt7,natc_lt12,u48] at *
    first
     | (simp_all;done)
     | (simp_all;omega)
     | (have:¬ 7<s.size:=by omega
        simp_all;done)
     | (have:¬ 7<s.size:=by omega
        by_cases h48:s[0]=48<;>simp_all;done)
     | (have:¬ 7<s.size:=by omega
        have:¬ 1<s.size:=by omega
        simp_all;done)
     | (have k3:kind=3:=by omega
        have n7:¬ 7<s.size:=by omega
        have n1:1<s.size:=by omega
        rw [decide_eq_true ‹(ct s.data.toList).fst=kind›,decide_eq_true ‹(ct s.data.toList).snd=s.size›,k3];by_cases h48:s[0]=48<;>simp [h48,n7,n1];done))
def encScan (r:List Tok×Int×Int):SV:=.tup [.d (encToks r.1),.d (.int .i64 r.2.1),.d (.int .i64 r.2.2)]
theorem scanS_big (s:ByteArray) (h:5000<s.size):vd s=([],0,2):=by unfold vd;rw [if_pos h]
theorem scanS_ok (s:ByteArray) (h:¬ 5000<s.size) (l:List Tok) (e:c7 s false 0 = .ok l):vd s=(l,0,0):=by unfold vd;rw [if_neg h,e]
theorem scanS_err (s:ByteArray) (h:¬ 5000<s.size) (p e:Int) (he:c7 s false 0 = .error (p,e)):vd s=([],p,e):=by unfold vd;rw [if_neg h,he]
theorem i37 (c:UInt8):((c.toNat:Int)=37)=(c=37):=u8i c 37
theorem i32 (c:UInt8):((c.toNat:Int)=32)=(c=32):=u8i c 32
theorem i9 (c:UInt8):((c.toNat:Int)=9)=(c=9):=u8i c 9
theorem i10 (c:UInt8):((c.toNat:Int)=10)=(c=10):=u8i c 10
theorem yt (s:ByteArray) (note:Bool) (i:Nat) (h:i<s.size) (hn:note=true∨(s[i].toNat:Int)=37):c7 s note i=c7 s (decide ((s[i].toNat:Int)≠10)) (i+1):=by
 rw [scanAt_note s note i h (by rw [i37] at hn;rcases hn with hn|hn<;>simp [hn])];congr 1;rw [Bool.eq_iff_iff];simp only [ne_eq,i10];simp
theorem blank_step (s:ByteArray) (note:Bool) (i:Nat) (h:i<s.size) (hn:note=false) (h1:¬ (s[i].toNat:Int)=37) (h2:(s[i].toNat:Int)=32∨(s[i].toNat:Int)=9∨(s[i].toNat:Int)=10):c7 s note i=c7 s note (i+1):=by
 subst hn;rw [i37] at h1;rw [i32,i9,i10] at h2;exact scanAt_blank s i h (by simpa using h1) (by simpa [or_assoc] using h2)
theorem tok_step (s:ByteArray) (note:Bool) (i:Nat) (h:i<s.size) (hn:note=false) (h1:¬ (s[i].toNat:Int)=37) (h2:¬ (s[i].toNat:Int)=32) (h3:¬ (s[i].toNat:Int)=9) (h4:¬ (s[i].toNat:Int)=10) (q:Int×Nat) (hq:ct (s.data.toList.drop i)=q) :
  c7 s note i=if eu q.1 q.2 s[i]=0 then (c7 s note (i+q.2)).map (Tok.mk q.1 i (s.extract i (i+q.2))::·) else .error (i,eu q.1 q.2 s[i]):=by
 subst hn;subst hq;rw [i37] at h1;rw [i32] at h2;rw [i9] at h3;rw [i10] at h4;have e1:(s[i] == 37)=false:=by simpa using h1
 have e2:(s[i] == 32 || s[i] == 9 || s[i] == 10)=false:=by simp [h2,h3,h4]
 split
 ·rename_i he;exact scanAt_tok s i h e1 e2 he
 ·rename_i he;exact scanAt_err s i h e1 e2 he
theorem map_map (x:Except (Int×Int) (List Tok)) (f g:List Tok->List Tok):(x.map f).map g=x.map λl=>g (f l):=by cases x<;>rfl
theorem tokErr_int (kind:Int) (n:Nat) (c:UInt8):eu kind n c=if kind=0 then 1 else if ((kind=1∨kind=2)/\(12:Int)<n)∨(kind=3/\(7:Int)<n) then 2 else if kind=3/\(1:Int)<n/\(c.toNat:Int)=48 then 1 else 0:=by
 simp only [natc_lt12,natc_lt7,natc_lt1,u48];exact tokErr_eq kind n c
theorem small_eq (c:UInt8):gv c=(decide ((97:Int)<=c.toNat) && decide ((c.toNat:Int)<=122)):=by unfold gv;rfl
theorem great_eq (c:UInt8):ju c=(decide ((65:Int)<=c.toNat) && decide ((c.toNat:Int)<=90)):=by unfold ju;rfl
theorem digit_eq (c:UInt8):da c=(decide ((48:Int)<=c.toNat) && decide ((c.toNat:Int)<=57)):=by unfold da;rfl
theorem small_fn (c:UInt8):Fn 291 [.d (.int .u8 (c.toNat:Int))] (λr=>r = .d (.bool (gv c))):=by
 refine fqE Tryz.func291 ?_;intro O w0 E0 β0;repeat' (first|refine zr ?_|(refine zm ?_ ?_<;>intro hg)|fail)
 all_goals exact a7 rfl (by rw [small_eq];first|(simp_all;done)|(simp_all;omega))
theorem great_fn (c:UInt8):Fn 292 [.d (.int .u8 (c.toNat:Int))] (λr=>r = .d (.bool (ju c))):=by
 refine fqE Tryz.func292 ?_;intro O w0 E0 β0;repeat' (first|refine zr ?_|(refine zm ?_ ?_<;>intro hg)|fail)
 all_goals exact a7 rfl (by rw [great_eq];first|(simp_all;done)|(simp_all;omega))
theorem digit_fn (c:UInt8):Fn 295 [.d (.int .u8 (c.toNat:Int))] (λr=>r = .d (.bool (da c))):=by
 refine fqE Tryz.func295 ?_;intro O w0 E0 β0;repeat' (first|refine zr ?_|(refine zm ?_ ?_<;>intro hg)|fail)
 all_goals exact a7 rfl (by rw [digit_eq];first|(simp_all;done)|(simp_all;omega))
theorem alnum_fn (c:UInt8):Fn 294 [.d (.int .u8 (c.toNat:Int))] (λr=>r = .d (.bool (eh c))):=by
 refine fqE Tryz.func294 ?_;intro O w0 E0 β0;repeat' (first|refine zr ?_|refine z21 ?_ (hc:=by apply small_fn)|refine z21 ?_ (hc:=by apply great_fn)|refine z21 ?_ (hc:=by apply digit_fn)|(refine zm ?_ ?_<;>intro hg)|fail)
 all_goals exact a7 rfl (by unfold eh e7;simp_all)
abbrev FnS (f:FuncId) (args:List SV) (J k:Nat) (H:Hp) (R:Nat->SV->Hp->Prop):Prop:=FnOk false Tryz.prog tab b9 f args J k H R
abbrev scH (s:ByteArray) (i:Nat):Hp:=[(0,.blk 323 [.d (.str s),.d (.int .i64 i)])]
theorem sign_fn (s:ByteArray) (i:Nat):FnS 290 [.loc 0 0] 1 1 (scH s i) (λk2 r H2=>k2=1/\r = .d (.int .u8 (if h:i<s.size then (s[i].toNat:Int) else 0))/\H2=scH s i):=by
 refine foE Tryz.func290 ?_;intro O w0 E0 β0;repeat' (first|refine zr ?_|(refine zm ?_ ?_<;>intro hg)|fail)
 ·refine⟨.inl rfl,_,rfl,rfl,?_,rfl⟩
  rw [dif_pos (by omega)];rfl
 ·refine⟨.inl rfl,_,rfl,rfl,?_,rfl⟩
  rw [dif_neg (by omega)];rfl
theorem note_at (s:ByteArray) (j:Nat) (h:j<s.size) (h1:(s[j].toNat:Int)=37):c7 s false j=c7 s true j:=by
 rw [yt s false j h (.inr h1),yt s true j h (.inl rfl)]
theorem note_in (s:ByteArray) (j:Nat) (h:j<s.size) (h1:¬ (s[j].toNat:Int)=10):c7 s true j=c7 s true (j+1):=by
 rw [yt s true j h (.inl rfl),decide_eq_true h1]
theorem note_out (s:ByteArray) (j:Nat) (h:∀ h:j<s.size,(s[j].toNat:Int)=10):c7 s true j=c7 s false j:=by
 by_cases hj:j<s.size
 ·have h10:=h hj;rw [yt s true j hj (.inl rfl),decide_eq_false (by rw [h10];simp),blank_step s false j hj rfl (by omega) (by omega)]
 ·rw [tp s true j (by omega),tp s false j (by omega)]
theorem skip_fn (s:ByteArray) (i:Nat) (hi:i<=s.size) (hs:s.size<=5000):FnS 288 [.loc 0 0] 1 1 (scH s i)
  (λk2 r H2=>k2=1/\r = .tup []/\∃ j:Nat,i<=j/\j<=s.size/\c7 s false i=c7 s false j/\(∀ h:j<s.size,¬ (s[j].toNat:Int)=37/\¬ (s[j].toNat:Int)=32/\¬ (s[j].toNat:Int)=9/\¬ (s[j].toNat:Int)=10)/\H2=scH s j):=by
 refine foE Tryz.func288 ?_;intro O w0 E0 β0;repeat' (first|refine zs ?_|fail)
 refine ag (ι:=Nat) (λj=>⟨1,[(0,.loc 0 0)],scH s j⟩) (λj=>i<=j/\j<=s.size/\c7 s false i=c7 s false j) (λj=>s.size-j) i ⟨Ah _,hi,rfl⟩
  (er id) ?_
 rintro j ⟨h1,h2,h3⟩;repeat' (first|refine zr ?_|(refine zm ?_ ?_<;>intro hg)|fail)
 all_goals first
  | (exfalso;omega)
  | (refine⟨j+1,⟨by omega,by omega,h3.trans (blank_step s false j (by omega) rfl (by omega) (by omega))⟩,er id,by omega⟩)
  | (refine⟨.inl rfl,_,rfl,rfl,rfl,j,h1,h2,h3,?_,rfl⟩
     intro hj;refine⟨?_,?_,?_,?_⟩<;>omega)
  | (refine⟨.inr rfl,_,rfl,rfl,rfl,j,h1,h2,h3,?_,rfl⟩
     intro hj;refine⟨?_,?_,?_,?_⟩<;>omega)
  | skip
 all_goals
  refine ag (ι:=Nat) (λm=>⟨1,[(0,.loc 0 0)],scH s m⟩) (λm=>j<=m/\m<=s.size/\c7 s false i=c7 s true m) (λm=>s.size-m) j
   ⟨Ah _,h2,h3.trans (note_at s j (by omega) (by omega))⟩ (er id) ?_
  rintro m ⟨g1,g2,g3⟩;repeat' (first|refine zs ?_|(refine zm ?_ ?_<;>intro hg)|fail)
  all_goals first
   | (refine⟨m+1,⟨by omega,by omega,g3.trans (note_in s m (by omega) (by omega))⟩,er id,by omega⟩)
   | (have hne:m≠j:=by
       intro e;subst e;omega
      refine⟨m,⟨by omega,g2,g3.trans (note_out s m (by intro h;omega))⟩,er id,by omega⟩)
theorem run_fn (s:ByteArray) (i:Nat) (hi:i<=s.size) (hs:s.size<=5000) (f:FuncId) (p:UInt8->Bool) (hp:∀ c:UInt8,Fn f [.d (.int .u8 (c.toNat:Int))] (λr=>r = .d (.bool (p c)))) :
  FnS 293 [.loc 0 0,.fn f []] 1 1 (scH s i)
   (λk2 r H2=>k2=1/\r = .d (.str (s.extract i (i+dq p (s.data.toList.drop i))))/\H2=scH s (i+dq p (s.data.toList.drop i))):=by
 refine foE Tryz.func293 ?_;intro O w0 E0 β0;repeat' (first|refine zs ?_|fail)
 have hl0:s.data.toList.length=s.size:=by simp
 refine ag (ι:=Nat) (λj=>⟨1,[(0,.loc 0 0),(1,.fn f []),(5,.d (.int .i64 i))],scH s j⟩) (λj=>i<=j/\j<=s.size/\i+dq p (s.data.toList.drop i)=j+dq p (s.data.toList.drop j)) (λj=>s.size-j) i ⟨Ah _,hi,rfl⟩
  (er id) ?_
 rintro j ⟨h1,h2,h3⟩;have hstep:=λh hq=>tk p s.data.toList j h hq
 have hstop:=λh hq=>takeW_stop p s.data.toList j h hq
 have hend:=takeW_end p s.data.toList j;repeat' (first|refine zr ?_|(refine zm ?_ ?_<;>intro hg)|fail)
 all_goals first
  | (refine jd rfl rfl rfl rfl (hp _) rfl rfl rfl rfl ⟨_,rfl⟩ ?_;rintro _ rfl)
  | (exact absurd hg (by decide))
  | skip
 repeat' (first|refine zr ?_|(refine zm ?_ ?_<;>intro hg)|fail)
 all_goals first
  | (have hj:i+dq p (s.data.toList.drop i)=j:=by have:=hend (by omega);omega
     rw [hj];exact⟨.inl rfl,_,rfl,rfl,rfl,rfl⟩)
  | (have hq:=hstep (by omega) (by rw [oa _ _ (by omega)];first|assumption|simp_all)
     refine⟨j+1,⟨by omega,by omega,by omega⟩,er id,by omega⟩)
  | (have hq:=hstop (by omega) (by rw [oa _ _ (by omega)];first|assumption|simp_all)
     have hj:i+dq p (s.data.toList.drop i)=j:=by omega
     rw [hj];exact⟨.inl rfl,_,rfl,rfl,rfl,rfl⟩)
def pairL:D:=.slice 1 [[.str ⟨#[58,45]⟩],[.str ⟨#[60,61]⟩],[.str ⟨#[33,61]⟩]]
theorem pairs_fn:Fn 297 [] (λr=>r = .d pairL):=by
 refine fqE Tryz.func297 ?_;intro O w0 E0 β0;repeat' (first|refine zr ?_|fail)
 exact⟨.inl rfl,_,rfl,rfl,rfl⟩
def fv (s t:ByteArray):Bool:=decide (t.size<=s.size) && decide (s.extract 0 t.size=t)
theorem hasPrefix0_fn (s t:ByteArray):Fn 302 [.d (.str s),.d (.str t)] (λr=>r = .d (.bool (fv s t))):=by
 refine fqE Tryz.func302 ?_;intro O w0 E0 β0;repeat' (first|refine zr ?_|(refine zm ?_ ?_<;>intro hg)|fail)
 all_goals exact a7 rfl (by
  unfold fv;first
   | (have h:t.size<=s.size:=by omega
      simp [h];done)
   | (have h:¬ t.size<=s.size:=by omega
      simp [h];done))
theorem hasPrefix_fn (s t:ByteArray):Fn 299 [.d (.str s),.d (.str t)] (λr=>r = .d (.bool (fv s t))):=by
 refine fqE Tryz.func299 ?_;intro O w0 E0 β0;repeat' (first|refine zr ?_|refine z21 ?_ (hc:=by apply hasPrefix0_fn)|fail)
 all_goals exact a7 rfl rfl
abbrev scH2 (s:ByteArray) (i:Nat):Hp:=[(0,.blk 323 [.d (.str s),.d (.int .i64 i)]),(1,.blk 321 [.loc 0 0])]
theorem begins_fn (s:ByteArray) (i:Nat) (hi:i<=s.size) (t:ByteArray) :
  FnS 298 [.d (.str t),.loc 1 0] 2 2 (scH2 s i) (λk2 r H2=>k2=2/\r = .d (.bool (fv (s.extract i s.size) t))/\H2=scH2 s i):=by
 refine foE Tryz.func298 ?_;intro O w0 E0 β0;repeat' (first|refine zr ?_|refine z22 ?_ (hc:=by apply hasPrefix_fn)|fail)
 exact⟨.inl rfl,_,rfl,rfl,rfl,rfl⟩
def pairT:List ByteArray:=[⟨#[58,45]⟩,⟨#[60,61]⟩,⟨#[33,61]⟩]
def o5 (r:ByteArray):Int:=if fv r ⟨#[58,45]⟩ then 0 else if fv r ⟨#[60,61]⟩ then 1 else if fv r ⟨#[33,61]⟩ then 2 else -1
theorem pairAt_hit (r:ByteArray) (j:Nat) (hj:j<pairT.length) (h2:∀ m (_:m<j) (hm3:m<pairT.length),fv r pairT[m]=false) (h:fv r pairT[j]=true):o5 r=j:=by
 have hj3:j<3:=hj;unfold o5;match j,hj3 with
 | 0,_=>rw [if_pos (show fv r ⟨#[58,45]⟩=true from h)];rfl
 | 1,_=>rw [if_neg (by rw [show fv r ⟨#[58,45]⟩=false from h2 0 (by omega) (by decide)];decide),if_pos (show fv r ⟨#[60,61]⟩=true from h)];rfl
 | 2,_=>rw [if_neg (by rw [show fv r ⟨#[58,45]⟩=false from h2 0 (by omega) (by decide)];decide),if_neg (by rw [show fv r ⟨#[60,61]⟩=false from h2 1 (by omega) (by decide)];decide),if_pos (show fv r ⟨#[33,61]⟩=true from h)];rfl
theorem pairAt_none (r:ByteArray) (h2:∀ m (_:m<3) (hm3:m<pairT.length),fv r pairT[m]=false):o5 r = -1:=by
 unfold o5;rw [if_neg (by rw [show fv r ⟨#[58,45]⟩=false from h2 0 (by omega) (by decide)];decide),if_neg (by rw [show fv r ⟨#[60,61]⟩=false from h2 1 (by omega) (by decide)];decide),if_neg (by rw [show fv r ⟨#[33,61]⟩=false from h2 2 (by omega) (by decide)];decide)]
theorem indexFunc_fn (s:ByteArray) (i:Nat) (hi:i<=s.size) :
  FnS 301 [.d (.slice 1 (pairT.map λt=>[.str t])),.fn 298 [.loc 1 0]] 2 2 (scH2 s i) (λ_ r H2=>r = .d (.int .i64 (o5 (s.extract i s.size)))/\H2=scH2 s i):=by
 refine foE Tryz.func301 ?_;intro O w0 E0 β0;repeat' (first|refine zs ?_|fail)
 refine ag (ι:=Nat) (λj=>⟨2,[(0,.d (.slice 1 (pairT.map λt=>[.str t]))),(1,.fn 298 [.loc 1 0]),(7,.d (.int .i64 3)),(8,.d (.int .i64 j))],scH2 s i⟩)
  (λj=>j<=3/\∀ m (hm:m<j) (hm3:m<pairT.length),fv (s.extract i s.size) pairT[m]=false) (λj=>3-j) 0 ⟨by omega,λm hm=>absurd hm (by omega)⟩
  (er id) ?_
 rintro j ⟨h1,h2⟩;repeat' (first|refine zs ?_|fail)
 have hp3:pairT.length=3:=rfl;refine bf rfl (λhlt=>?_) (λhlt=>?_)
 ·repeat' (first|refine zs ?_|fail)
  have hj:j<pairT.length:=by omega
  refine ds_callVO id (begins_fn s i hi pairT[j]) rfl rfl rfl rfl rfl rfl ⟨rfl,rfl,trivial⟩ rfl rfl rfl rfl rfl rfl ?_ ?_
  ·rintro k2 r H2 ⟨rfl,rfl,rfl⟩;exact⟨rfl,rfl⟩
  rintro k2 r H2 ⟨rfl,rfl,rfl⟩;repeat' (first|refine zs ?_|fail)
  refine d7 rfl (λhh=>?_) (λhh=>?_)
  ·repeat' (first|refine zr ?_|fail)
   refine⟨.inl rfl,_,rfl,?_⟩
   rw [pairAt_hit _ j hj h2 hh];exact⟨rfl,rfl⟩
  ·repeat' (first|refine zs ?_|fail)
   refine⟨j+1,⟨by omega,λm hm hm3=>?_⟩,er id,by omega⟩
   by_cases e:m=j
   ·subst e;exact hh
   ·exact h2 m (by omega) hm3
 ·repeat' (first|refine zr ?_|fail)
  refine⟨.inl rfl,_,rfl,?_,rfl⟩
  rw [pairAt_none _ (λm hm hm3=>h2 m (by omega) hm3)];rfl
theorem containsFunc_fn (s:ByteArray) (i:Nat) (hi:i<=s.size) :
  FnS 296 [.d (.slice 1 (pairT.map λt=>[.str t])),.fn 298 [.loc 1 0]] 2 2 (scH2 s i) (λ_ r H2=>r = .d (.bool (decide (o5 (s.extract i s.size) ≥ 0)))/\H2=scH2 s i):=by
 refine foE Tryz.func296 ?_;intro O w0 E0 β0;repeat' (first|refine zs ?_|fail)
 refine ds_callO id (indexFunc_fn s i hi) rfl rfl rfl rfl ⟨rfl,rfl,trivial⟩ rfl rfl rfl rfl rfl rfl ?_ ?_
 ·rintro k2 r H2 ⟨rfl,rfl⟩;exact⟨rfl,rfl⟩
 rintro k2 r H2 ⟨rfl,rfl⟩;repeat' (first|refine zr ?_|fail)
 exact⟨.inl rfl,_,rfl,rfl,rfl⟩
theorem indexByte0_fn (s:ByteArray) (c:UInt8):Fn 303 [.d (.str s),.d (.int .u8 (c.toNat:Int))] (λr=>r = .d (.int .i64 (firstIdx s ((c.toNat:Int).toNat.toUInt8)))):=by
 refine fqE Tryz.func303 ?_;intro O w0 E0 β0;repeat' (first|refine zs ?_|fail)
 refine je (ev_indexByte Tryz.func304 rfl rfl rfl rfl rfl rfl rfl) rfl rfl ?_;repeat' (first|refine zr ?_|fail)
 exact a6 rfl rfl
theorem indexByte_fn (s:ByteArray) (c:UInt8):Fn 300 [.d (.str s),.d (.int .u8 (c.toNat:Int))] (λr=>r = .d (.int .i64 (firstIdx s ((c.toNat:Int).toNat.toUInt8)))):=by
 refine fqE Tryz.func300 ?_;intro O w0 E0 β0;repeat' (first|refine zr ?_|refine z21 ?_ (hc:=by apply indexByte0_fn)|fail)
 exact a6 rfl rfl
end Go.Proofs.YtapciiffpnociadGreat
