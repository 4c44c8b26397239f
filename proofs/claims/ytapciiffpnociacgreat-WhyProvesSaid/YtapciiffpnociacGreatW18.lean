/- Several texts in one: RuH RuM StrB RuN RuO StrP StrQ StrN MoQ. Condition: none. -/
import Derived.Test.YtapciiffpnociacGreatW15
import Derived.Test.YtapciiffpnociacGreatW17
import Derived.Test.YtapciiffpnociacGreatW10
import Derived.Test.YtapciiffpnociacGreatW14
import Derived.Test.YtapciiffpnociacGreatW11
namespace Go.Proofs.YtapciiffpnociacGreat
def minI (n y:Int):Int:=if y < n then y else n
def maxI (n y:Int):Int:=if n < y then y else n
def minL:List Int→Int
 | []=>0
 | x::l=>l.foldl minI x
def maxL:List Int→Int
 | []=>0
 | x::l=>l.foldl maxI x
def stepN (fold:Int) (st:Int × Int) (x:Int):Int × Int :=
 (if fold=1 then st.2 + 1 else if fold=2 then st.1 + x else if st.2 + 1=1∨(fold=3∧x < st.1)∨(fold=4∧st.1 < x) then x else st.1,st.2 + 1)
def foldN (fold:Int) (l:List Int):Int:=(l.foldl (stepN fold) (0,0)).1
def valP (fold:Int) (l:List Int):Int:=if fold=1 then l.length else if fold=3 then minL l else if fold=4 then maxL l else l.sum
def okP (fold:Int) (l:List Int):Bool:=if fold=1∨fold=3∨fold=4 then true else numB l.sum
theorem stepN_1:∀ (l:List Int) (n m:Int),l≠[]→(l.foldl (stepN 1) (n,m)).1=m + l.length
 | [x],n,m,_=>by simp [stepN]
 | x::y::l,n,m,_=>by
  rw [List.foldl_cons,show stepN 1 (n,m) x=(m + 1,m + 1) by simp [stepN],stepN_1 (y::l) _ _ (by simp)]
  simp only [List.length_cons];omega
theorem stepN_2:∀ (l:List Int) (n m:Int),(l.foldl (stepN 2) (n,m)).1=n + l.sum
 | [],n,m=>by simp
 | x::l,n,m=>by
  rw [List.foldl_cons,show stepN 2 (n,m) x=(n + x,m + 1) by simp [stepN],stepN_2 l,List.sum_cons];omega
theorem stepN_3:∀ (l:List Int) (n m:Int),1≤m→(l.foldl (stepN 3) (n,m)).1=l.foldl minI n
 | [],n,m,_=>rfl
 | x::l,n,m,hm=>by
  have:stepN 3 (n,m) x=(minI n x,m + 1):=by
   unfold stepN minI
   have:¬ (m + 1=1):=by omega
   simp [this]
  rw [List.foldl_cons,this,stepN_3 l _ _ (by omega),List.foldl_cons]
theorem stepN_4:∀ (l:List Int) (n m:Int),1≤m→(l.foldl (stepN 4) (n,m)).1=l.foldl maxI n
 | [],n,m,_=>rfl
 | x::l,n,m,hm=>by
  have:stepN 4 (n,m) x=(maxI n x,m + 1):=by
   unfold stepN maxI
   have:¬ (m + 1=1):=by omega
   simp [this]
  rw [List.foldl_cons,this,stepN_4 l _ _ (by omega),List.foldl_cons]
theorem minI_in {P:Int→Prop}:∀ (l:List Int) (n:Int),P n→(∀ x∈l,P x)→P (l.foldl minI n)
 | [],_,h,_=>h
 | x::l,n,h,hl=>by
  rw [List.foldl_cons]
  refine minI_in l _ ?_ fun y hy=>hl y (List.mem_cons_of_mem _ hy)
  unfold minI;split
  ·exact hl x (List.mem_cons_self ..)
  ·exact h
theorem maxI_in {P:Int→Prop}:∀ (l:List Int) (n:Int),P n→(∀ x∈l,P x)→P (l.foldl maxI n)
 | [],_,h,_=>h
 | x::l,n,h,hl=>by
  rw [List.foldl_cons]
  refine maxI_in l _ ?_ fun y hy=>hl y (List.mem_cons_of_mem _ hy)
  unfold maxI;split
  ·exact hl x (List.mem_cons_self ..)
  ·exact h
theorem numB_of {n:Int} (h:-1000000≤n∧n≤1000000):numB n=true:=by unfold numB inR;simp;omega
theorem fold_same {fold:Int} {l:List Int} (hf:fold=1∨fold=2∨fold=3∨fold=4) (hl:l≠[]) (hn:∀ x∈l,-1000000≤x∧x≤1000000) (hlen:l.length≤1000000) :
  foldN fold l=valP fold l∧numB (foldN fold l)=okP fold l:=by
 have key:foldN fold l=valP fold l:=by
  unfold foldN valP
  rcases hf with rfl|rfl|rfl|rfl
  ·rw [stepN_1 l _ _ hl];simp
  ·rw [stepN_2];simp
  ·obtain⟨x,l,rfl⟩:=List.exists_cons_of_ne_nil hl
   rw [List.foldl_cons,show stepN 3 (0,0) x=(x,1) by simp [stepN],stepN_3 _ _ _ (by omega)]
   simp [minL]
  ·obtain⟨x,l,rfl⟩:=List.exists_cons_of_ne_nil hl
   rw [List.foldl_cons,show stepN 4 (0,0) x=(x,1) by simp [stepN],stepN_4 _ _ _ (by omega)]
   simp [maxL]
 refine⟨key,?_⟩
 rw [key]
 unfold valP okP
 rcases hf with rfl|rfl|rfl|rfl
 ·simp only [if_true,true_or];exact numB_of (by omega)
 ·simp
 ·obtain⟨x,l,rfl⟩:=List.exists_cons_of_ne_nil hl
  simp only [show ¬ ((3:Int)=1) by omega,if_false,if_true,true_or,or_true]
  exact numB_of (minI_in (P:=fun z=>-1000000≤z∧z≤1000000) l x (hn x (List.mem_cons_self ..)) fun y hy=>hn y (List.mem_cons_of_mem _ hy))
 ·obtain⟨x,l,rfl⟩:=List.exists_cons_of_ne_nil hl
  simp only [show ¬ ((4:Int)=1) by omega,show ¬ ((4:Int)=3) by omega,if_false,if_true,or_true]
  exact numB_of (maxI_in (P:=fun z=>-1000000≤z∧z≤1000000) l x (hn x (List.mem_cons_self ..)) fun y hy=>hn y (List.mem_cons_of_mem _ hy))
abbrev Gr:=List Int × List Int
def grpL (ws:List (List Int × Int)) (p:List Int):List Int:=(ws.filter fun w=>decide (w.1=p)).map (·.2)
def addG (gs:List Gr) (w:List Int × Int):List Gr:=match gs[gs.findIdx fun g=>decide (g.1=w.1)]? with
 | some g=>gs.set (gs.findIdx fun g=>decide (g.1=w.1)) (g.1,g.2++[w.2])
 | none=>gs++[(w.1,[w.2])]
def groupsL (ws:List (List Int × Int)):List Gr:=ws.foldl addG []
structure InvG (gs:List Gr) (ws:List (List Int × Int)):Prop where
 uniq:∀ (j k:Nat) (g h:Gr),gs[j]? = some g→gs[k]? = some h→g.1=h.1→j=k
 vals:∀ g∈gs,g.2=grpL ws g.1
 here:∀ g∈gs,∃ w∈ws,w.1=g.1
 all:∀ w∈ws,∃ g∈gs,g.1=w.1
theorem grpL_snoc (ws:List (List Int × Int)) (w:List Int × Int) (p:List Int):grpL (ws++[w]) p=grpL ws p++if w.1=p then [w.2] else []:=by
 unfold grpL
 rw [List.filter_append,List.map_append]
 congr 1
 by_cases h:w.1=p
 ·simp [h]
 ·simp [h]
theorem grpL_none {ws:List (List Int × Int)} {p:List Int} (h:∀ w∈ws,w.1≠p):grpL ws p=[]:=by
 unfold grpL
 rw [List.filter_eq_nil_iff.2 fun w hw=>by simpa using h w hw];rfl
theorem addG_inv {gs:List Gr} {ws:List (List Int × Int)} {w:List Int × Int} (h:InvG gs ws):InvG (addG gs w) (ws++[w]):=by
 unfold addG
 cases hx:gs[gs.findIdx fun g=>decide (g.1=w.1)]? with
 | none =>
  have hn:∀ g∈gs,g.1≠w.1:=by
   intro g hg he
   have:=List.findIdx_lt_length_of_exists (xs:=gs) (p:=fun g=>decide (g.1=w.1)) ⟨g,hg,decide_eq_true he⟩
   rw [List.getElem?_eq_getElem this] at hx;cases hx
  refine⟨fun j k g g' hj hk he=>?_,fun g hg=>?_,fun g hg=>?_,fun x hx=>?_⟩
  ·rw [List.getElem?_append] at hj hk
   by_cases h1:j < gs.length <;> by_cases h2:k < gs.length
   ·rw [if_pos h1] at hj;rw [if_pos h2] at hk;exact h.uniq j k g g' hj hk he
   ·rw [if_pos h1] at hj;rw [if_neg h2] at hk
    have hg':g' = (w.1,[w.2]):=by
     by_cases h3:k - gs.length=0
     ·rw [h3] at hk;simpa using hk.symm
     ·rw [List.getElem?_eq_none (by simp;omega)] at hk;cases hk
    rw [hg'] at he
    exact absurd he (hn g (List.mem_of_getElem? hj))
   ·rw [if_neg h1] at hj;rw [if_pos h2] at hk
    have hg':g=(w.1,[w.2]):=by
     by_cases h3:j - gs.length=0
     ·rw [h3] at hj;simpa using hj.symm
     ·rw [List.getElem?_eq_none (by simp;omega)] at hj;cases hj
    rw [hg'] at he
    exact absurd he.symm (hn g' (List.mem_of_getElem? hk))
   ·rw [if_neg h1] at hj;rw [if_neg h2] at hk
    have h3:j - gs.length=0:=by
     apply Classical.byContradiction;intro h3
     rw [List.getElem?_eq_none (by simp;omega)] at hj;cases hj
    have h4:k - gs.length=0:=by
     apply Classical.byContradiction;intro h4
     rw [List.getElem?_eq_none (by simp;omega)] at hk;cases hk
    omega
  ·rw [grpL_snoc]
   rcases List.mem_append.1 hg with hg|hg
   ·rw [if_neg (Ne.symm (hn g hg)),List.append_nil];exact h.vals g hg
   ·rw [List.mem_singleton] at hg;subst hg
    rw [if_pos rfl,grpL_none fun x hx he=>?_];· rfl
    obtain⟨g,hg,hge⟩:=h.all x hx
    exact hn g hg (hge.trans he)
  ·rcases List.mem_append.1 hg with hg|hg
   ·obtain⟨x,h1,h2⟩:=h.here g hg;exact⟨x,List.mem_append_left _ h1,h2⟩
   ·rw [List.mem_singleton] at hg;subst hg;exact⟨w,List.mem_append_right _ (by simp),rfl⟩
  ·rcases List.mem_append.1 hx with hx|hx
   ·obtain⟨g,h1,h2⟩:=h.all x hx;exact⟨g,List.mem_append_left _ h1,h2⟩
   ·rw [List.mem_singleton] at hx;subst hx;exact⟨_,List.mem_append_right _ (List.mem_singleton.2 rfl),rfl⟩
 | some g0 =>
  obtain⟨hi,hg0⟩:=List.getElem?_eq_some_iff.1 hx
  have hk0:g0.1=w.1:=by
   have:=List.findIdx_getElem (xs:=gs) (p:=fun g=>decide (g.1=w.1)) (w:=hi)
   rw [hg0] at this
   exact of_decide_eq_true this
  simp only
  generalize gs.findIdx (fun g=>decide (g.1=w.1))=i at hx hi hg0
  have hget:∀ (j:Nat) (g:Gr),(gs.set i (g0.1,g0.2++[w.2]))[j]? = some g→∃ g',gs[j]? = some g'∧g.1=g'.1∧((j=i∧g=(g0.1,g0.2++[w.2]))∨(j≠i∧g=g')):=by
   intro j g hj
   by_cases hq:i=j
   ·subst hq
    rw [List.getElem?_set_self hi] at hj
    cases hj
    exact⟨g0,hx,rfl,.inl ⟨rfl,rfl⟩⟩
   ·rw [List.getElem?_set_ne hq] at hj
    exact⟨g,hj,rfl,.inr ⟨Ne.symm hq,rfl⟩⟩
  refine⟨fun j k g g' hj hk he=>?_,fun g hg=>?_,fun g hg=>?_,fun x hx'=>?_⟩
  ·obtain⟨a,a1,a2,_⟩:=hget j g hj
   obtain⟨b,b1,b2,_⟩:=hget k g' hk
   exact h.uniq j k a b a1 b1 (a2.symm.trans (he.trans b2))
  ·obtain⟨j,hj⟩:=List.getElem?_of_mem hg
   obtain⟨a,a1,a2,a3⟩:=hget j g hj
   rw [grpL_snoc]
   rcases a3 with ⟨rfl,rfl⟩|⟨a3,rfl⟩
   ·rw [if_pos hk0.symm]
    simp only
    rw [h.vals g0 (List.mem_of_getElem? hx)]
   ·rw [if_neg fun he=>a3 (h.uniq j i g g0 a1 hx (he.symm.trans hk0.symm)),List.append_nil]
    exact h.vals g (List.mem_of_getElem? a1)
  ·obtain⟨j,hj⟩:=List.getElem?_of_mem hg
   obtain⟨a,a1,a2,_⟩:=hget j g hj
   obtain⟨x,h1,h2⟩:=h.here a (List.mem_of_getElem? a1)
   exact⟨x,List.mem_append_left _ h1,h2.trans a2.symm⟩
  ·have hmem:∀ a∈gs,∃ g∈gs.set i (g0.1,g0.2++[w.2]),g.1=a.1:=by
    intro a ha
    obtain⟨j,hj⟩:=List.getElem?_of_mem ha
    by_cases hq:i=j
    ·subst hq
     rw [hx] at hj;cases hj
     exact⟨_,List.mem_of_getElem? (List.getElem?_set_self hi),rfl⟩
    ·exact⟨a,List.mem_of_getElem? ((List.getElem?_set_ne hq).trans hj),rfl⟩
   rcases List.mem_append.1 hx' with hx'|hx'
   ·obtain⟨a,h1,h2⟩:=h.all x hx'
    obtain⟨g,k1,k2⟩:=hmem a h1
    exact⟨g,k1,k2.trans h2⟩
   ·rw [List.mem_singleton] at hx';subst hx'
    obtain⟨g,k1,k2⟩:=hmem g0 (List.mem_of_getElem? hx)
    exact⟨g,k1,k2.trans hk0⟩
theorem groups_inv':∀ (ws vs:List (List Int × Int)) (gs:List Gr),InvG gs vs→InvG (ws.foldl addG gs) (vs++ws)
 | [],vs,gs,h=>by rw [List.append_nil];exact h
 | w::ws,vs,gs,h=>by
  have:=groups_inv' ws (vs++[w]) (addG gs w) (addG_inv h)
  rw [List.append_assoc] at this
  exact this
theorem groups_inv (ws:List (List Int × Int)):InvG (groupsL ws) ws:=by
 have:=groups_inv' ws [] [] ⟨fun _ _ _ _ h=>by simp at h,fun _ h=>by simp at h,fun _ h=>by simp at h,fun _ h=>by simp at h⟩
 rw [List.nil_append] at this
 exact this
def aW (r:Rul) (w:List Int):List Int:=r.terms.map (vA w)
def pW (r:Rul) (w:List Int):List Int × Int:=((aW r w).take (r.terms.length - 1),(aW r w).getD (r.terms.length - 1) 0)
def headsD (r:Rul) (ways:List (List Int)):List Fct:=if r.fold=0 then ways.map fun w=>⟨r.pred,aW r w⟩
 else ways.filterMap fun w=>if numB (foldN r.fold (grpL (ways.map (pW r)) (pW r w).1)) then some ⟨r.pred,(pW r w).1++[foldN r.fold (grpL (ways.map (pW r)) (pW r w).1)]⟩ else none
def headsP (r:Rul) (ways:List (List Int)):List Fct:=if r.fold=0 then ways.map fun w=>⟨r.pred,aW r w⟩
 else (groupsL (ways.map (pW r))).filterMap fun g=>if okP r.fold g.2 then some ⟨r.pred,g.1++[valP r.fold g.2]⟩ else none
theorem heads_mem {r:Rul} {ways:List (List Int)} (hf:0≤r.fold∧r.fold≤4) (hn:∀ w∈ways,-1000000≤(pW r w).2∧(pW r w).2≤1000000) (hlen:ways.length≤1000000):∀ x,x∈headsP r ways↔x∈headsD r ways:=by
 intro x
 unfold headsP headsD
 by_cases h0:r.fold=0
 ·rw [if_pos h0,if_pos h0]
 ·rw [if_neg h0,if_neg h0]
  have hI:=groups_inv (ways.map (pW r))
  have hfs:∀ p,(∃ w∈ways.map (pW r),w.1=p)→foldN r.fold (grpL (ways.map (pW r)) p)=valP r.fold (grpL (ways.map (pW r)) p)∧numB (foldN r.fold (grpL (ways.map (pW r)) p))=okP r.fold (grpL (ways.map (pW r)) p):=by
   rintro p ⟨w,hw,rfl⟩
   refine fold_same (by omega) ?_ ?_ ?_
   ·unfold grpL
    intro hc
    have:w.2∈((ways.map (pW r)).filter fun z=>decide (z.1=w.1)).map (·.2):=List.mem_map.2 ⟨w,List.mem_filter.2 ⟨hw,by simp⟩,rfl⟩
    rw [hc] at this;simp at this
   ·intro y hy
    obtain⟨z,hz,rfl⟩:=List.mem_map.1 hy
    obtain⟨u,hu,rfl⟩:=List.mem_map.1 (List.mem_filter.1 hz).1
    exact hn u hu
   ·unfold grpL
    rw [List.length_map]
    refine Nat.le_trans (List.length_filter_le _ _) ?_
    rw [List.length_map];exact hlen
  rw [List.mem_filterMap,List.mem_filterMap]
  constructor
  ·rintro⟨g,hg,hx⟩
   obtain⟨w,hw,hwg⟩:=hI.here g hg
   obtain⟨u,hu,rfl⟩:=List.mem_map.1 hw
   obtain⟨f1,f2⟩:=hfs g.1 ⟨_,hw,hwg⟩
   refine⟨u,hu,?_⟩
   rw [hwg,f2,f1,← hI.vals g hg];exact hx
  ·rintro⟨u,hu,hx⟩
   obtain⟨g,hg,hwg⟩:=hI.all (pW r u) (List.mem_map_of_mem hu)
   obtain⟨f1,f2⟩:=hfs g.1 ⟨_,List.mem_map_of_mem hu,hwg.symm⟩
   refine⟨g,hg,?_⟩
   rw [hI.vals g hg,← f1,← f2,hwg];exact hx
theorem heads_set {r:Rul} {ways:List (List Int)} (hf:0≤r.fold∧r.fold≤4) (hn:∀ w∈ways,-1000000≤(pW r w).2∧(pW r w).2≤1000000) (hlen:ways.length≤1000000):b9 (headsP r ways)=b9 (headsD r ways) :=
 strict_ext (bw _).1 (bw _).1 fun x=>by rw [(bw _).2,(bw _).2,heads_mem hf hn hlen]
open Go Go.RowKit
theorem rulS_mk {arity:List Int} {S:List Fct} {r:Rul} (hr:RulR arity r) (ha:∀ i,0≤arity.getD i 0∧arity.getD i 0≤3) (hS:∀ x∈S,FctOk arity x):RulS S r:=by
 have hv:=hr.vars
 refine⟨⟨fun l hl=>lit_okL (hr.lits l hl) hv.1 hS,fun l hl hk=>?_,fun l hl t ht=>?_,fun x hx=>(hS x hx).nums,hr.body,by omega,fun l hl=>?_⟩,safe_Bd hr.safe,hv⟩
 ·obtain⟨_,h2,_⟩:=litE_right (hr.lits l hl)
  unfold opB inR at h2
  rw [if_pos hk] at h2
  simp only [Bool.and_eq_true,decide_eq_true_eq] at h2
  exact h2
 ·exact ((litE_right (hr.lits l hl)).2.2.2.2 t ht).2.2
 ·obtain⟨h1,_,h3,h4,_⟩:=litE_right (hr.lits l hl)
  by_cases hk:l.kind=1∨l.kind=2
  ·have:=(h3 hk).2
   have:=ha l.pred.toNat
   omega
  ·have:=(h4 hk).2
   omega
attribute [local irreducible] DW DS DL DQ Ev FnOk FnP thenD b7 DT
set_option maxHeartbeats 8000000 in
theorem args_fn (l:List Trm) (a:List Int) (hok:∀ t∈l,okT a.length t) (hl:l.length≤1000000):Fn 93 [.d (.slice 2 (l.map bm)),.d (.slice 1 (a.map bf))] (fun r=>r = .d (.slice 1 ((l.map (vA a)).map bf))):=by
 refine au _ Tryz.func93 rfl rfl (by kernel_rfl) ?_
 intro O w0 E0 β0
 have ll:(l.map bm).length=l.length:=List.length_map _
 have la:(a.map bf).length=a.length:=List.length_map _
 repeat' (first|(apply ds_bs0;exact rfl;exact rfl;exact rfl;exact rfl;exact rfl;exact rfl;exact rfl;exact rfl)|(first|refine z0 ?_|apply ag|apply ae|refine z16 ?_|apply ah|apply aa))
 refine bh (ι:=Nat) (fun i=>⟨1,[(0,.d (.slice 2 (l.map bm))),(1,.d (.slice 1 (a.map bf))),(5,.row 0),(9,.d (.slice 2 (l.map bm))),(10,.d (.int .i64 l.length)),(11,.d (.int .i64 i))],[(0,.row 3 1 (((l.take i).map (vA a)).map bf))]⟩)
  (fun i=>i≤l.length) (fun i=>l.length - i) 0 (Nat.zero_le _) (aj id ⟨rfl,rfl,rfl,rfl,by rw [← ll];rfl,rfl,trivial⟩ ⟨rfl,trivial⟩ rfl rfl rfl rfl rfl rfl) ?_
 intro i g1
 by_cases hi:i < l.length
 ·have ho:=hok _ (List.getElem_mem hi)
  unfold okT at ho
  have ht:l.take (i + 1)=l.take i++[l[i]]:=List.take_succ_eq_append_getElem hi
  by_cases hv:l[i].var < 0
  ·have hva:vA a l[i]=l[i].n:=by unfold vA;rw [if_pos hv]
   repeat' (first|refine z0 ?_|apply ag|apply ae|refine z16 ?_|apply ah|apply ai|apply aq|apply aa|apply ap|apply aw|refine z17 ?_|refine z1 ?_|refine z3 ?_|refine z4 ?_|refine z2 ?_|(refine z23 ?_ ?_ <;> intro hg)|fail)
   all_goals try (exfalso;omega)
   exact⟨i + 1,hi,aj (fun _=>2) ⟨rfl,rfl,rfl,rfl,rfl,rfl,trivial⟩ ⟨by rw [ht,List.map_append,List.map_append,List.map_singleton,hva];rfl,trivial⟩ rfl rfl rfl rfl rfl rfl,by omega⟩
  ·have hlt:l[i].var.toNat < a.length:=by omega
   have hva:vA a l[i]=a[l[i].var.toNat]:=by unfold vA;rw [if_neg hv,List.getD,List.getElem?_eq_getElem hlt];rfl
   repeat' (first|refine z0 ?_|apply ag|apply ae|refine z16 ?_|apply ah|apply ai|apply aq|apply aa|apply ap|apply aw|refine z17 ?_|refine z1 ?_|refine z3 ?_|refine z4 ?_|refine z2 ?_|(refine z23 ?_ ?_ <;> intro hg)|fail)
   all_goals try (exfalso;omega)
   exact⟨i + 1,hi,aj (fun _=>2) ⟨rfl,rfl,rfl,rfl,rfl,rfl,trivial⟩ ⟨by rw [ht,List.map_append,List.map_append,List.map_singleton,hva];rfl,trivial⟩ rfl rfl rfl rfl rfl rfl,by omega⟩
 ·rw [List.take_of_length_le (by omega)]
  repeat' (first|refine z0 ?_|apply ag|apply ae|refine z16 ?_|apply ah|apply ai|apply aq|apply aa|apply ap|apply aw|refine z17 ?_|refine z1 ?_|refine z3 ?_|refine z4 ?_|refine z2 ?_|(refine z23 ?_ ?_ <;> intro hg)|fail)
  all_goals try (exfalso;omega)
  refine bl (cg 4 rfl rfl rfl) ?_
  repeat' (apply ak)
  exact⟨.inl rfl,_,rfl,rfl,rfl⟩
def sameI (a b:Int):Bool:=decide (a=b)
theorem ne_not {a b:Int} {c:Bool} (h:decide (a≠b) = !c):sameI a b=c:=by
 unfold sameI
 cases c <;> simp_all
set_option maxHeartbeats 8000000 in
theorem sameInts_fn (l m:List (Int)):Fn 17 [.d (.slice 1 (l.map bf)),.d (.slice 1 (m.map bf))] (fun r=>r = .d (.bool (sameL sameI l m))):=by
 refine au _ Tryz.func17 rfl rfl (by kernel_rfl) ?_
 intro O w0 E0 β0
 refine da (t:=0) rfl fun hb=>?_
 repeat' (first|refine z0 ?_|apply ag|apply ae|refine z16 ?_|apply aa)
 refine cw rfl (fun h=>?_) (fun h=>?_)
 ·have hne:l.length≠m.length:=by rw [List.length_map,List.length_map] at h;omega
  repeat' (first|refine z0 ?_|apply ag|apply ae|refine z16 ?_|apply ak|apply aa|apply av)
  exact db rfl (sameL_len _ _ _ hne).symm
 ·have hlen:l.length=m.length:=by rw [List.length_map,List.length_map] at h;omega
  repeat' (first|refine z0 ?_|apply ag|apply ae|refine z16 ?_|apply ah|apply ai|apply aa)
  refine bh (ι:=Nat) (fun i=>⟨0,[(0,.d (.slice 1 (l.map bf))),(1,.d (.slice 1 (m.map bf))),(5,.d (.int .i64 i))],[]⟩)
   (fun i=>i≤l.length∧sameL sameI l m=sameL sameI (l.drop i) (m.drop i)) (fun i=>l.length - i) 0 ⟨Nat.zero_le _,rfl⟩
   (aj id ⟨rfl,rfl,rfl,trivial⟩ trivial rfl rfl rfl rfl rfl rfl) ?_
  rintro i ⟨h1,h2⟩
  repeat' (first|refine z0 ?_|apply ag|apply ae|refine z16 ?_|apply aa)
  refine cw rfl (fun h=>?_) (fun h=>?_)
  ·have hi:i < l.length:=by rw [List.length_map] at h;omega
   have hm:i < m.length:=by omega
   have hd:=sameL_drop sameI l m i hi hm
   repeat' (first|refine z5 ?_|refine z10 ?_|apply ae|refine z20 ?_|apply ah|apply ai|apply aa)
   refine bu rfl (fun hb=>?_) (fun hb=>?_)
   ·have hp:sameI l[i] m[i]=false:=by exact ne_not hb
    repeat' (first|refine z0 ?_|apply ag|apply ae|refine z16 ?_|apply ak|apply aa|apply av|apply bq)
    exact db rfl (by rw [h2,hd,hp];rfl)
   ·have hp:sameI l[i] m[i]=true:=by exact ne_not hb
    repeat' (first|refine z0 ?_|apply ag|refine z16 ?_|apply ai|apply aa|apply aw)
    exact⟨i + 1,⟨hi,by rw [h2,hd,hp];rfl⟩,aj id ⟨rfl,rfl,rfl,trivial⟩ trivial rfl rfl rfl rfl rfl rfl,by omega⟩
  ·repeat' (first|refine z0 ?_|apply ag|apply ae|refine z16 ?_|apply aq|apply ak|apply aa|apply ap|refine z17 ?_|fail)
   exact db rfl (by rw [h2,sameL_end _ _ _ _ (by rw [List.length_map] at h;omega) (by rw [List.length_map] at h;omega)])
structure HeadOk (arity:List Int) (r:Rul) (ways:List (List Int)):Prop where
 rul:RulR arity r
 many:ways.length≤2000
 len:∀ w∈ways,w.length=r.vars.toNat
 nums:∀ w∈ways,∀ y∈w,-1000000≤y∧y≤1000000
 tlen:r.terms.length≤3
def headD (r:Rul) (ways:List (List Int)) (w:List Int):Option Fct:=if r.fold=0 then some ⟨r.pred,aW r w⟩
 else if numB (foldN r.fold (grpL (ways.map (pW r)) (pW r w).1)) then some ⟨r.pred,(pW r w).1++[foldN r.fold (grpL (ways.map (pW r)) (pW r w).1)]⟩ else none
theorem headsD_eq (r:Rul) (ways:List (List Int)):headsD r ways=ways.filterMap (headD r ways):=by
 unfold headsD
 by_cases h:r.fold=0
 ·rw [if_pos h,← List.filterMap_eq_map]
  congr 1
  funext w
  unfold headD
  rw [if_pos h];rfl
 ·rw [if_neg h]
  congr 1
  funext w
  unfold headD
  rw [if_neg h]
theorem HeadOk.terms {arity:List Int} {r:Rul} {ways:List (List Int)} (h:HeadOk arity r ways) {w:List Int} (hw:w∈ways):∀ t∈r.terms,okT w.length t:=by
 intro t ht
 have h1:=h.rul.terms t ht
 have h2:=h.rul.vars
 rw [h.len w hw]
 unfold okT
 omega
theorem HeadOk.vals {arity:List Int} {r:Rul} {ways:List (List Int)} (h:HeadOk arity r ways) {w:List Int} (hw:w∈ways):∀ x∈aW r w,-1000000≤x∧x≤1000000:=by
 intro x hx
 obtain⟨t,ht,rfl⟩:=List.mem_map.1 hx
 unfold vA
 split
 ·exact (h.rul.terms t ht).2.2
 ·rename_i hv
  have hlt:t.var.toNat < w.length:=by have:=h.terms hw t ht;unfold okT at this;omega
  rw [List.getD,List.getElem?_eq_getElem hlt]
  exact h.nums w hw _ (List.getElem_mem hlt)
theorem sameI_eq (a b:List Int):sameL sameI a b=decide (a=b):=by
 by_cases h:a=b
 ·subst h
  rw [decide_eq_true rfl]
  induction a with
  | nil=>rfl
  | cons x a ih=>unfold sameL;simp [sameI,ih]
 ·rw [decide_eq_false h]
  cases hs:sameL sameI a b with
  | false=>rfl
  | true =>
   exfalso;apply h
   clear h
   induction a generalizing b with
   | nil=>cases b with|nil=>rfl|cons y b=>simp [sameL] at hs
   | cons x a ih =>
    cases b with
    | nil=>simp [sameL] at hs
    | cons y b =>
     simp only [sameL,sameI,Bool.and_eq_true,decide_eq_true_eq] at hs
     rw [hs.1,ih b hs.2]
theorem filterMap_take {α β:Type} (f:α→Option β) {l:List α} {i:Nat} (hi:i < l.length):(l.take (i + 1)).filterMap f=(l.take i).filterMap f++(f l[i]).toList:=by
 rw [List.take_succ_eq_append_getElem hi,List.filterMap_append,List.filterMap_cons,List.filterMap_nil]
 cases f l[i] <;> rfl
theorem filterMap_len {α β:Type} (f:α→Option β) (l:List α) (i:Nat):((l.take i).filterMap f).length≤i:=Nat.le_trans (List.length_filterMap_le _ _) (by rw [List.length_take];omega)
theorem fold_small (fold:Int):∀ (l:List Int) (n m B:Int),0≤m→0≤B→-B≤n→n≤B→m≤B→(∀ x∈l,-1000000≤x∧x≤1000000) →
  -(B + 1000000 * l.length)≤(l.foldl (stepN fold) (n,m)).1∧(l.foldl (stepN fold) (n,m)).1≤B + 1000000 * l.length∧(l.foldl (stepN fold) (n,m)).2=m + l.length
 | [],n,m,B,_,_,h1,h2,_,_=>by simp;omega
 | x::l,n,m,B,h0,hB,h1,h2,h3,hl=>by
  have hx:=hl x (List.mem_cons_self ..)
  rw [List.foldl_cons]
  have hs:-(B + 1000000)≤(stepN fold (n,m) x).1∧(stepN fold (n,m) x).1≤B + 1000000∧(stepN fold (n,m) x).2=m + 1:=by
   unfold stepN
   dsimp only
   refine⟨?_,?_,rfl⟩ <;> (repeat' split) <;> omega
  generalize hst:stepN fold (n,m) x=st at hs
  obtain⟨n',m'⟩:=st
  dsimp only at hs
  obtain⟨s1,s2,rfl⟩:=hs
  obtain⟨r1,r2,r3⟩:=fold_small fold l n' (m + 1) (B + 1000000) (by omega) (by omega) s1 s2 (by omega) fun y hy=>hl y (List.mem_cons_of_mem _ hy)
  rw [List.length_cons]
  refine⟨by omega,by omega,by omega⟩
set_option maxHeartbeats 8000000 in
theorem headsOf_fn (arity:List Int) (r:Rul) (ways:List (List Int)) (hok:HeadOk arity r ways):Fn 103 [elRul r,.d (.slice 1 (ways.map encW))] (fun res=>res = .d (.slice 2 ((b9 (headsD r ways)).map ay))):=by
 refine au _ Tryz.func103 rfl rfl (by kernel_rfl) ?_
 intro O w0 E0 β0
 rw [headsD_eq]
 have hmany:=hok.many
 have htl:=hok.tlen
 have lw:(ways.map encW).length=ways.length:=List.length_map _
 have lt:(r.terms.map bm).length=r.terms.length:=List.length_map _
 have wset:=setOf_fn (ways.filterMap (headD r ways)) (Nat.le_trans (List.length_filterMap_le _ _) (by omega))
 by_cases h0:r.fold=0
 ·repeat' ((fail_if_success (apply dw_stopR 3));(first|refine z0 ?_|apply ag|apply ae|refine z16 ?_|apply aa|refine z1 ?_|fail))
  refine bl (ent_nilrow (t:=5) 48 2 rfl) ?_
  repeat' (first|refine z0 ?_|apply ag|apply ae|refine z16 ?_|apply ah|apply aa)
  refine bh (ι:=Nat) (fun i=>⟨2,[(1,.d (.slice 1 (ways.map encW))),(2,.loc 0 0),(5,.row 1),(7,.d (.int .i64 i))],[(0,.blk 36 [.d (.int .i64 r.pred),.d (.slice 2 (r.terms.map bm)),.d (.int .i64 r.fold),.d (.slice 4 (r.body.map bp)),.d (.int .i64 r.vars)]),(1,.row 48 2 (((ways.take i).filterMap (headD r ways)).map ay))]⟩)
   (fun i=>i≤ways.length) (fun i=>ways.length - i) 0 (Nat.zero_le _) (aj id ⟨rfl,rfl,rfl,rfl,trivial⟩ ⟨rfl,rfl,trivial⟩ rfl rfl rfl rfl rfl rfl) ?_
  intro i g1
  by_cases hi:i < ways.length
  ·have hm:=List.getElem_mem hi
   have w1:=argsOf_fn r.terms ways[i] (hok.terms hm) (by omega)
   have hst:=filterMap_take (headD r ways) hi
   have hhd:headD r ways ways[i]=some ⟨r.pred,aW r ways[i]⟩:=by unfold headD;rw [if_pos h0]
   rw [hhd] at hst
   have lo:((ways.take i).filterMap (headD r ways)).length≤i:=filterMap_len _ _ _
   clear wset
   repeat' (first|refine z0 ?_|apply ag|refine z5 ?_|refine z10 ?_|apply ae|refine z16 ?_|refine z20 ?_|apply ah|apply ai|apply aq|apply aa|apply ap|refine z17 ?_|refine z22 ?_ (hc:=by apply w1)|refine z4 ?_|refine z2 ?_|(refine z23 ?_ ?_ <;> intro hg)|fail)
   all_goals try (exfalso;omega)
   exact⟨i + 1,hi,aj (fun j=>match j with|1=>2|j=>j) ⟨rfl,rfl,rfl,rfl,trivial⟩ ⟨rfl,by rw [hst,List.map_append];rfl,trivial⟩ rfl rfl rfl rfl rfl rfl,by omega⟩
  ·rw [List.take_of_length_le (by omega)]
   repeat' (first|refine z0 ?_|apply ag|refine z5 ?_|apply ae|refine z16 ?_|refine z20 ?_|apply ah|apply ai|apply aq|apply aa|apply ap|refine z17 ?_|(refine z23 ?_ ?_ <;> intro hg)|fail)
   all_goals try (exfalso;omega)
   refine ds_ent (cg 127 rfl rfl rfl) ?_
   repeat' (first|refine z0 ?_|apply ag|apply ak|apply aa|refine z21 ?_ (hc:=by apply wset)|fail)
   exact⟨.inl rfl,_,rfl,rfl,rfl⟩
 ·have hpos:=(hok.rul.folded h0).1
  obtain⟨m,hm⟩:∃ m,r.terms.length=m + 1:=⟨r.terms.length - 1,by omega⟩
  have hfold:=hok.rul.fold
  repeat' ((fail_if_success (apply dw_stopR 3));(first|refine z0 ?_|apply ag|apply ae|refine z16 ?_|apply aa|refine z1 ?_|fail))
  refine bl (ent_nilrow (t:=5) 48 2 rfl) ?_
  repeat' (first|refine z0 ?_|apply ag|apply ae|refine z16 ?_|apply ah|apply aa)
  refine bh (ι:=Nat) (fun i=>⟨2,[(1,.d (.slice 1 (ways.map encW))),(2,.loc 0 0),(5,.row 1),(6,.d (.int .i64 m)),(7,.d (.int .i64 i))],[(0,.blk 36 [.d (.int .i64 r.pred),.d (.slice 2 (r.terms.map bm)),.d (.int .i64 r.fold),.d (.slice 4 (r.body.map bp)),.d (.int .i64 r.vars)]),(1,.row 48 2 (((ways.take i).filterMap (headD r ways)).map ay))]⟩)
   (fun i=>i≤ways.length) (fun i=>ways.length - i) 0 (Nat.zero_le _) (aj id ⟨rfl,rfl,rfl,congrArg (fun z=>SV.d (D.int .i64 z)) (show ((r.terms.map bm).length:Int) - 1=m by omega),rfl,trivial⟩ ⟨rfl,rfl,trivial⟩ rfl rfl rfl rfl rfl rfl) ?_
  intro i g1
  dsimp only at g1 ⊢
  by_cases hi:i < ways.length
  ·have hmi:=List.getElem_mem hi
   have w1:=argsOf_fn r.terms ways[i] (hok.terms hmi) (by omega)
   have hst:=filterMap_take (headD r ways) hi
   have lo:((ways.take i).filterMap (headD r ways)).length≤i:=filterMap_len _ _ _
   have hla:(aW r ways[i]).length=m + 1:=by unfold aW;rw [List.length_map];exact hm
   have lla:((aW r ways[i]).map bf).length=m + 1:=by rw [List.length_map];exact hla
   have hp:(pW r ways[i]).1=(aW r ways[i]).take m:=by unfold pW;rw [hm];rfl
   clear wset
   rw [show r.terms.map (vA ways[i])=aW r ways[i] from rfl] at w1
   repeat' ((fail_if_success (apply dw_stopR 10));(first|refine z0 ?_|apply ag|refine z5 ?_|refine z10 ?_|apply ae|refine z16 ?_|refine z20 ?_|apply ah|apply ai|apply aq|apply aa|apply ap|refine z17 ?_|refine z22 ?_ (hc:=by apply w1)|refine z4 ?_|refine z2 ?_|(refine z23 ?_ ?_ <;> intro hg)|fail))
   all_goals try (exfalso;omega)
   generalize hP:(pW r ways[i]).1=P at hp
   refine dw_cut (ι:=Unit) (fun _=>⟨2,[(1,.d (.slice 1 (ways.map encW))),(2,.loc 0 0),(5,.row 1),(6,.d (.int .i64 m)),(7,.d (.int .i64 i)),(8,.d (.slice 1 ((aW r ways[i]).map bf))),(9,.d (.int .i64 (foldN r.fold (grpL (ways.map (pW r)) P))))],[(0,.blk 36 [.d (.int .i64 r.pred),.d (.slice 2 (r.terms.map bm)),.d (.int .i64 r.fold),.d (.slice 4 (r.body.map bp)),.d (.int .i64 r.vars)]),(1,.row 48 2 (((ways.take i).filterMap (headD r ways)).map ay))]⟩) (fun _=>True) ?_ ?_
   ·repeat' (first|refine z0 ?_|apply ag|apply ae|refine z16 ?_|apply ah|apply aa)
    refine bh (ι:=Nat × Int × Int) (fun x=>⟨2,[(1,.d (.slice 1 (ways.map encW))),(2,.loc 0 0),(5,.row 1),(6,.d (.int .i64 m)),(7,.d (.int .i64 i)),(8,.d (.slice 1 ((aW r ways[i]).map bf))),(9,.d (.int .i64 x.2.1)),(10,.d (.int .i64 x.2.2)),(11,.d (.int .i64 x.1))],[(0,.blk 36 [.d (.int .i64 r.pred),.d (.slice 2 (r.terms.map bm)),.d (.int .i64 r.fold),.d (.slice 4 (r.body.map bp)),.d (.int .i64 r.vars)]),(1,.row 48 2 (((ways.take i).filterMap (headD r ways)).map ay))]⟩)
     (fun x=>x.1≤ways.length∧(grpL ((ways.take x.1).map (pW r)) P).foldl (stepN r.fold) (0,0)=(x.2.1,x.2.2)) (fun x=>ways.length - x.1) (0,0,0) ⟨Nat.zero_le _,rfl⟩ (aj id ⟨rfl,rfl,rfl,rfl,rfl,rfl,rfl,rfl,rfl,trivial⟩ ⟨rfl,rfl,trivial⟩ rfl rfl rfl rfl rfl rfl) ?_
    rintro⟨k,n,mm⟩ ⟨f1,f2⟩
    dsimp only at f1 f2 ⊢
    by_cases hk:k < ways.length
    ·have hmk:=List.getElem_mem hk
     have w2:=argsOf_fn r.terms ways[k] (hok.terms hmk) (by omega)
     rw [show r.terms.map (vA ways[k])=aW r ways[k] from rfl] at w2
     have hlb:(aW r ways[k]).length=m + 1:=by unfold aW;rw [List.length_map];exact hm
     have llb:((aW r ways[k]).map bf).length=m + 1:=by rw [List.length_map];exact hlb
     have hvb:=hok.vals hmk
     have w3:=sameInts_fn ((aW r ways[i]).take m) ((aW r ways[k]).take m)
     rw [sameI_eq] at w3
     have hst2:grpL ((ways.take (k + 1)).map (pW r)) P=grpL ((ways.take k).map (pW r)) P++if (pW r ways[k]).1=P then [(pW r ways[k]).2] else []:=by
      rw [List.take_succ_eq_append_getElem hk,List.map_append];exact grpL_snoc _ _ _
     have hpk:(pW r ways[k]).1=(aW r ways[k]).take m:=by unfold pW;rw [hm];rfl
     have hx:(pW r ways[k]).2=(aW r ways[k])[m]'(by omega):=by
      unfold pW;rw [hm];simp only [Nat.add_sub_cancel];rw [List.getD,List.getElem?_eq_getElem (by omega)];rfl
     have hxb:=hvb _ (List.getElem_mem (show m < (aW r ways[k]).length by omega))
     have hsm:=fold_small r.fold (grpL ((ways.take k).map (pW r)) P) 0 0 0 (Int.le_refl _) (Int.le_refl _) (by omega) (Int.le_refl _) (Int.le_refl _) (fun x hx=>by
      obtain⟨z,hz,rfl⟩:=List.mem_map.1 hx
      obtain⟨u,hu,rfl⟩:=List.mem_map.1 (List.mem_filter.1 hz).1
      have hu':=List.mem_of_mem_take hu
      have:=hok.vals hu'
      unfold pW
      rw [hm]
      simp only [Nat.add_sub_cancel]
      have hlu:m < (aW r u).length:=by unfold aW;rw [List.length_map];omega
      rw [List.getD,List.getElem?_eq_getElem hlu]
      exact this _ (List.getElem_mem hlu))
     have hgl:(grpL ((ways.take k).map (pW r)) P).length≤k:=by
      unfold grpL
      rw [List.length_map]
      refine Nat.le_trans (List.length_filter_le _ _) ?_
      rw [List.length_map,List.length_take];omega
     rw [f2] at hsm
     dsimp only at hsm
     by_cases he:(aW r ways[i]).take m=(aW r ways[k]).take m
     ·rw [decide_eq_true he] at w3
      rw [if_pos (by rw [hpk,← he,← hp])] at hst2
      have f3:(grpL ((ways.take (k + 1)).map (pW r)) P).foldl (stepN r.fold) (0,0)=stepN r.fold (n,mm) ((aW r ways[k])[m]'(by omega)):=by rw [hst2,List.foldl_append,f2,hx];rfl
      clear hst2 w1
      have fin:∀ (val:Int),stepN r.fold (n,mm) ((aW r ways[k])[m]'(by omega))=(val,mm + 1)→(grpL ((ways.take (k + 1)).map (pW r)) P).foldl (stepN r.fold) (0,0)=(val,mm + 1):=fun val h=>f3.trans h
      by_cases q1:r.fold=1
      ·have hs:stepN r.fold (n,mm) ((aW r ways[k])[m]'(by omega))=(mm + 1,mm + 1):=by unfold stepN;dsimp only;rw [if_pos q1]
       repeat' (first|refine z0 ?_|refine z12 ?_|apply ag|refine z5 ?_|refine z10 ?_|apply ae|refine z16 ?_|refine z20 ?_|apply ah|apply ai|apply aq|refine z18 ?_|refine z19 ?_|apply aa|apply ap|apply aw|refine z17 ?_|refine z22 ?_ (hc:=by apply w2)|refine z22 ?_ (hc:=by apply w3)|(refine z23 ?_ ?_ <;> intro hg)|((fail_if_success (apply a8;exact rfl));apply a6;exact rfl;exact rfl;exact rfl;all_goals intro hg))
       all_goals try (exfalso;omega)
       all_goals exact⟨(k + 1,mm + 1,mm + 1),⟨hk,fin _ hs⟩,aj id ⟨rfl,rfl,rfl,rfl,rfl,rfl,rfl,rfl,rfl,trivial⟩ ⟨rfl,rfl,trivial⟩ rfl rfl rfl rfl rfl rfl,by show ways.length - (k + 1) < ways.length - k;omega⟩
      ·by_cases q2:r.fold=2
       ·have hs:stepN r.fold (n,mm) ((aW r ways[k])[m]'(by omega))=(n + (aW r ways[k])[m]'(by omega),mm + 1):=by unfold stepN;dsimp only;rw [if_neg q1,if_pos q2]
        repeat' (first|refine z0 ?_|refine z12 ?_|apply ag|refine z5 ?_|refine z10 ?_|apply ae|refine z16 ?_|refine z20 ?_|apply ah|apply ai|apply aq|refine z18 ?_|refine z19 ?_|apply aa|apply ap|apply aw|refine z17 ?_|refine z22 ?_ (hc:=by apply w2)|refine z22 ?_ (hc:=by apply w3)|(refine z23 ?_ ?_ <;> intro hg)|((fail_if_success (apply a8;exact rfl));apply a6;exact rfl;exact rfl;exact rfl;all_goals intro hg))
        all_goals try (exfalso;omega)
        all_goals exact⟨(k + 1,n + (aW r ways[k])[m]'(by omega),mm + 1),⟨hk,fin _ hs⟩,aj id ⟨rfl,rfl,rfl,rfl,rfl,rfl,rfl,rfl,rfl,trivial⟩ ⟨rfl,rfl,trivial⟩ rfl rfl rfl rfl rfl rfl,by show ways.length - (k + 1) < ways.length - k;omega⟩
       ·by_cases q3:mm + 1=1
        ·have hs:stepN r.fold (n,mm) ((aW r ways[k])[m]'(by omega))=((aW r ways[k])[m]'(by omega),mm + 1):=by unfold stepN;dsimp only;rw [if_neg q1,if_neg q2,if_pos (.inl q3)]
         repeat' (first|refine z0 ?_|refine z12 ?_|apply ag|refine z5 ?_|refine z10 ?_|apply ae|refine z16 ?_|refine z20 ?_|apply ah|apply ai|apply aq|refine z18 ?_|refine z19 ?_|apply aa|apply ap|apply aw|refine z17 ?_|refine z22 ?_ (hc:=by apply w2)|refine z22 ?_ (hc:=by apply w3)|(refine z23 ?_ ?_ <;> intro hg)|((fail_if_success (apply a8;exact rfl));apply a6;exact rfl;exact rfl;exact rfl;all_goals intro hg))
         all_goals try (exfalso;omega)
         all_goals exact⟨(k + 1,(aW r ways[k])[m]'(by omega),mm + 1),⟨hk,fin _ hs⟩,aj id ⟨rfl,rfl,rfl,rfl,rfl,rfl,rfl,rfl,rfl,trivial⟩ ⟨rfl,rfl,trivial⟩ rfl rfl rfl rfl rfl rfl,by show ways.length - (k + 1) < ways.length - k;omega⟩
        ·by_cases q4:r.fold=3
         ·by_cases q5:((aW r ways[k])[m]'(by omega)) < n
          ·have hs:stepN r.fold (n,mm) ((aW r ways[k])[m]'(by omega))=((aW r ways[k])[m]'(by omega),mm + 1):=by unfold stepN;dsimp only;rw [if_neg q1,if_neg q2,if_pos (.inr (.inl ⟨q4,q5⟩))]
           repeat' (first|refine z0 ?_|refine z12 ?_|apply ag|refine z5 ?_|refine z10 ?_|apply ae|refine z16 ?_|refine z20 ?_|apply ah|apply ai|apply aq|refine z18 ?_|refine z19 ?_|apply aa|apply ap|apply aw|refine z17 ?_|refine z22 ?_ (hc:=by apply w2)|refine z22 ?_ (hc:=by apply w3)|(refine z23 ?_ ?_ <;> intro hg)|((fail_if_success (apply a8;exact rfl));apply a6;exact rfl;exact rfl;exact rfl;all_goals intro hg))
           all_goals try (exfalso;omega)
           all_goals exact⟨(k + 1,(aW r ways[k])[m]'(by omega),mm + 1),⟨hk,fin _ hs⟩,aj id ⟨rfl,rfl,rfl,rfl,rfl,rfl,rfl,rfl,rfl,trivial⟩ ⟨rfl,rfl,trivial⟩ rfl rfl rfl rfl rfl rfl,by show ways.length - (k + 1) < ways.length - k;omega⟩
          ·have hs:stepN r.fold (n,mm) ((aW r ways[k])[m]'(by omega))=(n,mm + 1):=by unfold stepN;dsimp only;rw [if_neg q1,if_neg q2,if_neg (by omega)]
           repeat' (first|refine z0 ?_|refine z12 ?_|apply ag|refine z5 ?_|refine z10 ?_|apply ae|refine z16 ?_|refine z20 ?_|apply ah|apply ai|apply aq|refine z18 ?_|refine z19 ?_|apply aa|apply ap|apply aw|refine z17 ?_|refine z22 ?_ (hc:=by apply w2)|refine z22 ?_ (hc:=by apply w3)|(refine z23 ?_ ?_ <;> intro hg)|((fail_if_success (apply a8;exact rfl));apply a6;exact rfl;exact rfl;exact rfl;all_goals intro hg))
           all_goals try (exfalso;omega)
           all_goals exact⟨(k + 1,n,mm + 1),⟨hk,fin _ hs⟩,aj id ⟨rfl,rfl,rfl,rfl,rfl,rfl,rfl,rfl,rfl,trivial⟩ ⟨rfl,rfl,trivial⟩ rfl rfl rfl rfl rfl rfl,by show ways.length - (k + 1) < ways.length - k;omega⟩
         ·by_cases q5:n < ((aW r ways[k])[m]'(by omega))
          ·have hs:stepN r.fold (n,mm) ((aW r ways[k])[m]'(by omega))=((aW r ways[k])[m]'(by omega),mm + 1):=by unfold stepN;dsimp only;rw [if_neg q1,if_neg q2,if_pos (.inr (.inr ⟨by omega,q5⟩))]
           repeat' (first|refine z0 ?_|refine z12 ?_|apply ag|refine z5 ?_|refine z10 ?_|apply ae|refine z16 ?_|refine z20 ?_|apply ah|apply ai|apply aq|refine z18 ?_|refine z19 ?_|apply aa|apply ap|apply aw|refine z17 ?_|refine z22 ?_ (hc:=by apply w2)|refine z22 ?_ (hc:=by apply w3)|(refine z23 ?_ ?_ <;> intro hg)|((fail_if_success (apply a8;exact rfl));apply a6;exact rfl;exact rfl;exact rfl;all_goals intro hg))
           all_goals try (exfalso;omega)
           all_goals exact⟨(k + 1,(aW r ways[k])[m]'(by omega),mm + 1),⟨hk,fin _ hs⟩,aj id ⟨rfl,rfl,rfl,rfl,rfl,rfl,rfl,rfl,rfl,trivial⟩ ⟨rfl,rfl,trivial⟩ rfl rfl rfl rfl rfl rfl,by show ways.length - (k + 1) < ways.length - k;omega⟩
          ·have hs:stepN r.fold (n,mm) ((aW r ways[k])[m]'(by omega))=(n,mm + 1):=by unfold stepN;dsimp only;rw [if_neg q1,if_neg q2,if_neg (by omega)]
           repeat' (first|refine z0 ?_|refine z12 ?_|apply ag|refine z5 ?_|refine z10 ?_|apply ae|refine z16 ?_|refine z20 ?_|apply ah|apply ai|apply aq|refine z18 ?_|refine z19 ?_|apply aa|apply ap|apply aw|refine z17 ?_|refine z22 ?_ (hc:=by apply w2)|refine z22 ?_ (hc:=by apply w3)|(refine z23 ?_ ?_ <;> intro hg)|((fail_if_success (apply a8;exact rfl));apply a6;exact rfl;exact rfl;exact rfl;all_goals intro hg))
           all_goals try (exfalso;omega)
           all_goals exact⟨(k + 1,n,mm + 1),⟨hk,fin _ hs⟩,aj id ⟨rfl,rfl,rfl,rfl,rfl,rfl,rfl,rfl,rfl,trivial⟩ ⟨rfl,rfl,trivial⟩ rfl rfl rfl rfl rfl rfl,by show ways.length - (k + 1) < ways.length - k;omega⟩
     ·rw [decide_eq_false he] at w3
      rw [if_neg (by rw [hpk,hp];exact fun h=>he h.symm),List.append_nil] at hst2
      rw [← hst2] at f2
      repeat' (first|refine z0 ?_|apply ag|refine z5 ?_|refine z10 ?_|apply ae|refine z16 ?_|refine z20 ?_|apply ah|apply ai|apply aq|refine z18 ?_|apply aa|apply ap|refine z17 ?_|refine z22 ?_ (hc:=by apply w2)|refine z22 ?_ (hc:=by apply w3)|(refine z23 ?_ ?_ <;> intro hg)|fail)
      all_goals try (exfalso;omega)
      exact⟨(k + 1,n,mm),⟨hk,f2⟩,aj id ⟨rfl,rfl,rfl,rfl,rfl,rfl,rfl,rfl,rfl,trivial⟩ ⟨rfl,rfl,trivial⟩ rfl rfl rfl rfl rfl rfl,by show ways.length - (k + 1) < ways.length - k;omega⟩
    ·rw [List.take_of_length_le (by omega)] at f2
     have hn:foldN r.fold (grpL (ways.map (pW r)) P)=n:=by unfold foldN;rw [f2]
     rw [hn]
     repeat' (first|refine z0 ?_|apply ag|refine z5 ?_|apply ae|refine z16 ?_|refine z20 ?_|apply ah|apply ai|apply aq|apply aa|apply ap|refine z17 ?_|(refine z23 ?_ ?_ <;> intro hg)|fail)
     all_goals try (exfalso;omega)
     exact⟨(),trivial,aj id ⟨rfl,rfl,rfl,rfl,rfl,rfl,rfl,trivial⟩ ⟨rfl,rfl,trivial⟩ rfl rfl rfl rfl rfl rfl⟩
   ·rintro _ _
    dsimp only
    have hhd:headD r ways ways[i]=if numB (foldN r.fold (grpL (ways.map (pW r)) P)) then some ⟨r.pred,P++[foldN r.fold (grpL (ways.map (pW r)) P)]⟩ else none:=by unfold headD;rw [if_neg h0,hP]
    generalize foldN r.fold (grpL (ways.map (pW r)) P)=n at hhd ⊢
    have w4:=sisNumber_fn n
    cases hb:numB n with
    | false =>
     rw [hb] at w4 hhd
     rw [hhd] at hst
     repeat' (first|refine z0 ?_|apply ag|apply ae|refine z16 ?_|apply ai|refine z19 ?_|apply aa|apply aw|refine z21 ?_ (hc:=by apply w4)|fail)
     all_goals try (exfalso;omega)
     exact⟨i + 1,hi,aj id ⟨rfl,rfl,rfl,rfl,rfl,trivial⟩ ⟨rfl,by rw [hst];simp only [Bool.false_eq_true,if_false,Option.toList_none,List.append_nil];rfl,trivial⟩ rfl rfl rfl rfl rfl rfl,by omega⟩
    | true =>
     rw [hb] at w4 hhd
     rw [hhd] at hst
     have hPl:(P.map bf).length≤3:=by rw [List.length_map,hp,List.length_take];omega
     repeat' (first|(apply dt_bs0;exact rfl;exact rfl;exact rfl;exact rfl;exact rfl;exact rfl;exact rfl;exact rfl;exact rfl;exact rfl)|(first|refine z0 ?_|apply ag|refine z5 ?_|refine z8 ?_|refine z9 ?_|refine z11 ?_|apply ae|refine z16 ?_|refine z20 ?_|refine z18 ?_|apply aa|apply aw|refine z21 ?_ (hc:=by apply w4)|fail))
     all_goals try (exfalso;omega)
     have hen:ay ⟨r.pred,P++[n]⟩=[.int .i64 r.pred,.slice 1 (((aW r ways[i]).take m).map bf++[[.int .i64 n]])]:=by
      unfold ay;rw [List.map_append,hp];rfl
     exact⟨i + 1,hi,aj (fun j=>match j with|1=>15|j=>j) ⟨rfl,rfl,rfl,rfl,rfl,trivial⟩ ⟨rfl,by rw [hst,if_pos rfl,Option.toList_some,List.map_append,List.map_singleton,hen];rfl,trivial⟩ rfl rfl rfl rfl rfl rfl,by omega⟩
  ·rw [List.take_of_length_le (by omega)]
   repeat' (first|refine z0 ?_|apply ag|refine z5 ?_|apply ae|refine z16 ?_|refine z20 ?_|apply ah|apply ai|apply aq|apply aa|apply ap|refine z17 ?_|(refine z23 ?_ ?_ <;> intro hg)|fail)
   all_goals try (exfalso;omega)
   refine ds_ent (cg 127 rfl rfl rfl) ?_
   repeat' (first|refine z0 ?_|apply ag|apply ak|apply aa|refine z21 ?_ (hc:=by apply wset)|fail)
   exact⟨.inl rfl,_,rfl,rfl,rfl⟩
theorem outE_num {e:RE} (h:numE e):∀ y∈bz e,-1000000≤y∧y≤1000000:=by
 intro y hy
 obtain⟨x,hx,rfl⟩:=List.mem_map.1 hy
 obtain⟨v,hv⟩:=List.getElem?_of_mem hx
 cases x with
 | none=>simp
 | some z=>exact h v z hv
theorem fromE_num {S:List Fct} {body:List Ltl}:∀ (ys:List Ltl) (e:RE),okB S e.length body→(∀ l∈ys,l∈body∧l.kind=1)→numE e→∀ a∈fromE S body ys e,∀ y∈a,-1000000≤y∧y≤1000000
 | [],e,hok,_,hn,a,ha=>by
  rw [fromE] at ha
  cases hr:recN body (body.length + 1) e with
  | none=>rw [hr] at ha;simp at ha
  | some e' =>
   rw [hr] at ha
   simp only at ha
   split at ha
   ·simp at ha
   ·rw [List.mem_singleton] at ha
    subst ha
    exact outE_num (recN_num hok hn hr)
 | l::ys,e,hok,hys,hn,a,ha=>by
  rw [fromE] at ha
  cases hr:recN body (body.length + 1) e with
  | none=>rw [hr] at ha;simp at ha
  | some e' =>
   rw [hr] at ha
   simp only at ha
   obtain⟨g1,_⟩:=recN_some hok.lit hr
   have hn':=recN_num hok hn hr
   obtain⟨hl,hl1⟩:=hys l (List.mem_cons_self ..)
   split at ha
   ·simp at ha
   ·unfold litW at ha
    rw [if_pos hl1,List.mem_flatMap] at ha
    obtain⟨x,hx,ha⟩:=ha
    split at ha
    ·rename_i hp
     split at ha
     ·rename_i e'' he''
      have hlk:=hok.lit l hl
      obtain⟨k1,_⟩:=matchE_some (hlk.facts hl1 x hx hp).symm (by rw [g1];exact hlk.terms) he''
      exact fromE_num ys e'' (by rw [k1,g1];exact hok) (fun l hl=>hys l (List.mem_cons_of_mem _ hl)) (matchE_num hn' (hok.facts x hx) he'') a ha
     ·simp at ha
    ·simp at ha
theorem way_num {S:List Fct} {v:Nat} {body:List Ltl} (hok:okB S v body) {a:List Int} (ha:a∈fromE S body (yesOf body) (e0 v)):∀ y∈a,-1000000≤y∧y≤1000000 :=
 fromE_num (yesOf body) (e0 v) (by rw [show (e0 v).length=v from List.length_replicate];exact hok) (fun l hl=>⟨(List.mem_filter.1 hl).1,of_decide_eq_true (List.mem_filter.1 hl).2⟩)
  (fun u x hx=>by unfold e0 at hx;rw [List.getElem?_replicate] at hx;split at hx <;> simp at hx) a ha
set_option maxHeartbeats 8000000 in
theorem made0_fn (arity:List Int) (r:Rul) (ways:List (List Int)) (hok:HeadOk arity r ways) (h0:r.fold=0):Fn 56 [elRul r,.d (.slice 1 (ways.map encW))] (fun res=>res = .d (.slice 2 ((b9 (headsD r ways)).map ay))):=by
 refine au _ Tryz.func56 rfl rfl (by kernel_rfl) ?_
 intro O w0 E0 β0
 rw [headsD_eq]
 have hmany:=hok.many
 have htl:=hok.tlen
 have lw:(ways.map encW).length=ways.length:=List.length_map _
 have lt:(r.terms.map bm).length=r.terms.length:=List.length_map _
 have hal:∀ x∈ways.filterMap (headD r ways),x.args.length≤17592186044416:=by
  intro x hx
  obtain⟨w,hw,hx⟩:=List.mem_filterMap.1 hx
  unfold headD at hx
  rw [if_pos h0] at hx
  simp only [Option.some.injEq] at hx
  subst hx
  unfold aW
  simp only [List.length_map];omega
 have wset:=set_fn (ways.filterMap (headD r ways)) (Nat.le_trans (List.length_filterMap_le _ _) (by omega)) hal
 repeat' ((fail_if_success (apply dw_stopR 2));(first|refine z0 ?_|apply ag|apply ae|refine z16 ?_|apply aa|refine z1 ?_|fail))
 refine bl (ent_nilrow (t:=5) 48 2 rfl) ?_
 repeat' (first|refine z0 ?_|apply ag|apply ae|refine z16 ?_|apply ah|apply ai|apply aa|refine z1 ?_|refine z3 ?_|(refine z23 ?_ ?_ <;> intro hg)|fail)
 all_goals try (exfalso;omega)
 refine bh (ι:=Nat) (fun i=>⟨2,[(1,.d (.slice 1 (ways.map encW))),(2,.loc 0 0),(5,.row 1),(21,.d (.slice 1 (ways.map encW))),(22,.d (.int .i64 ways.length)),(23,.d (.int .i64 i))],[(0,.blk 36 [.d (.int .i64 r.pred),.d (.slice 2 (r.terms.map bm)),.d (.int .i64 r.fold),.d (.slice 4 (r.body.map bp)),.d (.int .i64 r.vars)]),(1,.row 48 2 (((ways.take i).filterMap (headD r ways)).map ay))]⟩)
  (fun i=>i≤ways.length) (fun i=>ways.length - i) 0 (Nat.zero_le _) (aj id ⟨rfl,rfl,rfl,rfl,by rw [← lw];rfl,rfl,trivial⟩ ⟨rfl,rfl,trivial⟩ rfl rfl rfl rfl rfl rfl) ?_
 intro i g1
 by_cases hi:i < ways.length
 ·have hm:=List.getElem_mem hi
  have w1:=args_fn r.terms ways[i] (hok.terms hm) (by omega)
  have hst:=filterMap_take (headD r ways) hi
  have hhd:headD r ways ways[i]=some ⟨r.pred,aW r ways[i]⟩:=by unfold headD;rw [if_pos h0]
  rw [hhd] at hst
  have lo:((ways.take i).filterMap (headD r ways)).length≤i:=filterMap_len _ _ _
  clear wset
  repeat' (first|refine z0 ?_|apply ag|refine z5 ?_|refine z9 ?_|refine z11 ?_|apply ae|refine z16 ?_|refine z20 ?_|apply ah|apply ai|apply aq|apply aa|apply ap|apply aw|refine z17 ?_|refine z22 ?_ (hc:=by apply w1)|(refine z23 ?_ ?_ <;> intro hg)|fail)
  all_goals try (exfalso;omega)
  exact⟨i + 1,hi,aj (fun j=>match j with|1=>11|j=>j) ⟨rfl,rfl,rfl,rfl,rfl,rfl,trivial⟩ ⟨rfl,by rw [hst,List.map_append];rfl,trivial⟩ rfl rfl rfl rfl rfl rfl,by omega⟩
 ·rw [List.take_of_length_le (by omega)]
  repeat' (first|refine z0 ?_|apply ag|refine z5 ?_|apply ae|refine z16 ?_|refine z20 ?_|apply ah|apply ai|apply aq|apply aa|apply ap|refine z17 ?_|(refine z23 ?_ ?_ <;> intro hg)|fail)
  all_goals try (exfalso;omega)
  refine ds_ent (cg 38 rfl rfl rfl) ?_
  repeat' (first|refine z0 ?_|apply ag|apply ak|apply aa|apply av|refine z21 ?_ (hc:=by apply wset)|fail)
  exact⟨.inl rfl,_,rfl,rfl,rfl⟩
def liftN (fold:Int) (x:Ltl):Int:=if x.kind=2∨fold≠0 then 1 else 0
def lvLit (fold pred:Int) (lv:List Int) (x:Ltl):List Int :=
 if 2 < x.kind then lv
 else if lv.getD pred.toNat 0 < lv.getD x.pred.toNat 0 + liftN fold x then lv.set pred.toNat (lv.getD x.pred.toNat 0 + liftN fold x) else lv
def lvRule (lv:List Int) (r:Rul):List Int:=r.body.foldl (lvLit r.fold r.pred) lv
def lvRound (l:List Rul) (lv:List Int):List Int:=l.foldl lvRule lv
def lvIter (l:List Rul):Nat→List Int→List Int
 | 0,lv=>lv
 | n + 1,lv=>lvIter l n (lvRound l lv)
def leL (a b:List Int):Prop:=a.length=b.length∧∀ i,a.getD i 0≤b.getD i 0
theorem leL.refl (a:List Int):leL a a:=⟨rfl,fun _=>Int.le_refl _⟩
theorem leL.trans {a b c:List Int} (h:leL a b) (g:leL b c):leL a c:=⟨h.1.trans g.1,fun i=>Int.le_trans (h.2 i) (g.2 i)⟩
def hangsB (x:Ltl):Bool:=decide (x.kind=1) || decide (x.kind=2)
def strictB (fold:Int) (x:Ltl):Bool:=decide (x.kind=2) || decide (fold≠0)
def liftS (fold:Int) (x:Ltl):Int:=if strictB fold x then 1 else 0
def rawLit (fold pred:Int) (x:Ltl) (lv:List Int) (ch:Bool):List Int × Bool :=
 if lv.getD pred.toNat 0 < lv.getD x.pred.toNat 0 + liftS fold x then (lv.set pred.toNat (lv.getD x.pred.toNat 0 + liftS fold x),true) else (lv,ch)
def rawStep (n fold pred:Int) (st:Option (List Int × Bool)) (x:Ltl):Option (List Int × Bool):=match st with
 | none=>none
 | some (lv,ch)=>if n < lv.getD x.pred.toNat 0 + liftS fold x then none else some (rawLit fold pred x lv ch)
def rawRule (n:Int) (st:Option (List Int × Bool)) (r:Rul):Option (List Int × Bool):=(r.body.filter hangsB).foldl (rawStep n r.fold r.pred) st
def rawRound (n:Int) (l:List Rul) (lv:List Int):Option (List Int × Bool):=l.foldl (rawRule n) (some (lv,false))
def rawIter (n:Int) (l:List Rul):Nat→List Int→Option (List Int)
 | 0,_=>none
 | k + 1,lv=>match rawRound n l lv with
  | none=>none
  | some (lv',true)=>rawIter n l k lv'
  | some (lv',false)=>some lv'
def gap (n:Int) (lv:List Int):Nat:=(lv.map fun v=>(n - v).toNat).sum
def zeros (n:Nat):List Int:=List.replicate n 0
def rawL (p:Prg):Option (List Int):=rawIter p.arity.length p.rules (p.arity.length * p.arity.length + 1) (zeros p.arity.length)
theorem gap_set {n:Int}:∀ {lv:List Int} {i:Nat} {v:Int} (h:i < lv.length),lv[i] < v→v≤n→gap n (lv.set i v) < gap n lv
 | [],_,_,h,_,_=>by simp at h
 | u::lv,0,v,_,hv,hn=>by
  simp only [gap,List.set_cons_zero,List.map_cons,List.sum_cons,List.getElem_cons_zero] at hv ⊢
  omega
 | u::lv,i + 1,v,h,hv,hn=>by
  have:=gap_set (n:=n) (lv:=lv) (i:=i) (v:=v) (by simpa using h) (by simpa using hv) hn
  simp only [gap,List.set_cons_succ,List.map_cons,List.sum_cons] at this ⊢
  omega
theorem gap_zeros (n m:Nat):gap n (zeros m)=m * n:=by
 unfold gap zeros
 rw [List.map_replicate,List.sum_replicate_nat]
 simp
def Rs (n:Int) (lv0 lv:List Int) (ch:Bool):Prop:=lv.length=lv0.length∧(∀ v∈lv,0≤v∧v≤n)∧gap n lv≤gap n lv0∧(ch=true→gap n lv < gap n lv0)
theorem Rs.refl {n:Int} {lv:List Int} (h:∀ v∈lv,0≤v∧v≤n):Rs n lv lv false:=⟨rfl,h,Nat.le_refl _,fun h=>by cases h⟩
theorem Rs.step {n fold pred:Int} {lv0 lv:List Int} {ch:Bool} {x:Ltl} (h:Rs n lv0 lv ch) (hp:pred.toNat < lv0.length) (hl:¬ n < lv.getD x.pred.toNat 0 + liftS fold x):Rs n lv0 (rawLit fold pred x lv ch).1 (rawLit fold pred x lv ch).2:=by
 obtain⟨h1,h2,h3,h4⟩:=h
 unfold rawLit
 split
 ·rename_i hlt
  have hp':pred.toNat < lv.length:=by omega
  rw [List.getD,List.getElem?_eq_getElem hp',Option.getD_some] at hlt
  have:=gap_set (n:=n) hp' hlt (by omega)
  refine⟨by simpa using h1,fun v hv=>?_,by simp only;omega,fun _=>by simp only;omega⟩
  rcases List.mem_or_eq_of_mem_set hv with h|h
  ·exact h2 v h
  ·have:=(h2 _ (List.getElem_mem hp')).1
   omega
 ·exact⟨h1,h2,h3,h4⟩
theorem rawStep_none (n fold pred:Int):∀ (b:List Ltl),b.foldl (rawStep n fold pred) none=none
 | []=>rfl
 | _::b=>rawStep_none n fold pred b
theorem rawRule_none (n:Int):∀ (l:List Rul),l.foldl (rawRule n) none=none
 | []=>rfl
 | r::l=>by
  rw [List.foldl_cons,show rawRule n none r=none from rawStep_none _ _ _ _]
  exact rawRule_none n l
theorem rawStep_if {n fold pred:Int} {lv:List Int} {ch:Bool} {x:Ltl} (h1:x.pred.toNat < lv.length) (h2:pred.toNat < lv.length):rawStep n fold pred (some (lv,ch)) x =
  if n < lv[x.pred.toNat] + liftS fold x then none else if lv[pred.toNat] < lv[x.pred.toNat] + liftS fold x then some (lv.set pred.toNat (lv[x.pred.toNat] + liftS fold x),true) else some (lv,ch):=by
 simp only [rawStep,rawLit,List.getD,List.getElem?_eq_getElem h1,List.getElem?_eq_getElem h2,Option.getD_some]
 split
 ·rfl
 ·split <;> rfl
theorem Rs.next {n fold pred:Int} {lv0 lv lv':List Int} {ch ch':Bool} {x:Ltl} (h:Rs n lv0 lv ch) (hp:pred.toNat < lv0.length) (hs:rawStep n fold pred (some (lv,ch)) x=some (lv',ch')):Rs n lv0 lv' ch':=by
 unfold rawStep at hs
 split at hs
 ·cases hs
 ·rename_i heq
  cases heq
  split at hs
  ·cases hs
  ·rename_i hl
   have:=h.step (fold:=fold) hp hl
   injection hs with hs
   rw [hs] at this
   exact this
def nLit (st:List Bool × List Int) (x:Ltl):List Bool × List Int:=if st.1.getD x.pred.toNat false then st else (st.1.set x.pred.toNat true,st.2++[x.pred])
theorem count_set':∀ {bs:List Bool} {i:Nat} (_:i < bs.length),bs[i]? = some false→(bs.set i true).count false + 1=bs.count false
 | [],_,h,_=>by simp at h
 | b::bs,0,_,hb=>by simp at hb;subst hb;simp
 | b::bs,i + 1,h,hb=>by
  have:=count_set' (bs:=bs) (i:=i) (by simpa using h) (by simpa using hb)
  rw [List.set_cons_succ,List.count_cons,List.count_cons]
  omega
def Ns (n m:Nat) (st:List Bool × List Int):Prop:=st.1.length=n∧2 * st.1.count false + st.2.length≤m∧∀ v∈st.2,0≤v∧v < n
theorem Ns.step {n m:Nat} {st:List Bool × List Int} {x:Ltl} (h:Ns n m st) (hx:0≤x.pred∧x.pred < n):Ns n m (nLit st x):=by
 obtain⟨h1,h2,h3⟩:=h
 unfold nLit
 split
 ·exact⟨h1,h2,h3⟩
 ·rename_i hf
  have hl:x.pred.toNat < st.1.length:=by omega
  have hg:st.1[x.pred.toNat]? = some false:=by
   rw [List.getElem?_eq_getElem hl]
   rw [List.getD,List.getElem?_eq_getElem hl,Option.getD_some] at hf
   cases hb:st.1[x.pred.toNat] with
   | true=>exact absurd hb hf
   | false=>rfl
  have:=count_set' hl hg
  refine⟨by simpa using h1,by simp only [List.length_append,List.length_singleton];omega,fun v hv=>?_⟩
  rcases List.mem_append.1 hv with hv|hv
  ·exact h3 v hv
  ·simp at hv;subst hv;exact hx
structure LvFit (p:Prg) (lv:List Int):Prop where
 len:lv.length=p.arity.length
 fit:∀ r∈p.rules,∀ l∈r.body,l.kind≤2→lv.getD l.pred.toNat 0 + liftN r.fold l≤lv.getD r.pred.toNat 0
structure PrgR (p:Prg):Prop where
 rul:∀ r∈p.rules,RulR p.arity r
 ar:∀ i,0≤p.arity.getD i 0∧p.arity.getD i 0≤3
 alen:p.arity.length≤10
 rlen:p.rules.length≤12
def hdW (S:List Fct) (r:Rul):List Fct:=b9 (headsD r (rawW S r))
def LvA (p:Prg) (lv:List Int) (n:Int) (m0:List Fct) (S:List Fct):Prop :=
 (∀ x∈S,FctOk p.arity x)∧∀ x:Fct,lv.getD x.pred.toNat 0 < n→(x∈S↔x∈m0)
def lvV (p:Prg) (lv:List Int) (n:Int) (m0:List Fct):Lv Rul where
 rs:=p.rules.filter fun r=>decide (lv.getD r.pred.toNat 0=n)
 hd:=hdW
 mw:=manyW
 A:=LvA p lv n m0
theorem raw_sub {S:List Fct} {r:Rul} {w:List Int} (h:w∈rawW S r):w∈fromE S r.body (yesOf r.body) (e0 r.vars.toNat):=by
 unfold rawW at h
 split at h
 ·exact (waysL_perm _ _ _).mem_iff.1 h
 ·simp at h
theorem raw_ok {arity:List Int} {S:List Fct} {r:Rul} (hr:RulR arity r) (ha:∀ i,0≤arity.getD i 0∧arity.getD i 0≤3) (hS:∀ x∈S,FctOk arity x) (hn:S.Nodup):HeadOk arity r (rawW S r):=by
 have hs:=rulS_mk hr ha hS
 obtain⟨_,_,h3⟩:=ways_perm hn hs.ok.lit hs.bd
 refine⟨hr,?_,fun w hw=>((h3 w).1 (raw_sub hw)).1,fun w hw y hy=>way_num hs.ok (raw_sub hw) y hy,?_⟩
 ·unfold rawW
  split
  ·rename_i hm;exact of_decide_eq_true hm
  ·simp
 ·have:=hr.tlen
  have:=ha r.pred.toNat
  omega
theorem head_ok {arity:List Int} {r:Rul} {ways:List (List Int)} (h:HeadOk arity r ways) {x:Fct} (hx:x∈headsD r ways):FctOk arity x∧x.pred=r.pred:=by
 rw [headsD_eq] at hx
 obtain⟨w,hw,hx⟩:=List.mem_filterMap.1 hx
 have hv:=h.vals hw
 have hl:(aW r w).length=r.terms.length:=List.length_map _
 unfold headD at hx
 split at hx
 ·simp only [Option.some.injEq] at hx
  subst hx
  exact⟨⟨h.rul.pred,by rw [hl];exact h.rul.tlen,hv⟩,rfl⟩
 ·rename_i hf
  split at hx
  ·rename_i hn
   simp only [Option.some.injEq] at hx
   subst hx
   have h0:=(h.rul.folded hf).1
   have hl2:(pW r w).1.length=r.terms.length - 1:=by
    show ((aW r w).take (r.terms.length - 1)).length=_
    rw [List.length_take,hl];omega
   refine⟨⟨h.rul.pred,?_,fun y hy=>?_⟩,rfl⟩
   ·simp only [List.length_append,List.length_singleton,hl2]
    rw [show r.terms.length - 1 + 1=r.terms.length by omega]
    exact h.rul.tlen
   ·rcases List.mem_append.1 hy with hy|hy
    ·exact hv y (List.mem_of_mem_take hy)
    ·rw [List.mem_singleton] at hy
     subst hy
     exact numB_in hn
  ·cases hx
theorem hdW_ok {p:Prg} (hp:PrgR p) {S:List Fct} {r:Rul} (hr:r∈p.rules) (hS:∀ x∈S,FctOk p.arity x) (hn:S.Nodup) {x:Fct} (hx:x∈hdW S r):FctOk p.arity x∧x.pred=r.pred :=
 head_ok (raw_ok (hp.rul r hr) hp.ar hS hn) (((bw _).2 x).1 hx)
theorem hasF_mono {S T:List Fct} (h:∀ x∈S,x∈T) {x:Fct} (hx:hasF S x=true):hasF T x=true:=hasF_iff.2 (h x (hasF_iff.1 hx))
theorem hasF_cong {S T:List Fct} {x:Fct} (h:x∈S↔x∈T):hasF S x=hasF T x:=by
 rw [Bool.eq_iff_iff,hasF_iff,hasF_iff];exact h
theorem holdE_grow {S T:List Fct} {l:Ltl} {a:List Int} (h:∀ x∈S,x∈T) (hk:l.kind=2→∀ x:Fct,x.pred=l.pred→(x∈S↔x∈T)) (hh:holdE S l a=true):holdE T l a=true:=by
 unfold holdE at hh ⊢
 split
 ·rename_i h1;rw [if_pos h1] at hh;exact hasF_mono h hh
 ·rename_i h1
  rw [if_neg h1] at hh
  split
  ·rename_i h2
   rw [if_pos h2] at hh
   rw [← hasF_cong (hk h2 ⟨l.pred,l.terms.map (vA a)⟩ rfl)];exact hh
  ·rename_i h2;rw [if_neg h2] at hh;exact hh
theorem holdE_cong {S T:List Fct} {l:Ltl} {a:List Int} (hk:l.kind=1∨l.kind=2→∀ x:Fct,x.pred=l.pred→(x∈S↔x∈T)):holdE S l a=holdE T l a:=by
 unfold holdE
 split
 ·rename_i h1;exact hasF_cong (hk (.inl h1) ⟨l.pred,l.terms.map (vA a)⟩ rfl)
 ·split
  ·rename_i h2;rw [hasF_cong (hk (.inr h2) ⟨l.pred,l.terms.map (vA a)⟩ rfl)]
  ·rfl
theorem ways_grow {arity:List Int} {r:Rul} {S T:List Fct} (hr:RulR arity r) (ha:∀ i,0≤arity.getD i 0∧arity.getD i 0≤3) (hS:∀ x∈S,FctOk arity x) (hT:∀ x∈T,FctOk arity x) (nS:S.Nodup) (nT:T.Nodup)
  (hst:∀ x∈S,x∈T) (hk:∀ l∈r.body,l.kind≤2→liftN r.fold l=1→∀ x:Fct,x.pred=l.pred→(x∈S↔x∈T)) (hm:manyW T r=true) :
  manyW S r=true∧(∀ w∈rawW S r,w∈rawW T r)∧(r.fold≠0→rawW S r=rawW T r):=by
 have sS:=rulS_mk hr ha hS
 have sT:=rulS_mk hr ha hT
 obtain⟨_,p2,p3⟩:=ways_perm nS sS.ok.lit sS.bd
 obtain⟨_,q2,q3⟩:=ways_perm nT sT.ok.lit sT.bd
 have hsub:∀ w∈fromE S r.body (yesOf r.body) (e0 r.vars.toNat),w∈fromE T r.body (yesOf r.body) (e0 r.vars.toNat):=by
  intro w hw
  obtain⟨h1,h2⟩:=(p3 w).1 hw
  exact (q3 w).2 ⟨h1,fun l hl=>holdE_grow hst (fun h2=>hk l hl (by omega) (by unfold liftN;rw [if_pos (.inl h2)])) (h2 l hl)⟩
 have hlen:(waysL S r.vars.toNat r.body).length≤(waysL T r.vars.toNat r.body).length:=by
  rw [(waysL_perm S r.vars.toNat r.body).length_eq,(waysL_perm T r.vars.toNat r.body).length_eq]
  exact nodup_len p2 hsub
 have hmS:manyW S r=true:=by
  unfold manyW at hm ⊢
  exact decide_eq_true (Nat.le_trans hlen (of_decide_eq_true hm))
 refine⟨hmS,fun w hw=>?_,fun hf=>?_⟩
 ·have hw':=hsub w (raw_sub hw)
  unfold rawW
  rw [if_pos hm]
  exact (waysL_perm _ _ _).mem_iff.2 hw'
 ·have heq:∀ w,w∈fromE S r.body (yesOf r.body) (e0 r.vars.toNat)↔w∈fromE T r.body (yesOf r.body) (e0 r.vars.toNat):=by
   intro w
   rw [p3 w,q3 w]
   refine and_congr_right fun _=>forall_congr' fun l=>forall_congr' fun hl=>?_
   rw [holdE_cong (S:=S) (T:=T) fun h12=>hk l hl (by omega) (by unfold liftN;rw [if_pos (.inr hf)])]
  have hp:=same_members p2 q2 heq
  unfold rawW
  rw [if_pos hm,if_pos hmS]
  exact waysL_eq (waysL_sort _ _ _) ((waysL_perm _ _ _).trans hp)
theorem heads_grow {r:Rul} {S T:List Fct} (h2:∀ w∈rawW S r,w∈rawW T r) (h3:r.fold≠0→rawW S r=rawW T r):∀ x∈hdW S r,x∈hdW T r:=by
 intro x hx
 have hx:=((bw _).2 x).1 hx
 refine ((bw _).2 x).2 ?_
 by_cases hf:r.fold=0
 ·unfold headsD at hx ⊢
  rw [if_pos hf] at hx ⊢
  obtain⟨w,hw,rfl⟩:=List.mem_map.1 hx
  exact List.mem_map.2 ⟨w,h2 w hw,rfl⟩
 ·rw [← h3 hf];exact hx
theorem lvV_ok {p:Prg} (hp:PrgR p) {lv:List Int} (hl:LvFit p lv) (n:Int) (m0:List Fct):LvOk (lvV p lv n m0) where
 mono S T hS hT nS nT hst r hr hm:=by
  obtain⟨hr,hn⟩:=List.mem_filter.1 hr
  have hn:=of_decide_eq_true hn
  obtain⟨h1,h2,h3⟩:=ways_grow (hp.rul r hr) hp.ar hS.1 hT.1 nS.nodup nT.nodup hst (fun l hlb hk hlift x hx=>by
   have:=hl.fit r hr l hlb hk
   have hlt:lv.getD x.pred.toNat 0 < n:=by rw [hx];omega
   exact (hS.2 x hlt).trans (hT.2 x hlt).symm) hm
  exact⟨h1,heads_grow h2 h3⟩
 grow S T hS hst hT:=by
  refine⟨fun x hx=>?_,fun x hx=>⟨fun hxT=>?_,fun hx0=>hst x ((hS.2 x hx).2 hx0)⟩⟩
  ·rcases hT x hx with h|⟨r,hr,S',hS',nS',hx'⟩
   ·exact hS.1 x h
   ·exact (hdW_ok hp (List.mem_filter.1 hr).1 hS'.1 nS'.nodup hx').1
  ·rcases hT x hxT with h|⟨r,hr,S',hS',nS',hx'⟩
   ·exact (hS.2 x hx).1 h
   ·obtain⟨hr,hn⟩:=List.mem_filter.1 hr
    have hn:=of_decide_eq_true hn
    rw [(hdW_ok hp hr hS'.1 nS'.nodup hx').2] at hx
    omega
def RunTo (p:Prg) (lv:List Int) (given:List Fct):Nat→List Fct→Prop
 | 0,m=>m=b9 given
 | n + 1,M=>∃ m,RunTo p lv given n m∧Fit (lvV p lv n m) m M
theorem RunTo.unique {p:Prg} {lv:List Int} {given:List Fct}:∀ {n:Nat} {a b:List Fct},RunTo p lv given n a→RunTo p lv given n b→a=b
 | 0,_,_,h,g=>h.trans g.symm
 | _ + 1,_,_,⟨_,h1,h2⟩,⟨_,g1,g2⟩=>by
  have:=RunTo.unique h1 g1
  subst this
  exact h2.unique g2
theorem RunTo.ok {p:Prg} {lv:List Int} {given:List Fct} (hg:∀ x∈given,FctOk p.arity x) (hl:given.length≤60):∀ {n:Nat} {m:List Fct},RunTo p lv given n m→Strict m∧m.length≤60∧(∀ x∈m,FctOk p.arity x)∧∀ x∈given,x∈m
 | 0,m,h=>by
  subst h
  obtain⟨h1,h2⟩:=bw given
  exact⟨h1,Nat.le_trans (setF_lenle _) hl,fun x hx=>hg x ((h2 x).1 hx),fun x hx=>(h2 x).2 hx⟩
 | n + 1,M,⟨m,h1,h2⟩=>by
  have ih:=RunTo.ok hg hl h1
  exact⟨h2.good.strict,h2.len,h2.good.a.1,fun x hx=>h2.good.sub x (ih.2.2.2 x hx)⟩
end Go.Proofs.YtapciiffpnociacGreat
