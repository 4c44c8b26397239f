/- Several texts in one: RuH RuM StrB RuN RuO StrP StrQ StrN MoQ StrL StrM. Condition: none. -/
import Derived.Test.YtapciiffpnociaaGreatP18
import Derived.Test.YtapciiffpnociaaGreatP20
import Derived.Test.YtapciiffpnociaaGreatP12
import Derived.Test.YtapciiffpnociaaGreatP10
import Derived.Test.YtapciiffpnociaaGreatP02
import Derived.Test.YtapciiffpnociaaGreatP16
namespace Go.Proofs.YtapciiffpnociaaGreat
def minI (n y:Int):Int:=if y < n then y else n
def maxI (n y:Int):Int:=if n < y then y else n
def minL:List Int→Int
 | []=>0
 | x::l=>l.foldl minI x
def maxL:List Int→Int
 | []=>0
 | x::l=>l.foldl maxI x
def stepN (fold:Int) (st:Int × Int) (x:Int):Int × Int :=
 (if fold=1 then st.2 + 1 else if fold=2 then st.1 + x else if st.2 + 1=1∨(fold=3∧x < st.1)∨(fold=4∧st.1 < x) then x else st.1,st.2 + 1)
def foldN (fold:Int) (l:List Int):Int:=(l.foldl (stepN fold) (0,0)).1
def valP (fold:Int) (l:List Int):Int:=if fold=1 then l.length else if fold=3 then minL l else if fold=4 then maxL l else l.sum
def okP (fold:Int) (l:List Int):Bool:=if fold=1∨fold=3∨fold=4 then true else numB l.sum
theorem stepN_1:∀ (l:List Int) (n m:Int),l≠[]→(l.foldl (stepN 1) (n,m)).1=m + l.length
 | [x],n,m,_=>by simp [stepN]
 | x::y::l,n,m,_=>by
  rw [List.foldl_cons,show stepN 1 (n,m) x=(m + 1,m + 1) by simp [stepN],stepN_1 (y::l) _ _ (by simp)]
  simp only [List.length_cons];omega
theorem stepN_2:∀ (l:List Int) (n m:Int),(l.foldl (stepN 2) (n,m)).1=n + l.sum
 | [],n,m=>by simp
 | x::l,n,m=>by
  rw [List.foldl_cons,show stepN 2 (n,m) x=(n + x,m + 1) by simp [stepN],stepN_2 l,List.sum_cons];omega
theorem stepN_3:∀ (l:List Int) (n m:Int),1≤m→(l.foldl (stepN 3) (n,m)).1=l.foldl minI n
 | [],n,m,_=>rfl
 | x::l,n,m,hm=>by
  have:stepN 3 (n,m) x=(minI n x,m + 1):=by
   unfold stepN minI
   have:¬ (m + 1=1):=by omega
   simp [this]
  rw [List.foldl_cons,this,stepN_3 l _ _ (by omega),List.foldl_cons]
theorem stepN_4:∀ (l:List Int) (n m:Int),1≤m→(l.foldl (stepN 4) (n,m)).1=l.foldl maxI n
 | [],n,m,_=>rfl
 | x::l,n,m,hm=>by
  have:stepN 4 (n,m) x=(maxI n x,m + 1):=by
   unfold stepN maxI
   have:¬ (m + 1=1):=by omega
   simp [this]
  rw [List.foldl_cons,this,stepN_4 l _ _ (by omega),List.foldl_cons]
theorem minI_in {P:Int→Prop}:∀ (l:List Int) (n:Int),P n→(∀ x∈l,P x)→P (l.foldl minI n)
 | [],_,h,_=>h
 | x::l,n,h,hl=>by
  rw [List.foldl_cons]
  refine minI_in l _ ?_ fun y hy=>hl y (List.mem_cons_of_mem _ hy)
  unfold minI;split
  ·exact hl x (List.mem_cons_self ..)
  ·exact h
theorem maxI_in {P:Int→Prop}:∀ (l:List Int) (n:Int),P n→(∀ x∈l,P x)→P (l.foldl maxI n)
 | [],_,h,_=>h
 | x::l,n,h,hl=>by
  rw [List.foldl_cons]
  refine maxI_in l _ ?_ fun y hy=>hl y (List.mem_cons_of_mem _ hy)
  unfold maxI;split
  ·exact hl x (List.mem_cons_self ..)
  ·exact h
theorem numB_of {n:Int} (h:-1000000≤n∧n≤1000000):numB n=true:=by unfold numB inR;simp;omega
theorem fold_same {fold:Int} {l:List Int} (hf:fold=1∨fold=2∨fold=3∨fold=4) (hl:l≠[]) (hn:∀ x∈l,-1000000≤x∧x≤1000000) (hlen:l.length≤1000000) :
  foldN fold l=valP fold l∧numB (foldN fold l)=okP fold l:=by
 have key:foldN fold l=valP fold l:=by
  unfold foldN valP
  rcases hf with rfl|rfl|rfl|rfl
  ·rw [stepN_1 l _ _ hl];simp
  ·rw [stepN_2];simp
  ·obtain⟨x,l,rfl⟩:=List.exists_cons_of_ne_nil hl
   rw [List.foldl_cons,show stepN 3 (0,0) x=(x,1) by simp [stepN],stepN_3 _ _ _ (by omega)]
   simp [minL]
  ·obtain⟨x,l,rfl⟩:=List.exists_cons_of_ne_nil hl
   rw [List.foldl_cons,show stepN 4 (0,0) x=(x,1) by simp [stepN],stepN_4 _ _ _ (by omega)]
   simp [maxL]
 refine⟨key,?_⟩
 rw [key]
 unfold valP okP
 rcases hf with rfl|rfl|rfl|rfl
 ·simp only [if_true,true_or];exact numB_of (by omega)
 ·simp
 ·obtain⟨x,l,rfl⟩:=List.exists_cons_of_ne_nil hl
  simp only [show ¬ ((3:Int)=1) by omega,if_false,if_true,true_or,or_true]
  exact numB_of (minI_in (P:=fun z=>-1000000≤z∧z≤1000000) l x (hn x (List.mem_cons_self ..)) fun y hy=>hn y (List.mem_cons_of_mem _ hy))
 ·obtain⟨x,l,rfl⟩:=List.exists_cons_of_ne_nil hl
  simp only [show ¬ ((4:Int)=1) by omega,show ¬ ((4:Int)=3) by omega,if_false,if_true,or_true]
  exact numB_of (maxI_in (P:=fun z=>-1000000≤z∧z≤1000000) l x (hn x (List.mem_cons_self ..)) fun y hy=>hn y (List.mem_cons_of_mem _ hy))
abbrev Gr:=List Int × List Int
def grpL (ws:List (List Int × Int)) (p:List Int):List Int:=(ws.filter fun w=>decide (w.1=p)).map (·.2)
def addG (gs:List Gr) (w:List Int × Int):List Gr:=match gs[gs.findIdx fun g=>decide (g.1=w.1)]? with
 | some g=>gs.set (gs.findIdx fun g=>decide (g.1=w.1)) (g.1,g.2++[w.2])
 | none=>gs++[(w.1,[w.2])]
def groupsL (ws:List (List Int × Int)):List Gr:=ws.foldl addG []
structure InvG (gs:List Gr) (ws:List (List Int × Int)):Prop where
 uniq:∀ (j k:Nat) (g h:Gr),gs[j]? = some g→gs[k]? = some h→g.1=h.1→j=k
 vals:∀ g∈gs,g.2=grpL ws g.1
 here:∀ g∈gs,∃ w∈ws,w.1=g.1
 all:∀ w∈ws,∃ g∈gs,g.1=w.1
theorem grpL_snoc (ws:List (List Int × Int)) (w:List Int × Int) (p:List Int):grpL (ws++[w]) p=grpL ws p++if w.1=p then [w.2] else []:=by
 unfold grpL
 rw [List.filter_append,List.map_append]
 congr 1
 by_cases h:w.1=p
 ·simp [h]
 ·simp [h]
theorem grpL_none {ws:List (List Int × Int)} {p:List Int} (h:∀ w∈ws,w.1≠p):grpL ws p=[]:=by
 unfold grpL
 rw [List.filter_eq_nil_iff.2 fun w hw=>by simpa using h w hw];rfl
theorem addG_inv {gs:List Gr} {ws:List (List Int × Int)} {w:List Int × Int} (h:InvG gs ws):InvG (addG gs w) (ws++[w]):=by
 unfold addG
 cases hx:gs[gs.findIdx fun g=>decide (g.1=w.1)]? with
 | none =>
  have hn:∀ g∈gs,g.1≠w.1:=by
   intro g hg he
   have:=List.findIdx_lt_length_of_exists (xs:=gs) (p:=fun g=>decide (g.1=w.1)) ⟨g,hg,decide_eq_true he⟩
   rw [List.getElem?_eq_getElem this] at hx;cases hx
  refine⟨fun j k g g' hj hk he=>?_,fun g hg=>?_,fun g hg=>?_,fun x hx=>?_⟩
  ·rw [List.getElem?_append] at hj hk
   by_cases h1:j < gs.length <;> by_cases h2:k < gs.length
   ·rw [if_pos h1] at hj;rw [if_pos h2] at hk;exact h.uniq j k g g' hj hk he
   ·rw [if_pos h1] at hj;rw [if_neg h2] at hk
    have hg':g' = (w.1,[w.2]):=by
     by_cases h3:k - gs.length=0
     ·rw [h3] at hk;simpa using hk.symm
     ·rw [List.getElem?_eq_none (by simp;omega)] at hk;cases hk
    rw [hg'] at he
    exact absurd he (hn g (List.mem_of_getElem? hj))
   ·rw [if_neg h1] at hj;rw [if_pos h2] at hk
    have hg':g=(w.1,[w.2]):=by
     by_cases h3:j - gs.length=0
     ·rw [h3] at hj;simpa using hj.symm
     ·rw [List.getElem?_eq_none (by simp;omega)] at hj;cases hj
    rw [hg'] at he
    exact absurd he.symm (hn g' (List.mem_of_getElem? hk))
   ·rw [if_neg h1] at hj;rw [if_neg h2] at hk
    have h3:j - gs.length=0:=by
     apply Classical.byContradiction;intro h3
     rw [List.getElem?_eq_none (by simp;omega)] at hj;cases hj
    have h4:k - gs.length=0:=by
     apply Classical.byContradiction;intro h4
     rw [List.getElem?_eq_none (by simp;omega)] at hk;cases hk
    omega
  ·rw [grpL_snoc]
   rcases List.mem_append.1 hg with hg|hg
   ·rw [if_neg (Ne.symm (hn g hg)),List.append_nil];exact h.vals g hg
   ·rw [List.mem_singleton] at hg;subst hg
    rw [if_pos rfl,grpL_none fun x hx he=>?_];· rfl
    obtain⟨g,hg,hge⟩:=h.all x hx
    exact hn g hg (hge.trans he)
  ·rcases List.mem_append.1 hg with hg|hg
   ·obtain⟨x,h1,h2⟩:=h.here g hg;exact⟨x,List.mem_append_left _ h1,h2⟩
   ·rw [List.mem_singleton] at hg;subst hg;exact⟨w,List.mem_append_right _ (by simp),rfl⟩
  ·rcases List.mem_append.1 hx with hx|hx
   ·obtain⟨g,h1,h2⟩:=h.all x hx;exact⟨g,List.mem_append_left _ h1,h2⟩
   ·rw [List.mem_singleton] at hx;subst hx;exact⟨_,List.mem_append_right _ (List.mem_singleton.2 rfl),rfl⟩
 | some g0 =>
  obtain⟨hi,hg0⟩:=List.getElem?_eq_some_iff.1 hx
  have hk0:g0.1=w.1:=by
   have:=List.findIdx_getElem (xs:=gs) (p:=fun g=>decide (g.1=w.1)) (w:=hi)
   rw [hg0] at this
   exact of_decide_eq_true this
  simp only
  generalize gs.findIdx (fun g=>decide (g.1=w.1))=i at hx hi hg0
  have hget:∀ (j:Nat) (g:Gr),(gs.set i (g0.1,g0.2++[w.2]))[j]? = some g→∃ g',gs[j]? = some g'∧g.1=g'.1∧((j=i∧g=(g0.1,g0.2++[w.2]))∨(j≠i∧g=g')):=by
   intro j g hj
   by_cases hq:i=j
   ·subst hq
    rw [List.getElem?_set_self hi] at hj
    cases hj
    exact⟨g0,hx,rfl,.inl ⟨rfl,rfl⟩⟩
   ·rw [List.getElem?_set_ne hq] at hj
    exact⟨g,hj,rfl,.inr ⟨Ne.symm hq,rfl⟩⟩
  refine⟨fun j k g g' hj hk he=>?_,fun g hg=>?_,fun g hg=>?_,fun x hx'=>?_⟩
  ·obtain⟨a,a1,a2,_⟩:=hget j g hj
   obtain⟨b,b1,b2,_⟩:=hget k g' hk
   exact h.uniq j k a b a1 b1 (a2.symm.trans (he.trans b2))
  ·obtain⟨j,hj⟩:=List.getElem?_of_mem hg
   obtain⟨a,a1,a2,a3⟩:=hget j g hj
   rw [grpL_snoc]
   rcases a3 with ⟨rfl,rfl⟩|⟨a3,rfl⟩
   ·rw [if_pos hk0.symm]
    simp only
    rw [h.vals g0 (List.mem_of_getElem? hx)]
   ·rw [if_neg fun he=>a3 (h.uniq j i g g0 a1 hx (he.symm.trans hk0.symm)),List.append_nil]
    exact h.vals g (List.mem_of_getElem? a1)
  ·obtain⟨j,hj⟩:=List.getElem?_of_mem hg
   obtain⟨a,a1,a2,_⟩:=hget j g hj
   obtain⟨x,h1,h2⟩:=h.here a (List.mem_of_getElem? a1)
   exact⟨x,List.mem_append_left _ h1,h2.trans a2.symm⟩
  ·have hmem:∀ a∈gs,∃ g∈gs.set i (g0.1,g0.2++[w.2]),g.1=a.1:=by
    intro a ha
    obtain⟨j,hj⟩:=List.getElem?_of_mem ha
    by_cases hq:i=j
    ·subst hq
     rw [hx] at hj;cases hj
     exact⟨_,List.mem_of_getElem? (List.getElem?_set_self hi),rfl⟩
    ·exact⟨a,List.mem_of_getElem? ((List.getElem?_set_ne hq).trans hj),rfl⟩
   rcases List.mem_append.1 hx' with hx'|hx'
   ·obtain⟨a,h1,h2⟩:=h.all x hx'
    obtain⟨g,k1,k2⟩:=hmem a h1
    exact⟨g,k1,k2.trans h2⟩
   ·rw [List.mem_singleton] at hx';subst hx'
    obtain⟨g,k1,k2⟩:=hmem g0 (List.mem_of_getElem? hx)
    exact⟨g,k1,k2.trans hk0⟩
theorem groups_inv':∀ (ws vs:List (List Int × Int)) (gs:List Gr),InvG gs vs→InvG (ws.foldl addG gs) (vs++ws)
 | [],vs,gs,h=>by rw [List.append_nil];exact h
 | w::ws,vs,gs,h=>by
  have:=groups_inv' ws (vs++[w]) (addG gs w) (addG_inv h)
  rw [List.append_assoc] at this
  exact this
theorem groups_inv (ws:List (List Int × Int)):InvG (groupsL ws) ws:=by
 have:=groups_inv' ws [] [] ⟨fun _ _ _ _ h=>by simp at h,fun _ h=>by simp at h,fun _ h=>by simp at h,fun _ h=>by simp at h⟩
 rw [List.nil_append] at this
 exact this
def aW (r:Rul) (w:List Int):List Int:=r.terms.map (vA w)
def pW (r:Rul) (w:List Int):List Int × Int:=((aW r w).take (r.terms.length - 1),(aW r w).getD (r.terms.length - 1) 0)
def ma (r:Rul) (ways:List (List Int)):List Fct:=if r.fold=0 then ways.map fun w=>⟨r.pred,aW r w⟩
 else ways.filterMap fun w=>if numB (foldN r.fold (grpL (ways.map (pW r)) (pW r w).1)) then some ⟨r.pred,(pW r w).1++[foldN r.fold (grpL (ways.map (pW r)) (pW r w).1)]⟩ else none
def headsP (r:Rul) (ways:List (List Int)):List Fct:=if r.fold=0 then ways.map fun w=>⟨r.pred,aW r w⟩
 else (groupsL (ways.map (pW r))).filterMap fun g=>if okP r.fold g.2 then some ⟨r.pred,g.1++[valP r.fold g.2]⟩ else none
theorem heads_mem {r:Rul} {ways:List (List Int)} (hf:0≤r.fold∧r.fold≤4) (hn:∀ w∈ways,-1000000≤(pW r w).2∧(pW r w).2≤1000000) (hlen:ways.length≤1000000):∀ x,x∈headsP r ways↔x∈ma r ways:=by
 intro x
 unfold headsP ma
 by_cases h0:r.fold=0
 ·rw [if_pos h0,if_pos h0]
 ·rw [if_neg h0,if_neg h0]
  have hI:=groups_inv (ways.map (pW r))
  have hfs:∀ p,(∃ w∈ways.map (pW r),w.1=p)→foldN r.fold (grpL (ways.map (pW r)) p)=valP r.fold (grpL (ways.map (pW r)) p)∧numB (foldN r.fold (grpL (ways.map (pW r)) p))=okP r.fold (grpL (ways.map (pW r)) p):=by
   rintro p ⟨w,hw,rfl⟩
   refine fold_same (by omega) ?_ ?_ ?_
   ·unfold grpL
    intro hc
    have:w.2∈((ways.map (pW r)).filter fun z=>decide (z.1=w.1)).map (·.2):=List.mem_map.2 ⟨w,List.mem_filter.2 ⟨hw,by simp⟩,rfl⟩
    rw [hc] at this;simp at this
   ·intro y hy
    obtain⟨z,hz,rfl⟩:=List.mem_map.1 hy
    obtain⟨u,hu,rfl⟩:=List.mem_map.1 (List.mem_filter.1 hz).1
    exact hn u hu
   ·unfold grpL
    rw [List.length_map]
    refine Nat.le_trans (List.length_filter_le _ _) ?_
    rw [List.length_map];exact hlen
  rw [List.mem_filterMap,List.mem_filterMap]
  constructor
  ·rintro⟨g,hg,hx⟩
   obtain⟨w,hw,hwg⟩:=hI.here g hg
   obtain⟨u,hu,rfl⟩:=List.mem_map.1 hw
   obtain⟨f1,f2⟩:=hfs g.1 ⟨_,hw,hwg⟩
   refine⟨u,hu,?_⟩
   rw [hwg,f2,f1,← hI.vals g hg];exact hx
  ·rintro⟨u,hu,hx⟩
   obtain⟨g,hg,hwg⟩:=hI.all (pW r u) (List.mem_map_of_mem hu)
   obtain⟨f1,f2⟩:=hfs g.1 ⟨_,List.mem_map_of_mem hu,hwg.symm⟩
   refine⟨g,hg,?_⟩
   rw [hI.vals g hg,← f1,← f2,hwg];exact hx
theorem heads_set {r:Rul} {ways:List (List Int)} (hf:0≤r.fold∧r.fold≤4) (hn:∀ w∈ways,-1000000≤(pW r w).2∧(pW r w).2≤1000000) (hlen:ways.length≤1000000):bq (headsP r ways)=bq (ma r ways) :=
 ir (bn _).1 (bn _).1 fun x=>by rw [(bn _).2,(bn _).2,heads_mem hf hn hlen]
open Go Go.RowKit
theorem rulS_mk {arity:List Int} {S:List Fct} {r:Rul} (hr:RulR arity r) (ha:∀ i,0≤arity.getD i 0∧arity.getD i 0≤3) (hS:∀ x∈S,FctOk arity x):RulS S r:=by
 have hv:=hr.vars
 refine⟨⟨fun l hl=>lit_okL (hr.lits l hl) hv.1 hS,fun l hl hk=>?_,fun l hl t ht=>?_,fun x hx=>(hS x hx).nums,hr.body,by omega,fun l hl=>?_⟩,safe_Bd hr.safe,hv⟩
 ·obtain⟨_,h2,_⟩:=litE_right (hr.lits l hl)
  unfold opB inR at h2
  rw [if_pos hk] at h2
  simp only [Bool.and_eq_true,decide_eq_true_eq] at h2
  exact h2
 ·exact ((litE_right (hr.lits l hl)).2.2.2.2 t ht).2.2
 ·obtain⟨h1,_,h3,h4,_⟩:=litE_right (hr.lits l hl)
  by_cases hk:l.kind=1∨l.kind=2
  ·have:=(h3 hk).2
   have:=ha l.pred.toNat
   omega
  ·have:=(h4 hk).2
   omega
attribute [local irreducible] DW DS DL DQ Ev FnOk FnP em b9 DT
set_option maxHeartbeats 8000000 in
theorem args_fn (l:List Trm) (a:List Int) (hok:∀ t∈l,okT a.length t) (hl:l.length≤1000000):Fn 157 [.d (.slice 2 (l.map bw)),.d (.slice 1 (a.map bi))] (fun r=>r = .d (.slice 1 ((l.map (vA a)).map bi))):=by
 refine ak _ Tryz.func157 rfl rfl (by kernel_rfl) ?_
 intro O w0 E0 β0
 have ll:(l.map bw).length=l.length:=List.length_map _
 have la:(a.map bi).length=a.length:=List.length_map _
 repeat' (first|(apply ds_bs0;exact rfl;exact rfl;exact rfl;exact rfl;exact rfl;exact rfl;exact rfl;exact rfl)|(first|refine z0 ?_|apply ag|apply ae|refine z16 ?_|apply ah|apply aa))
 refine bh (ι:=Nat) (fun i=>⟨1,[(0,.d (.slice 2 (l.map bw))),(1,.d (.slice 1 (a.map bi))),(5,.row 0),(9,.d (.slice 2 (l.map bw))),(10,.d (.int .i64 l.length)),(11,.d (.int .i64 i))],[(0,.row 3 1 (((l.take i).map (vA a)).map bi))]⟩)
  (fun i=>i≤l.length) (fun i=>l.length - i) 0 (Nat.zero_le _) (ap id ⟨rfl,rfl,rfl,rfl,by rw [← ll];rfl,rfl,trivial⟩ ⟨rfl,trivial⟩ rfl rfl rfl rfl rfl rfl) ?_
 intro i g1
 by_cases hi:i < l.length
 ·have ho:=hok _ (List.getElem_mem hi)
  unfold okT at ho
  have ht:l.take (i + 1)=l.take i++[l[i]]:=List.take_succ_eq_append_getElem hi
  by_cases hv:l[i].var < 0
  ·have hva:vA a l[i]=l[i].n:=by unfold vA;rw [if_pos hv]
   repeat' (first|refine z0 ?_|apply ag|apply ae|refine z16 ?_|apply ah|apply ai|apply au|apply aa|apply aq|apply bg|refine z17 ?_|refine z1 ?_|refine z3 ?_|refine z4 ?_|refine z2 ?_|(refine z23 ?_ ?_ <;> intro hg)|fail)
   all_goals try (exfalso;omega)
   exact⟨i + 1,hi,ap (fun _=>2) ⟨rfl,rfl,rfl,rfl,rfl,rfl,trivial⟩ ⟨by rw [ht,List.map_append,List.map_append,List.map_singleton,hva];rfl,trivial⟩ rfl rfl rfl rfl rfl rfl,by omega⟩
  ·have hlt:l[i].var.toNat < a.length:=by omega
   have hva:vA a l[i]=a[l[i].var.toNat]:=by unfold vA;rw [if_neg hv,List.getD,List.getElem?_eq_getElem hlt];rfl
   repeat' (first|refine z0 ?_|apply ag|apply ae|refine z16 ?_|apply ah|apply ai|apply au|apply aa|apply aq|apply bg|refine z17 ?_|refine z1 ?_|refine z3 ?_|refine z4 ?_|refine z2 ?_|(refine z23 ?_ ?_ <;> intro hg)|fail)
   all_goals try (exfalso;omega)
   exact⟨i + 1,hi,ap (fun _=>2) ⟨rfl,rfl,rfl,rfl,rfl,rfl,trivial⟩ ⟨by rw [ht,List.map_append,List.map_append,List.map_singleton,hva];rfl,trivial⟩ rfl rfl rfl rfl rfl rfl,by omega⟩
 ·rw [List.take_of_length_le (by omega)]
  repeat' (first|refine z0 ?_|apply ag|apply ae|refine z16 ?_|apply ah|apply ai|apply au|apply aa|apply aq|apply bg|refine z17 ?_|refine z1 ?_|refine z3 ?_|refine z4 ?_|refine z2 ?_|(refine z23 ?_ ?_ <;> intro hg)|fail)
  all_goals try (exfalso;omega)
  refine ba (dp 4 rfl rfl rfl) ?_
  repeat' (apply aj)
  exact⟨.inl rfl,_,rfl,rfl,rfl⟩

structure HeadOk (arity:List Int) (r:Rul) (ways:List (List Int)):Prop where
 rul:RulR arity r
 many:ways.length≤2000
 len:∀ w∈ways,w.length=r.vars.toNat
 nums:∀ w∈ways,∀ y∈w,-1000000≤y∧y≤1000000
 tlen:r.terms.length≤3
def headD (r:Rul) (ways:List (List Int)) (w:List Int):Option Fct:=if r.fold=0 then some ⟨r.pred,aW r w⟩
 else if numB (foldN r.fold (grpL (ways.map (pW r)) (pW r w).1)) then some ⟨r.pred,(pW r w).1++[foldN r.fold (grpL (ways.map (pW r)) (pW r w).1)]⟩ else none
theorem headsD_eq (r:Rul) (ways:List (List Int)):ma r ways=ways.filterMap (headD r ways):=by
 unfold ma
 by_cases h:r.fold=0
 ·rw [if_pos h,← List.filterMap_eq_map]
  congr 1
  funext w
  unfold headD
  rw [if_pos h];rfl
 ·rw [if_neg h]
  congr 1
  funext w
  unfold headD
  rw [if_neg h]
theorem HeadOk.terms {arity:List Int} {r:Rul} {ways:List (List Int)} (h:HeadOk arity r ways) {w:List Int} (hw:w∈ways):∀ t∈r.terms,okT w.length t:=by
 intro t ht
 have h1:=h.rul.terms t ht
 have h2:=h.rul.vars
 rw [h.len w hw]
 unfold okT
 omega
theorem HeadOk.vals {arity:List Int} {r:Rul} {ways:List (List Int)} (h:HeadOk arity r ways) {w:List Int} (hw:w∈ways):∀ x∈aW r w,-1000000≤x∧x≤1000000:=by
 intro x hx
 obtain⟨t,ht,rfl⟩:=List.mem_map.1 hx
 unfold vA
 split
 ·exact (h.rul.terms t ht).2.2
 ·rename_i hv
  have hlt:t.var.toNat < w.length:=by have:=h.terms hw t ht;unfold okT at this;omega
  rw [List.getD,List.getElem?_eq_getElem hlt]
  exact h.nums w hw _ (List.getElem_mem hlt)
theorem filterMap_take {α β:Type} (f:α→Option β) {l:List α} {i:Nat} (hi:i < l.length):(l.take (i + 1)).filterMap f=(l.take i).filterMap f++(f l[i]).toList:=by
 rw [List.take_succ_eq_append_getElem hi,List.filterMap_append,List.filterMap_cons,List.filterMap_nil]
 cases f l[i] <;> rfl
theorem filterMap_len {α β:Type} (f:α→Option β) (l:List α) (i:Nat):((l.take i).filterMap f).length≤i:=Nat.le_trans (List.length_filterMap_le _ _) (by rw [List.length_take];omega)
theorem outE_num {e:RE} (h:numE e):∀ y∈cx e,-1000000≤y∧y≤1000000:=by
 intro y hy
 obtain⟨x,hx,rfl⟩:=List.mem_map.1 hy
 obtain⟨v,hv⟩:=List.getElem?_of_mem hx
 cases x with
 | none=>simp
 | some z=>exact h v z hv
theorem fromE_num {S:List Fct} {body:List Ltl}:∀ (ys:List Ltl) (e:RE),okB S e.length body→(∀ l∈ys,l∈body∧l.kind=1)→numE e→∀ a∈ij S body ys e,∀ y∈a,-1000000≤y∧y≤1000000
 | [],e,hok,_,hn,a,ha=>by
  rw [ij] at ha
  cases hr:recN body (body.length + 1) e with
  | none=>rw [hr] at ha;simp at ha
  | some e' =>
   rw [hr] at ha
   simp only at ha
   split at ha
   ·simp at ha
   ·rw [List.mem_singleton] at ha
    subst ha
    exact outE_num (recN_num hok hn hr)
 | l::ys,e,hok,hys,hn,a,ha=>by
  rw [ij] at ha
  cases hr:recN body (body.length + 1) e with
  | none=>rw [hr] at ha;simp at ha
  | some e' =>
   rw [hr] at ha
   simp only at ha
   obtain⟨g1,_⟩:=recN_some hok.lit hr
   have hn':=recN_num hok hn hr
   obtain⟨hl,hl1⟩:=hys l (List.mem_cons_self ..)
   split at ha
   ·simp at ha
   ·unfold litW at ha
    rw [if_pos hl1,List.mem_flatMap] at ha
    obtain⟨x,hx,ha⟩:=ha
    split at ha
    ·rename_i hp
     split at ha
     ·rename_i e'' he''
      have hlk:=hok.lit l hl
      obtain⟨k1,_⟩:=fk (hlk.facts hl1 x hx hp).symm (by rw [g1];exact hlk.terms) he''
      exact fromE_num ys e'' (by rw [k1,g1];exact hok) (fun l hl=>hys l (List.mem_cons_of_mem _ hl)) (matchE_num hn' (hok.facts x hx) he'') a ha
     ·simp at ha
    ·simp at ha
theorem way_num {S:List Fct} {v:Nat} {body:List Ltl} (hok:okB S v body) {a:List Int} (ha:a∈ij S body (ld body) (e0 v)):∀ y∈a,-1000000≤y∧y≤1000000 :=
 fromE_num (ld body) (e0 v) (by rw [show (e0 v).length=v from List.length_replicate];exact hok) (fun l hl=>⟨(List.mem_filter.1 hl).1,of_decide_eq_true (List.mem_filter.1 hl).2⟩)
  (fun u x hx=>by unfold e0 at hx;rw [List.getElem?_replicate] at hx;split at hx <;> simp at hx) a ha
set_option maxHeartbeats 8000000 in
theorem made0_fn (arity:List Int) (r:Rul) (ways:List (List Int)) (hok:HeadOk arity r ways) (h0:r.fold=0):Fn 143 [elRul r,.d (.slice 1 (ways.map jp))] (fun res=>res = .d (.slice 2 ((bq (ma r ways)).map a6))):=by
 refine ak _ Tryz.func143 rfl rfl (by kernel_rfl) ?_
 intro O w0 E0 β0
 rw [headsD_eq]
 have hmany:=hok.many
 have htl:=hok.tlen
 have lw:(ways.map jp).length=ways.length:=List.length_map _
 have lt:(r.terms.map bw).length=r.terms.length:=List.length_map _
 have hal:∀ x∈ways.filterMap (headD r ways),x.args.length≤17592186044416:=by
  intro x hx
  obtain⟨w,hw,hx⟩:=List.mem_filterMap.1 hx
  unfold headD at hx
  rw [if_pos h0] at hx
  simp only [Option.some.injEq] at hx
  subst hx
  unfold aW
  simp only [List.length_map];omega
 have wset:=set_fn (ways.filterMap (headD r ways)) (Nat.le_trans (List.length_filterMap_le _ _) (by omega)) hal
 repeat' ((fail_if_success (apply mf 2));(first|refine z0 ?_|apply ag|apply ae|refine z16 ?_|apply aa|refine z1 ?_|fail))
 refine ba (ea (t:=5) 58 2 rfl) ?_
 repeat' (first|refine z0 ?_|apply ag|apply ae|refine z16 ?_|apply ah|apply ai|apply aa|refine z1 ?_|refine z3 ?_|(refine z23 ?_ ?_ <;> intro hg)|fail)
 all_goals try (exfalso;omega)
 refine bh (ι:=Nat) (fun i=>⟨2,[(1,.d (.slice 1 (ways.map jp))),(2,.loc 0 0),(5,.row 1),(21,.d (.slice 1 (ways.map jp))),(22,.d (.int .i64 ways.length)),(23,.d (.int .i64 i))],[(0,.blk 77 [.d (.int .i64 r.pred),.d (.slice 2 (r.terms.map bw)),.d (.int .i64 r.fold),.d (.slice 4 (r.body.map bt)),.d (.int .i64 r.vars)]),(1,.row 58 2 (((ways.take i).filterMap (headD r ways)).map a6))]⟩)
  (fun i=>i≤ways.length) (fun i=>ways.length - i) 0 (Nat.zero_le _) (ap id ⟨rfl,rfl,rfl,rfl,by rw [← lw];rfl,rfl,trivial⟩ ⟨rfl,rfl,trivial⟩ rfl rfl rfl rfl rfl rfl) ?_
 intro i g1
 by_cases hi:i < ways.length
 ·have hm:=List.getElem_mem hi
  have w1:=args_fn r.terms ways[i] (hok.terms hm) (by omega)
  have hst:=filterMap_take (headD r ways) hi
  have hhd:headD r ways ways[i]=some ⟨r.pred,aW r ways[i]⟩:=by unfold headD;rw [if_pos h0]
  rw [hhd] at hst
  have lo:((ways.take i).filterMap (headD r ways)).length≤i:=filterMap_len _ _ _
  clear wset
  repeat' (first|refine z0 ?_|apply ag|refine z5 ?_|refine z9 ?_|refine z11 ?_|apply ae|refine z16 ?_|refine z20 ?_|apply ah|apply ai|apply au|apply aa|apply aq|apply bg|refine z17 ?_|refine z22 ?_ (hc:=by apply w1)|(refine z23 ?_ ?_ <;> intro hg)|fail)
  all_goals try (exfalso;omega)
  exact⟨i + 1,hi,ap (fun j=>match j with|1=>11|j=>j) ⟨rfl,rfl,rfl,rfl,rfl,rfl,trivial⟩ ⟨rfl,by rw [hst,List.map_append];rfl,trivial⟩ rfl rfl rfl rfl rfl rfl,by omega⟩
 ·rw [List.take_of_length_le (by omega)]
  repeat' (first|refine z0 ?_|apply ag|refine z5 ?_|apply ae|refine z16 ?_|refine z20 ?_|apply ah|apply ai|apply au|apply aa|apply aq|refine z17 ?_|(refine z23 ?_ ?_ <;> intro hg)|fail)
  all_goals try (exfalso;omega)
  refine ds_ent (dp 38 rfl rfl rfl) ?_
  repeat' (first|refine z0 ?_|apply ag|apply aj|apply aa|apply av|refine z21 ?_ (hc:=by apply wset)|fail)
  exact⟨.inl rfl,_,rfl,rfl,rfl⟩
def liftN (fold:Int) (x:Ltl):Int:=if x.kind=2∨fold≠0 then 1 else 0
def lvLit (fold pred:Int) (lv:List Int) (x:Ltl):List Int :=
 if 2 < x.kind then lv
 else if lv.getD pred.toNat 0 < lv.getD x.pred.toNat 0 + liftN fold x then lv.set pred.toNat (lv.getD x.pred.toNat 0 + liftN fold x) else lv
def lvRule (lv:List Int) (r:Rul):List Int:=r.body.foldl (lvLit r.fold r.pred) lv
def lvRound (l:List Rul) (lv:List Int):List Int:=l.foldl lvRule lv
def lvIter (l:List Rul):Nat→List Int→List Int
 | 0,lv=>lv
 | n + 1,lv=>lvIter l n (lvRound l lv)
def leL (a b:List Int):Prop:=a.length=b.length∧∀ i,a.getD i 0≤b.getD i 0
theorem leL.refl (a:List Int):leL a a:=⟨rfl,fun _=>Int.le_refl _⟩
theorem leL.trans {a b c:List Int} (h:leL a b) (g:leL b c):leL a c:=⟨h.1.trans g.1,fun i=>Int.le_trans (h.2 i) (g.2 i)⟩
def dv (x:Ltl):Bool:=decide (x.kind=1) || decide (x.kind=2)
def strictB (fold:Int) (x:Ltl):Bool:=decide (x.kind=2) || decide (fold≠0)
def jt (fold:Int) (x:Ltl):Int:=if strictB fold x then 1 else 0
def ib (fold pred:Int) (x:Ltl) (lv:List Int) (ch:Bool):List Int × Bool :=
 if lv.getD pred.toNat 0 < lv.getD x.pred.toNat 0 + jt fold x then (lv.set pred.toNat (lv.getD x.pred.toNat 0 + jt fold x),true) else (lv,ch)
def fh (n fold pred:Int) (st:Option (List Int × Bool)) (x:Ltl):Option (List Int × Bool):=match st with
 | none=>none
 | some (lv,ch)=>if n < lv.getD x.pred.toNat 0 + jt fold x then none else some (ib fold pred x lv ch)
def iw (n:Int) (st:Option (List Int × Bool)) (r:Rul):Option (List Int × Bool):=(r.body.filter dv).foldl (fh n r.fold r.pred) st
def rawRound (n:Int) (l:List Rul) (lv:List Int):Option (List Int × Bool):=l.foldl (iw n) (some (lv,false))
def rawIter (n:Int) (l:List Rul):Nat→List Int→Option (List Int)
 | 0,_=>none
 | k + 1,lv=>match rawRound n l lv with
  | none=>none
  | some (lv',true)=>rawIter n l k lv'
  | some (lv',false)=>some lv'
def gap (n:Int) (lv:List Int):Nat:=(lv.map fun v=>(n - v).toNat).sum
def kp (n:Nat):List Int:=List.replicate n 0
def rawL (p:Prg):Option (List Int):=rawIter p.arity.length p.rules (p.arity.length * p.arity.length + 1) (kp p.arity.length)
theorem gap_set {n:Int}:∀ {lv:List Int} {i:Nat} {v:Int} (h:i < lv.length),lv[i] < v→v≤n→gap n (lv.set i v) < gap n lv
 | [],_,_,h,_,_=>by simp at h
 | u::lv,0,v,_,hv,hn=>by
  simp only [gap,List.set_cons_zero,List.map_cons,List.sum_cons,List.getElem_cons_zero] at hv ⊢
  omega
 | u::lv,i + 1,v,h,hv,hn=>by
  have:=gap_set (n:=n) (lv:=lv) (i:=i) (v:=v) (by simpa using h) (by simpa using hv) hn
  simp only [gap,List.set_cons_succ,List.map_cons,List.sum_cons] at this ⊢
  omega
theorem gap_zeros (n m:Nat):gap n (kp m)=m * n:=by
 unfold gap kp
 rw [List.map_replicate,List.sum_replicate_nat]
 simp
def Rs (n:Int) (lv0 lv:List Int) (ch:Bool):Prop:=lv.length=lv0.length∧(∀ v∈lv,0≤v∧v≤n)∧gap n lv≤gap n lv0∧(ch=true→gap n lv < gap n lv0)
theorem Rs.refl {n:Int} {lv:List Int} (h:∀ v∈lv,0≤v∧v≤n):Rs n lv lv false:=⟨rfl,h,Nat.le_refl _,fun h=>by cases h⟩
theorem Rs.step {n fold pred:Int} {lv0 lv:List Int} {ch:Bool} {x:Ltl} (h:Rs n lv0 lv ch) (hp:pred.toNat < lv0.length) (hl:¬ n < lv.getD x.pred.toNat 0 + jt fold x):Rs n lv0 (ib fold pred x lv ch).1 (ib fold pred x lv ch).2:=by
 obtain⟨h1,h2,h3,h4⟩:=h
 unfold ib
 split
 ·rename_i hlt
  have hp':pred.toNat < lv.length:=by omega
  rw [List.getD,List.getElem?_eq_getElem hp',Option.getD_some] at hlt
  have:=gap_set (n:=n) hp' hlt (by omega)
  refine⟨by simpa using h1,fun v hv=>?_,by simp only;omega,fun _=>by simp only;omega⟩
  rcases List.mem_or_eq_of_mem_set hv with h|h
  ·exact h2 v h
  ·have:=(h2 _ (List.getElem_mem hp')).1
   omega
 ·exact⟨h1,h2,h3,h4⟩
theorem iv (n fold pred:Int):∀ (b:List Ltl),b.foldl (fh n fold pred) none=none
 | []=>rfl
 | _::b=>iv n fold pred b
theorem jo (n:Int):∀ (l:List Rul),l.foldl (iw n) none=none
 | []=>rfl
 | r::l=>by
  rw [List.foldl_cons,show iw n none r=none from iv _ _ _ _]
  exact jo n l
theorem rawStep_if {n fold pred:Int} {lv:List Int} {ch:Bool} {x:Ltl} (h1:x.pred.toNat < lv.length) (h2:pred.toNat < lv.length):fh n fold pred (some (lv,ch)) x =
  if n < lv[x.pred.toNat] + jt fold x then none else if lv[pred.toNat] < lv[x.pred.toNat] + jt fold x then some (lv.set pred.toNat (lv[x.pred.toNat] + jt fold x),true) else some (lv,ch):=by
 simp only [fh,ib,List.getD,List.getElem?_eq_getElem h1,List.getElem?_eq_getElem h2,Option.getD_some]
 split
 ·rfl
 ·split <;> rfl
theorem Rs.next {n fold pred:Int} {lv0 lv lv':List Int} {ch ch':Bool} {x:Ltl} (h:Rs n lv0 lv ch) (hp:pred.toNat < lv0.length) (hs:fh n fold pred (some (lv,ch)) x=some (lv',ch')):Rs n lv0 lv' ch':=by
 unfold fh at hs
 split at hs
 ·cases hs
 ·rename_i heq
  cases heq
  split at hs
  ·cases hs
  ·rename_i hl
   have:=h.step (fold:=fold) hp hl
   injection hs with hs
   rw [hs] at this
   exact this
def nLit (st:List Bool × List Int) (x:Ltl):List Bool × List Int:=if st.1.getD x.pred.toNat false then st else (st.1.set x.pred.toNat true,st.2++[x.pred])
theorem count_set':∀ {bs:List Bool} {i:Nat} (_:i < bs.length),bs[i]? = some false→(bs.set i true).count false + 1=bs.count false
 | [],_,h,_=>by simp at h
 | b::bs,0,_,hb=>by simp at hb;subst hb;simp
 | b::bs,i + 1,h,hb=>by
  have:=count_set' (bs:=bs) (i:=i) (by simpa using h) (by simpa using hb)
  rw [List.set_cons_succ,List.count_cons,List.count_cons]
  omega
def Ns (n m:Nat) (st:List Bool × List Int):Prop:=st.1.length=n∧2 * st.1.count false + st.2.length≤m∧∀ v∈st.2,0≤v∧v < n
theorem Ns.step {n m:Nat} {st:List Bool × List Int} {x:Ltl} (h:Ns n m st) (hx:0≤x.pred∧x.pred < n):Ns n m (nLit st x):=by
 obtain⟨h1,h2,h3⟩:=h
 unfold nLit
 split
 ·exact⟨h1,h2,h3⟩
 ·rename_i hf
  have hl:x.pred.toNat < st.1.length:=by omega
  have hg:st.1[x.pred.toNat]? = some false:=by
   rw [List.getElem?_eq_getElem hl]
   rw [List.getD,List.getElem?_eq_getElem hl,Option.getD_some] at hf
   cases hb:st.1[x.pred.toNat] with
   | true=>exact absurd hb hf
   | false=>rfl
  have:=count_set' hl hg
  refine⟨by simpa using h1,by simp only [List.length_append,List.length_singleton];omega,fun v hv=>?_⟩
  rcases List.mem_append.1 hv with hv|hv
  ·exact h3 v hv
  ·simp at hv;subst hv;exact hx
structure LvFit (p:Prg) (lv:List Int):Prop where
 len:lv.length=p.arity.length
 fit:∀ r∈p.rules,∀ l∈r.body,l.kind≤2→lv.getD l.pred.toNat 0 + liftN r.fold l≤lv.getD r.pred.toNat 0
structure PrgR (p:Prg):Prop where
 rul:∀ r∈p.rules,RulR p.arity r
 ar:∀ i,0≤p.arity.getD i 0∧p.arity.getD i 0≤3
 alen:p.arity.length≤10
 rlen:p.rules.length≤12
def hdW (S:List Fct) (r:Rul):List Fct:=bq (ma r (gk S r))
def LvA (p:Prg) (lv:List Int) (n:Int) (m0:List Fct) (S:List Fct):Prop :=
 (∀ x∈S,FctOk p.arity x)∧∀ x:Fct,lv.getD x.pred.toNat 0 < n→(x∈S↔x∈m0)
def lvV (p:Prg) (lv:List Int) (n:Int) (m0:List Fct):Lv Rul where
 rs:=p.rules.filter fun r=>decide (lv.getD r.pred.toNat 0=n)
 hd:=hdW
 mw:=ed
 A:=LvA p lv n m0
theorem raw_sub {S:List Fct} {r:Rul} {w:List Int} (h:w∈gk S r):w∈ij S r.body (ld r.body) (e0 r.vars.toNat):=by
 unfold gk at h
 split at h
 ·exact (jd _ _ _).mem_iff.1 h
 ·simp at h
theorem raw_ok {arity:List Int} {S:List Fct} {r:Rul} (hr:RulR arity r) (ha:∀ i,0≤arity.getD i 0∧arity.getD i 0≤3) (hS:∀ x∈S,FctOk arity x) (hn:S.Nodup):HeadOk arity r (gk S r):=by
 have hs:=rulS_mk hr ha hS
 obtain⟨_,_,h3⟩:=ways_perm hn hs.ok.lit hs.bd
 refine⟨hr,?_,fun w hw=>((h3 w).1 (raw_sub hw)).1,fun w hw y hy=>way_num hs.ok (raw_sub hw) y hy,?_⟩
 ·unfold gk
  split
  ·rename_i hm;exact of_decide_eq_true hm
  ·simp
 ·have:=hr.tlen
  have:=ha r.pred.toNat
  omega
theorem head_ok {arity:List Int} {r:Rul} {ways:List (List Int)} (h:HeadOk arity r ways) {x:Fct} (hx:x∈ma r ways):FctOk arity x∧x.pred=r.pred:=by
 rw [headsD_eq] at hx
 obtain⟨w,hw,hx⟩:=List.mem_filterMap.1 hx
 have hv:=h.vals hw
 have hl:(aW r w).length=r.terms.length:=List.length_map _
 unfold headD at hx
 split at hx
 ·simp only [Option.some.injEq] at hx
  subst hx
  exact⟨⟨h.rul.pred,by rw [hl];exact h.rul.tlen,hv⟩,rfl⟩
 ·rename_i hf
  split at hx
  ·rename_i hn
   simp only [Option.some.injEq] at hx
   subst hx
   have h0:=(h.rul.folded hf).1
   have hl2:(pW r w).1.length=r.terms.length - 1:=by
    show ((aW r w).take (r.terms.length - 1)).length=_
    rw [List.length_take,hl];omega
   refine⟨⟨h.rul.pred,?_,fun y hy=>?_⟩,rfl⟩
   ·simp only [List.length_append,List.length_singleton,hl2]
    rw [show r.terms.length - 1 + 1=r.terms.length by omega]
    exact h.rul.tlen
   ·rcases List.mem_append.1 hy with hy|hy
    ·exact hv y (List.mem_of_mem_take hy)
    ·rw [List.mem_singleton] at hy
     subst hy
     exact numB_in hn
  ·cases hx
theorem hdW_ok {p:Prg} (hp:PrgR p) {S:List Fct} {r:Rul} (hr:r∈p.rules) (hS:∀ x∈S,FctOk p.arity x) (hn:S.Nodup) {x:Fct} (hx:x∈hdW S r):FctOk p.arity x∧x.pred=r.pred :=
 head_ok (raw_ok (hp.rul r hr) hp.ar hS hn) (((bn _).2 x).1 hx)
theorem hasF_mono {S T:List Fct} (h:∀ x∈S,x∈T) {x:Fct} (hx:hasF S x=true):hasF T x=true:=hasF_iff.2 (h x (hasF_iff.1 hx))
theorem hasF_cong {S T:List Fct} {x:Fct} (h:x∈S↔x∈T):hasF S x=hasF T x:=by
 rw [Bool.eq_iff_iff,hasF_iff,hasF_iff];exact h
theorem holdE_grow {S T:List Fct} {l:Ltl} {a:List Int} (h:∀ x∈S,x∈T) (hk:l.kind=2→∀ x:Fct,x.pred=l.pred→(x∈S↔x∈T)) (hh:holdE S l a=true):holdE T l a=true:=by
 unfold holdE at hh ⊢
 split
 ·rename_i h1;rw [if_pos h1] at hh;exact hasF_mono h hh
 ·rename_i h1
  rw [if_neg h1] at hh
  split
  ·rename_i h2
   rw [if_pos h2] at hh
   rw [← hasF_cong (hk h2 ⟨l.pred,l.terms.map (vA a)⟩ rfl)];exact hh
  ·rename_i h2;rw [if_neg h2] at hh;exact hh
theorem holdE_cong {S T:List Fct} {l:Ltl} {a:List Int} (hk:l.kind=1∨l.kind=2→∀ x:Fct,x.pred=l.pred→(x∈S↔x∈T)):holdE S l a=holdE T l a:=by
 unfold holdE
 split
 ·rename_i h1;exact hasF_cong (hk (.inl h1) ⟨l.pred,l.terms.map (vA a)⟩ rfl)
 ·split
  ·rename_i h2;rw [hasF_cong (hk (.inr h2) ⟨l.pred,l.terms.map (vA a)⟩ rfl)]
  ·rfl
theorem ways_grow {arity:List Int} {r:Rul} {S T:List Fct} (hr:RulR arity r) (ha:∀ i,0≤arity.getD i 0∧arity.getD i 0≤3) (hS:∀ x∈S,FctOk arity x) (hT:∀ x∈T,FctOk arity x) (nS:S.Nodup) (nT:T.Nodup)
  (hst:∀ x∈S,x∈T) (hk:∀ l∈r.body,l.kind≤2→liftN r.fold l=1→∀ x:Fct,x.pred=l.pred→(x∈S↔x∈T)) (hm:ed T r=true) :
  ed S r=true∧(∀ w∈gk S r,w∈gk T r)∧(r.fold≠0→gk S r=gk T r):=by
 have sS:=rulS_mk hr ha hS
 have sT:=rulS_mk hr ha hT
 obtain⟨_,p2,p3⟩:=ways_perm nS sS.ok.lit sS.bd
 obtain⟨_,q2,q3⟩:=ways_perm nT sT.ok.lit sT.bd
 have hsub:∀ w∈ij S r.body (ld r.body) (e0 r.vars.toNat),w∈ij T r.body (ld r.body) (e0 r.vars.toNat):=by
  intro w hw
  obtain⟨h1,h2⟩:=(p3 w).1 hw
  exact (q3 w).2 ⟨h1,fun l hl=>holdE_grow hst (fun h2=>hk l hl (by omega) (by unfold liftN;rw [if_pos (.inl h2)])) (h2 l hl)⟩
 have hlen:(waysL S r.vars.toNat r.body).length≤(waysL T r.vars.toNat r.body).length:=by
  rw [(jd S r.vars.toNat r.body).length_eq,(jd T r.vars.toNat r.body).length_eq]
  exact nodup_len p2 hsub
 have hmS:ed S r=true:=by
  unfold ed at hm ⊢
  exact decide_eq_true (Nat.le_trans hlen (of_decide_eq_true hm))
 refine⟨hmS,fun w hw=>?_,fun hf=>?_⟩
 ·have hw':=hsub w (raw_sub hw)
  unfold gk
  rw [if_pos hm]
  exact (jd _ _ _).mem_iff.2 hw'
 ·have heq:∀ w,w∈ij S r.body (ld r.body) (e0 r.vars.toNat)↔w∈ij T r.body (ld r.body) (e0 r.vars.toNat):=by
   intro w
   rw [p3 w,q3 w]
   refine and_congr_right fun _=>forall_congr' fun l=>forall_congr' fun hl=>?_
   rw [holdE_cong (S:=S) (T:=T) fun h12=>hk l hl (by omega) (by unfold liftN;rw [if_pos (.inr hf)])]
  have hp:=same_members p2 q2 heq
  unfold gk
  rw [if_pos hm,if_pos hmS]
  exact waysL_eq (waysL_sort _ _ _) ((jd _ _ _).trans hp)
theorem heads_grow {r:Rul} {S T:List Fct} (h2:∀ w∈gk S r,w∈gk T r) (h3:r.fold≠0→gk S r=gk T r):∀ x∈hdW S r,x∈hdW T r:=by
 intro x hx
 have hx:=((bn _).2 x).1 hx
 refine ((bn _).2 x).2 ?_
 by_cases hf:r.fold=0
 ·unfold ma at hx ⊢
  rw [if_pos hf] at hx ⊢
  obtain⟨w,hw,rfl⟩:=List.mem_map.1 hx
  exact List.mem_map.2 ⟨w,h2 w hw,rfl⟩
 ·rw [← h3 hf];exact hx
theorem lvV_ok {p:Prg} (hp:PrgR p) {lv:List Int} (hl:LvFit p lv) (n:Int) (m0:List Fct):LvOk (lvV p lv n m0) where
 mono S T hS hT nS nT hst r hr hm:=by
  obtain⟨hr,hn⟩:=List.mem_filter.1 hr
  have hn:=of_decide_eq_true hn
  obtain⟨h1,h2,h3⟩:=ways_grow (hp.rul r hr) hp.ar hS.1 hT.1 nS.nodup nT.nodup hst (fun l hlb hk hlift x hx=>by
   have:=hl.fit r hr l hlb hk
   have hlt:lv.getD x.pred.toNat 0 < n:=by rw [hx];omega
   exact (hS.2 x hlt).trans (hT.2 x hlt).symm) hm
  exact⟨h1,heads_grow h2 h3⟩
 grow S T hS hst hT:=by
  refine⟨fun x hx=>?_,fun x hx=>⟨fun hxT=>?_,fun hx0=>hst x ((hS.2 x hx).2 hx0)⟩⟩
  ·rcases hT x hx with h|⟨r,hr,S',hS',nS',hx'⟩
   ·exact hS.1 x h
   ·exact (hdW_ok hp (List.mem_filter.1 hr).1 hS'.1 nS'.nodup hx').1
  ·rcases hT x hxT with h|⟨r,hr,S',hS',nS',hx'⟩
   ·exact (hS.2 x hx).1 h
   ·obtain⟨hr,hn⟩:=List.mem_filter.1 hr
    have hn:=of_decide_eq_true hn
    rw [(hdW_ok hp hr hS'.1 nS'.nodup hx').2] at hx
    omega
def RunTo (p:Prg) (lv:List Int) (given:List Fct):Nat→List Fct→Prop
 | 0,m=>m=bq given
 | n + 1,M=>∃ m,RunTo p lv given n m∧Fit (lvV p lv n m) m M
theorem RunTo.unique {p:Prg} {lv:List Int} {given:List Fct}:∀ {n:Nat} {a b:List Fct},RunTo p lv given n a→RunTo p lv given n b→a=b
 | 0,_,_,h,g=>h.trans g.symm
 | _ + 1,_,_,⟨_,h1,h2⟩,⟨_,g1,g2⟩=>by
  have:=RunTo.unique h1 g1
  subst this
  exact h2.unique g2
theorem RunTo.ok {p:Prg} {lv:List Int} {given:List Fct} (hg:∀ x∈given,FctOk p.arity x) (hl:given.length≤60):∀ {n:Nat} {m:List Fct},RunTo p lv given n m→Strict m∧m.length≤60∧(∀ x∈m,FctOk p.arity x)∧∀ x∈given,x∈m
 | 0,m,h=>by
  subst h
  obtain⟨h1,h2⟩:=bn given
  exact⟨h1,Nat.le_trans (jf _) hl,fun x hx=>hg x ((h2 x).1 hx),fun x hx=>(h2 x).2 hx⟩
 | n + 1,M,⟨m,h1,h2⟩=>by
  have ih:=RunTo.ok hg hl h1
  exact⟨h2.good.strict,h2.len,h2.good.a.1,fun x hx=>h2.good.sub x (ih.2.2.2 x hx)⟩
structure Edg where
 p:Nat
 q:Nat
 s:Int
def l8 (lv:List Int) (e:Edg):List Int:=if lv.getD e.p 0 < lv.getD e.q 0 + e.s then lv.set e.p (lv.getD e.q 0 + e.s) else lv
def gj (E:List Edg) (lv:List Int):List Int:=E.foldl l8 lv
def itE (E:List Edg) (lv:List Int):Nat→List Int
 | 0=>lv
 | k + 1=>gj E (itE E lv k)
def edgOk (n:Nat) (E:List Edg):Prop:=∀ e∈E,e.p < n∧e.q < n∧0≤e.s∧e.s≤1
def FitE (n:Nat) (E:List Edg) (F:List Int):Prop:=F.length=n∧(∀ i,0≤F.getD i 0)∧∀ e∈E,F.getD e.q 0 + e.s≤F.getD e.p 0
theorem liftE_len (lv:List Int) (e:Edg):(l8 lv e).length=lv.length:=by unfold l8;split <;> simp
theorem roundE_len:∀ (E:List Edg) (lv:List Int),(gj E lv).length=lv.length
 | [],_=>rfl
 | e::E,lv=>(roundE_len E (l8 lv e)).trans (liftE_len lv e)
theorem itE_len (E:List Edg) (lv:List Int):∀ k,(itE E lv k).length=lv.length
 | 0=>rfl
 | k + 1=>(roundE_len E _).trans (itE_len E lv k)
theorem set_getD (lv:List Int) (i:Nat) (v:Int) (hi:i < lv.length) (j:Nat):(lv.set i v).getD j 0=if i=j then v else lv.getD j 0:=by
 simp only [List.getD,List.getElem?_set]
 split
 ·rename_i h;subst h;first|rfl|(rw [if_pos hi];rfl)
 ·rfl
theorem liftE_le {n:Nat} {lv:List Int} {e:Edg} (hl:lv.length=n) (he:e.p < n) (i:Nat):lv.getD i 0≤(l8 lv e).getD i 0:=by
 unfold l8
 split
 ·rw [set_getD _ _ _ (by omega)]
  split
  ·rename_i h;subst h;omega
  ·exact Int.le_refl _
 ·exact Int.le_refl _
theorem liftE_edge {n:Nat} {lv:List Int} {e:Edg} (hl:lv.length=n) (he:e.p < n):lv.getD e.q 0 + e.s≤(l8 lv e).getD e.p 0:=by
 unfold l8
 split
 ·rw [set_getD _ _ _ (by omega),if_pos rfl];omega
 ·omega
theorem roundE_le {n:Nat}:∀ {E:List Edg} {lv:List Int},lv.length=n→edgOk n E→∀ i,lv.getD i 0≤(gj E lv).getD i 0
 | [],_,_,_,_=>Int.le_refl _
 | e::_,lv,hl,hE,i=>Int.le_trans (liftE_le hl (hE e (List.mem_cons_self ..)).1 i) (roundE_le ((liftE_len lv e).trans hl) (fun x hx=>hE x (List.mem_cons_of_mem _ hx)) i)
theorem roundE_edge {n:Nat}:∀ {E:List Edg} {lv:List Int},lv.length=n→edgOk n E→∀ e∈E,lv.getD e.q 0 + e.s≤(gj E lv).getD e.p 0
 | [],_,_,_,_,h=>nomatch h
 | x::E,lv,hl,hE,e,he=>by
  have hx:=hE x (List.mem_cons_self ..)
  have hE':edgOk n E:=fun y hy=>hE y (List.mem_cons_of_mem _ hy)
  have hl':=(liftE_len lv x).trans hl
  rcases List.mem_cons.1 he with rfl|he
  ·exact Int.le_trans (liftE_edge hl hx.1) (roundE_le hl' hE' _)
  ·have h1:=roundE_edge hl' hE' e he
   have h2:=liftE_le (e:=x) hl hx.1 e.q
   show _≤(gj E (l8 lv x)).getD e.p 0
   omega
theorem liftE_below {n:Nat} {E:List Edg} {F lv:List Int} {e:Edg} (hl:lv.length=n) (hF:FitE n E F) (he:e∈E) (hp:e.p < n) (h:∀ i,lv.getD i 0≤F.getD i 0) (i:Nat):(l8 lv e).getD i 0≤F.getD i 0:=by
 unfold l8
 split
 ·rw [set_getD _ _ _ (by omega)]
  split
  ·rename_i h1;subst h1
   have:=hF.2.2 e he
   have:=h e.q
   omega
  ·exact h i
 ·exact h i
theorem roundE_below' {n:Nat} {E:List Edg} {F:List Int} (hF:FitE n E F) (hE:edgOk n E):∀ (E2:List Edg) (lv:List Int),(∀ e∈E2,e∈E)→lv.length=n→(∀ i,lv.getD i 0≤F.getD i 0)→∀ i,(gj E2 lv).getD i 0≤F.getD i 0
 | [],_,_,_,h,i=>h i
 | e::E2,lv,hs,hl,h,i=>roundE_below' hF hE E2 (l8 lv e) (fun x hx=>hs x (List.mem_cons_of_mem _ hx)) ((liftE_len lv e).trans hl)
   (fun i=>liftE_below hl hF (hs e (List.mem_cons_self ..)) (hE e (hs e (List.mem_cons_self ..))).1 h i) i
theorem roundE_below {n:Nat} {E:List Edg} {F lv:List Int} (hF:FitE n E F) (hE:edgOk n E) (hl:lv.length=n) (h:∀ i,lv.getD i 0≤F.getD i 0) (i:Nat):(gj E lv).getD i 0≤F.getD i 0:=roundE_below' hF hE E lv (fun _ h=>h) hl h i
theorem ext_getD {a b:List Int} (hl:a.length=b.length) (h:∀ i,a.getD i 0=b.getD i 0):a=b:=by
 apply List.ext_getElem hl
 intro i h1 h2
 have:=h i
 rwa [List.getD,List.getD,List.getElem?_eq_getElem h1,List.getElem?_eq_getElem h2] at this
theorem rest_edge {n:Nat} {E:List Edg} {lv:List Int} (hl:lv.length=n) (hE:edgOk n E) (hr:gj E lv=lv):∀ e∈E,lv.getD e.q 0 + e.s≤lv.getD e.p 0:=by
 intro e he
 have:=roundE_edge hl hE e he
 rwa [hr] at this
theorem edge_rest:∀ {E:List Edg} {lv:List Int},(∀ e∈E,lv.getD e.q 0 + e.s≤lv.getD e.p 0)→gj E lv=lv
 | [],_,_=>rfl
 | e::E,lv,h=>by
  have h1:l8 lv e=lv:=by
   unfold l8
   rw [if_neg]
   have:=h e (List.mem_cons_self ..)
   omega
  show gj E (l8 lv e)=lv
  rw [h1]
  exact edge_rest fun x hx=>h x (List.mem_cons_of_mem _ hx)
section
variable {n : Nat} {E : List Edg} (hE : edgOk n E)
abbrev L0 (E:List Edg) (n k:Nat):List Int:=itE E (kp n) k
theorem jw (k:Nat):(L0 E n k).length=n:=by rw [itE_len];simp [kp]
include hE
theorem L0_up (k i:Nat):(L0 E n k).getD i 0≤(L0 E n (k + 1)).getD i 0:=roundE_le (jw k) hE i
omit hE in
theorem zeros_getD (n i:Nat):(kp n).getD i 0=0:=by
 unfold kp
 rw [List.getD,List.getElem?_replicate]
 split <;> rfl
theorem L0_pos:∀ (k i:Nat),0≤(L0 E n k).getD i 0
 | 0,i=>by show 0≤(kp n).getD i 0;rw [zeros_getD n];exact Int.le_refl _
 | k + 1,i=>Int.le_trans (L0_pos k i) (L0_up hE k i)
theorem L0_below {F:List Int} (hF:FitE n E F):∀ (k i:Nat),(L0 E n k).getD i 0≤F.getD i 0
 | 0,i=>by show (kp n).getD i 0≤_;rw [zeros_getD n];exact hF.2.1 i
 | k + 1,i=>roundE_below hF hE (jw k) (L0_below hF k) i
theorem fit_of_rest {k:Nat} (h:L0 E n (k + 1)=L0 E n k):FitE n E (L0 E n k):=⟨jw k,L0_pos hE k,rest_edge (jw k) hE h⟩
def sett (n:Nat) (a b:List Int):Nat:=((List.range n).filter fun i=>decide (a.getD i 0=b.getD i 0)).length
omit hE in
theorem filter_len_lt {α:Type} (f g:α→Bool):∀ (l:List α),(∀ x∈l,f x=true→g x=true)→(∃ x∈l,f x=false∧g x=true)→(l.filter f).length < (l.filter g).length
 | [],_,⟨_,h,_⟩=>nomatch h
 | y::l,hs,⟨x,hx,h1,h2⟩=>by
  have hle:(l.filter f).length≤(l.filter g).length:=by
   clear hx
   have hs':∀ x∈l,f x=true→g x=true:=fun x hx=>hs x (List.mem_cons_of_mem _ hx)
   clear hs
   induction l with
   | nil=>simp
   | cons z l ih =>
    have ih:=ih fun x hx=>hs' x (List.mem_cons_of_mem _ hx)
    have hz:=hs' z (List.mem_cons_self ..)
    simp only [List.filter_cons]
    cases hf:f z <;> cases hg:g z <;> simp_all <;> omega
  rcases List.mem_cons.1 hx with rfl|hx
  ·simp only [List.filter_cons,h1,h2,if_true,List.length_cons,Bool.false_eq_true,if_false];omega
  ·have ih:=filter_len_lt f g l (fun x hx=>hs x (List.mem_cons_of_mem _ hx)) ⟨x,hx,h1,h2⟩
   have hy:=hs y (List.mem_cons_self ..)
   simp only [List.filter_cons]
   cases hf:f y <;> cases hg:g y <;> simp_all <;> omega
omit hE in
theorem ic (n:Nat) (f:Nat→Int) (i:Nat):((List.range n).map f).getD i 0=if i < n then f i else 0:=by
 rw [List.getD,List.getElem?_map]
 split
 ·rename_i h;rw [List.getElem?_range h];rfl
 ·rename_i h;rw [List.getElem?_eq_none (by simp;omega)];rfl
theorem settle {S:List Int} (hS:FitE n E S) (hleast:∀ F,FitE n E F→∀ i,S.getD i 0≤F.getD i 0) {k:Nat} (hne:L0 E n k≠S):sett n (L0 E n k) S < sett n (L0 E n (k + 1)) S:=by
 have hb:=L0_below hE hS
 refine filter_len_lt _ _ _ (fun i hi h=>?_) ?_
 ·have h1:=of_decide_eq_true h
  have h2:=L0_up hE k i
  have h3:=hb (k + 1) i
  exact decide_eq_true (by omega)
 ·apply Classical.byContradiction
  intro hno
  have hno:∀ i,i < n→(L0 E n (k + 1)).getD i 0=S.getD i 0→(L0 E n k).getD i 0=S.getD i 0:=by
   intro i hi h1
   apply Classical.byContradiction
   intro h2
   exact hno ⟨i,List.mem_range.2 hi,decide_eq_false h2,decide_eq_true h1⟩
  let M:List Int:=(List.range n).map fun i=>if (L0 E n k).getD i 0=S.getD i 0 then S.getD i 0 else S.getD i 0 - 1
  have hM:∀ i,i < n→M.getD i 0=if (L0 E n k).getD i 0=S.getD i 0 then S.getD i 0 else S.getD i 0 - 1:=fun i hi=>by rw [ic,if_pos hi]
  have hfit:FitE n E M:=by
   refine⟨by simp [M],fun i=>?_,fun e he=>?_⟩
   ·rw [ic]
    split
    ·have h1:=hb k i
     have h2:=L0_pos hE k i
     split <;> omega
    ·exact Int.le_refl _
   ·obtain⟨hp,hq,hs0,hs1⟩:=hE e he
    have h1:=hS.2.2 e he
    rw [hM _ hp,hM _ hq]
    by_cases hps:(L0 E n k).getD e.p 0=S.getD e.p 0
    ·rw [if_pos hps]
     split <;> omega
    ·rw [if_neg hps]
     split
     ·rename_i hqs
      have h2:=roundE_edge (jw (E:=E) k) hE e he
      have h3:=hb (k + 1) e.p
      have h4:¬ (L0 E n (k + 1)).getD e.p 0=S.getD e.p 0:=fun h=>hps (hno e.p hp h)
      have h5:(L0 E n k).getD e.q 0 + e.s≤(L0 E n (k + 1)).getD e.p 0:=h2
      omega
     ·omega
  apply hne
  refine ext_getD (by rw [jw,hS.1]) fun i=>?_
  rcases Nat.lt_or_ge i n with hi|hi
  ·have h1:=hleast M hfit i
   rw [hM i hi] at h1
   split at h1
   ·assumption
   ·omega
  ·rw [List.getD,List.getD,List.getElem?_eq_none (by rw [jw];exact hi),List.getElem?_eq_none (by rw [hS.1];exact hi)]
omit hE in
theorem sett_le (a b:List Int):sett n a b≤n:=by
 have:=List.length_filter_le (fun i=>decide (a.getD i 0=b.getD i 0)) (List.range n)
 rw [List.length_range] at this
 exact this
theorem settled {S:List Int} (hS:FitE n E S) (hleast:∀ F,FitE n E F→∀ i,S.getD i 0≤F.getD i 0):L0 E n n=S:=by
 have key:∀ k,L0 E n k=S∨k≤sett n (L0 E n k) S:=by
  intro k
  induction k with
  | zero=>exact .inr (Nat.zero_le _)
  | succ k ih =>
   by_cases h:L0 E n k=S
   ·left
    show gj E (itE E (kp n) k)=S
    rw [show itE E (kp n) k=S from h]
    exact edge_rest hS.2.2
   ·right
    have h1:=settle hE hS hleast h
    rcases ih with h2|h2
    ·exact absurd h2 h
    ·omega
 rcases key n with h|h
 ·exact h
 ·apply Classical.byContradiction
  intro hne
  have h1:=settle hE hS hleast hne
  have h2:=sett_le (n:=n) (L0 E n (n + 1)) S
  omega
omit hE in
theorem pigeon:∀ (m:Nat) (l:List Int),(∀ v:Nat,1≤v→v≤m→(v:Int)∈l)→m≤l.length
 | 0,_,_=>Nat.zero_le _
 | m + 1,l,h=>by
  have h1:=h (m + 1) (by omega) (Nat.le_refl _)
  have h2:=pigeon m (l.erase ((m + 1:Nat):Int)) fun v hv1 hv2=>(List.mem_erase_of_ne (by omega)).2 (h v hv1 (by omega))
  rw [List.length_erase_of_mem h1] at h2
  have:=List.length_pos_of_mem h1
  omega
theorem least_bound (hF:FitE n E (L0 E n n)) (i:Nat):(L0 E n n).getD i 0≤n:=by
 apply Classical.byContradiction
 intro hgt
 have hgt:(n:Int) < (L0 E n n).getD i 0:=by omega
 have hin:∀ v:Nat,1≤v→v≤n + 1→(v:Int)∈L0 E n n:=by
  intro v hv1 hv2
  apply Classical.byContradiction
  intro hnot
  have hnv:∀ j,j < n→(L0 E n n).getD j 0≠v:=by
   intro j hj h
   apply hnot
   rw [List.getD,List.getElem?_eq_getElem (by rw [jw];exact hj),Option.getD_some] at h
   rw [← h]
   exact List.getElem_mem _
  let M:List Int:=(List.range n).map fun j=>if (v:Int) < (L0 E n n).getD j 0 then (L0 E n n).getD j 0 - 1 else (L0 E n n).getD j 0
  have hM:∀ j,j < n→M.getD j 0=if (v:Int) < (L0 E n n).getD j 0 then (L0 E n n).getD j 0 - 1 else (L0 E n n).getD j 0:=fun j hj=>by rw [ic,if_pos hj]
  have hfit:FitE n E M:=by
   refine⟨by simp [M],fun j=>?_,fun e he=>?_⟩
   ·rw [ic]
    split
    ·have:=hF.2.1 j
     split <;> omega
    ·exact Int.le_refl _
   ·obtain⟨hp,hq,hs0,hs1⟩:=hE e he
    have h1:=hF.2.2 e he
    have h2:=hnv e.q hq
    rw [hM _ hp,hM _ hq]
    split <;> split <;> omega
  have hi:i < n:=by
   apply Classical.byContradiction
   intro h
   rw [List.getD,List.getElem?_eq_none (by rw [jw];omega)] at hgt
   simp at hgt
   omega
  have h3:=L0_below hE hfit n i
  have h5:=hnv i hi
  rw [hM i hi,if_pos (by omega)] at h3
  omega
 have:=pigeon (n + 1) _ hin
 rw [jw] at this
 omega
end
theorem firstL_z0 {α:Type} {f:α→Int}:∀ {l:List α},cu f l=0→∀ x∈l,f x=0
 | [],_,_,h=>nomatch h
 | y::l,h,x,hx=>by
  unfold cu at h
  split at h
  ·rename_i h1;exact absurd h h1
  ·rename_i h1
   rcases List.mem_cons.1 hx with rfl|hx
   ·exact Classical.byContradiction fun h2=>h1 h2
   ·exact firstL_z0 h x hx
theorem inR_tru {n a b:Int} (h:¬ inR n a b=false):a≤n∧n≤b:=by
 unfold inR at h
 simp at h
 exact h
structure LtlOk (n vars:Int) (l:Ltl):Prop where
 kind:1≤l.kind∧l.kind≤4
 pred:dv l=true→0≤l.pred∧l.pred < n
structure RulOk (n:Nat) (r:Rul):Prop where
 pred:0≤r.pred∧r.pred < n
 vars:0≤r.vars∧r.vars≤8
 fold:0≤r.fold∧r.fold≤4
 body:r.body.length≤4
 lits:∀ l∈r.body,LtlOk n r.vars l
structure PrgOk (p:Prg):Prop where
 preds:p.arity.length≤10
 rules:p.rules.length≤12
 names:p.names.length=p.arity.length
 each:∀ r∈p.rules,RulOk p.arity.length r
theorem litE_okM {arity:List Int} {vars:Int} {l:Ltl} (h:litE arity vars l=0):LtlOk arity.length vars l:=by
 unfold litE at h
 split at h;· cases h
 rename_i h1
 split at h;· cases h
 refine⟨inR_tru h1,fun hh=>?_⟩
 have hk:l.kind=1∨l.kind=2:=by
  unfold dv at hh
  simpa using hh
 rw [if_pos hk] at h
 split at h;· cases h
 rename_i h3
 have:=inR_tru h3
 omega
theorem ruleE_ok {arity:List Int} {r:Rul} (h:ruleE arity r=0):RulOk arity.length r:=by
 unfold ruleE at h
 split at h;· cases h
 rename_i h1
 split at h;· cases h
 split at h;· cases h
 rename_i h3
 split at h;· rename_i h4;exact absurd h h4
 split at h;· cases h
 rename_i h5
 split at h;· cases h
 split at h;· cases h
 rename_i h7
 split at h;· rename_i h8;exact absurd h h8
 rename_i h8
 have:=inR_tru h1
 exact⟨by omega,inR_tru h3,inR_tru h5,by omega,fun l hl=>litE_okM (firstL_z0 (Classical.byContradiction fun hn=>h8 hn) l hl)⟩
theorem progE_ok {nameB:ByteArray→Bool} {p:Prg} (h:dh nameB p=0):PrgOk p:=by
 unfold dh at h
 split at h;· cases h
 rename_i h1
 split at h;· cases h
 rename_i h2
 split at h;· rename_i h3;exact absurd h h3
 exact⟨by omega,by omega,by omega,fun r hr=>ruleE_ok (firstL_z0 h r hr)⟩
def edgR (r:Rul):List Edg:=(r.body.filter dv).map fun x=>⟨r.pred.toNat,x.pred.toNat,jt r.fold x⟩
def edgP (p:Prg):List Edg:=p.rules.flatMap edgR
theorem liftS_le (f:Int) (x:Ltl):0≤jt f x∧jt f x≤1:=by unfold jt;split <;> omega
theorem edgP_ok {p:Prg} (h:PrgOk p):edgOk p.arity.length (edgP p):=by
 intro e he
 unfold edgP at he
 obtain⟨r,hr,he⟩:=List.mem_flatMap.1 he
 unfold edgR at he
 obtain⟨x,hx,rfl⟩:=List.mem_map.1 he
 obtain⟨hx1,hx2⟩:=List.mem_filter.1 hx
 have h1:=(h.each r hr).pred
 have h2:=((h.each r hr).lits x hx1).pred hx2
 have h3:=liftS_le r.fold x
 dsimp only
 omega
theorem liftN_S (f:Int) (x:Ltl):liftN f x=jt f x:=by
 unfold liftN jt strictB
 by_cases h1:x.kind=2 <;> by_cases h2:f=0 <;> simp [h1,h2]
theorem hangs_kind {x:Ltl} (h:1≤x.kind):(2 < x.kind)↔dv x=false:=by
 unfold dv
 simp only [Bool.or_eq_false_iff,decide_eq_false_iff_not]
 omega
theorem lvLits_edg (f pr:Int):∀ (b:List Ltl) (lv:List Int),(∀ x∈b,1≤x.kind)→b.foldl (lvLit f pr) lv=gj ((b.filter dv).map fun x=>⟨pr.toNat,x.pred.toNat,jt f x⟩) lv
 | [],_,_=>rfl
 | x::b,lv,h=>by
  have hk:=h x (List.mem_cons_self ..)
  have hb:=fun y hy=>h y (List.mem_cons_of_mem _ hy)
  rw [List.foldl_cons,lvLits_edg f pr b _ hb]
  cases hx:dv x with
  | false =>
   rw [List.filter_cons_of_neg (by rw [hx];simp)]
   congr 1
   unfold lvLit
   rw [if_pos ((hangs_kind hk).2 hx)]
  | true =>
   rw [List.filter_cons_of_pos hx,List.map_cons]
   show _=gj _ (l8 lv _)
   congr 1
   unfold lvLit l8
   rw [if_neg (by rw [hangs_kind hk,hx];simp),liftN_S]
theorem roundE_app (A B:List Edg) (lv:List Int):gj (A++B) lv=gj B (gj A lv):=by unfold gj;rw [List.foldl_append]
theorem lvRound_edg:∀ (l:List Rul) (lv:List Int),(∀ r∈l,∀ x∈r.body,1≤x.kind)→lvRound l lv=gj (l.flatMap edgR) lv
 | [],_,_=>rfl
 | r::l,lv,h=>by
  rw [List.flatMap_cons,roundE_app,← lvRound_edg l _ fun y hy=>h y (List.mem_cons_of_mem _ hy)]
  show lvRound l (lvRule lv r)=_
  congr 1
  exact lvLits_edg _ _ _ _ (h r (List.mem_cons_self ..))
theorem lvIter_edg (p:Prg) (h:PrgOk p):∀ (k j:Nat),lvIter p.rules k (L0 (edgP p) p.arity.length j)=L0 (edgP p) p.arity.length (j + k)
 | 0,_=>rfl
 | k + 1,j=>by
  rw [lvIter,lvRound_edg _ _ fun r hr x hx=>((h.each r hr).lits x hx).kind.1]
  show lvIter p.rules k (L0 (edgP p) p.arity.length (j + 1))=_
  rw [lvIter_edg p h k (j + 1)]
  congr 1
  omega
theorem rawLit_edg (f pr:Int) (x:Ltl) (lv:List Int) (ch:Bool):(ib f pr x lv ch).1=l8 lv ⟨pr.toNat,x.pred.toNat,jt f x⟩:=by
 unfold ib l8
 dsimp only
 split <;> rfl
theorem rawSteps (n f pr:Int):∀ (b:List Ltl) (lv:List Int) (ch:Bool) (r:List Int × Bool),b.foldl (fh n f pr) (some (lv,ch))=some r→r.1=gj (b.map fun x=>⟨pr.toNat,x.pred.toNat,jt f x⟩) lv
 | [],lv,ch,r,h=>by cases h;rfl
 | x::b,lv,ch,r,h=>by
  rw [List.foldl_cons] at h
  by_cases hx:n < lv.getD x.pred.toNat 0 + jt f x
  ·rw [show fh n f pr (some (lv,ch)) x=none from if_pos hx,iv] at h
   cases h
  ·rw [show fh n f pr (some (lv,ch)) x=some (ib f pr x lv ch) from if_neg hx] at h
   have:=rawSteps n f pr b (ib f pr x lv ch).1 (ib f pr x lv ch).2 r h
   rw [this,rawLit_edg]
   rfl
theorem rawRules (n:Int):∀ (l:List Rul) (lv:List Int) (ch:Bool) (r:List Int × Bool),l.foldl (iw n) (some (lv,ch))=some r→r.1=gj (l.flatMap edgR) lv
 | [],lv,ch,r,h=>by cases h;rfl
 | y::l,lv,ch,r,h=>by
  rw [List.foldl_cons] at h
  cases hs:iw n (some (lv,ch)) y with
  | none=>rw [hs,jo] at h;cases h
  | some q =>
   rw [hs] at h
   have h1:=rawSteps n y.fold y.pred _ lv ch q hs
   have h2:=rawRules n l q.1 q.2 r h
   rw [h2,h1,List.flatMap_cons,roundE_app]
   rfl
theorem rawLit_flag {f pr:Int} {x:Ltl} {lv:List Int} {ch:Bool} (h:(ib f pr x lv ch).2=false):ch=false∧(ib f pr x lv ch).1=lv:=by
 unfold ib at h ⊢
 split at h
 ·cases h
 ·rename_i hn
  rw [if_neg hn]
  exact⟨h,rfl⟩
theorem rawSteps_flag {n f pr:Int}:∀ (b:List Ltl) (lv lv':List Int) (ch:Bool),pr.toNat < lv.length→b.foldl (fh n f pr) (some (lv,ch))=some (lv',false)→ch=false∧lv' = lv
 | [],lv,lv',ch,_,h=>by cases h;exact⟨rfl,rfl⟩
 | x::b,lv,lv',ch,hp,h=>by
  rw [List.foldl_cons] at h
  by_cases hx:n < lv.getD x.pred.toNat 0 + jt f x
  ·rw [show fh n f pr (some (lv,ch)) x=none from if_pos hx,iv] at h
   cases h
  ·rw [show fh n f pr (some (lv,ch)) x=some (ib f pr x lv ch) from if_neg hx] at h
   obtain⟨h1,h2⟩:=rawSteps_flag b (ib f pr x lv ch).1 lv' (ib f pr x lv ch).2 (by rw [rawLit_edg,liftE_len];exact hp) h
   obtain⟨h3,h4⟩:=rawLit_flag h1
   exact⟨h3,h2.trans h4⟩
theorem rawRules_flag {n:Int}:∀ (l:List Rul) (lv lv':List Int) (ch:Bool),(∀ r∈l,r.pred.toNat < lv.length)→l.foldl (iw n) (some (lv,ch))=some (lv',false)→ch=false∧lv' = lv
 | [],lv,lv',ch,_,h=>by cases h;exact⟨rfl,rfl⟩
 | y::l,lv,lv',ch,hp,h=>by
  rw [List.foldl_cons] at h
  cases hs:iw n (some (lv,ch)) y with
  | none=>rw [hs,jo] at h;cases h
  | some q =>
   obtain⟨q1,q2⟩:=q
   rw [hs] at h
   have h0:q1=gj (edgR y) lv:=rawSteps n y.fold y.pred _ lv ch _ hs
   have hl:q1.length=lv.length:=by rw [h0,roundE_len]
   obtain⟨h1,h2⟩:=rawRules_flag l q1 lv' q2 (fun r hr=>by rw [hl];exact hp r (List.mem_cons_of_mem _ hr)) h
   subst h1
   obtain⟨h3,h4⟩:=rawSteps_flag _ lv q1 ch (hp y (List.mem_cons_self ..)) hs
   exact⟨h3,h2.trans h4⟩
theorem rawIter_rest (p:Prg) (h:PrgOk p):∀ (m j:Nat) (lv:List Int),rawIter p.arity.length p.rules m (L0 (edgP p) p.arity.length j)=some lv→∃ k,lv=L0 (edgP p) p.arity.length k∧L0 (edgP p) p.arity.length (k + 1)=L0 (edgP p) p.arity.length k
 | 0,_,_,h=>nomatch h
 | m + 1,j,lv,hr=>by
  rw [rawIter] at hr
  cases hs:rawRound p.arity.length p.rules (L0 (edgP p) p.arity.length j) with
  | none=>rw [hs] at hr;cases hr
  | some q =>
   obtain⟨q1,q2⟩:=q
   rw [hs] at hr
   have h1:q1=L0 (edgP p) p.arity.length (j + 1):=rawRules _ _ _ _ _ hs
   cases q2 with
   | true =>
    rw [h1] at hr
    exact rawIter_rest p h m (j + 1) lv hr
   | false =>
    simp only [Option.some.injEq] at hr
    have h2:=(rawRules_flag p.rules _ q1 false (fun r hr=>by rw [jw];have:=(h.each r hr).pred;omega) hs).2
    exact⟨j,by rw [← hr,h2],by rw [← h1,h2]⟩
theorem rawSteps_some {n f pr:Int} {N:Nat} {E:List Edg} {F:List Int} (hF:FitE N E F) (hE:edgOk N E) (hb:∀ i,F.getD i 0≤n):∀ (b:List Ltl) (lv:List Int) (ch:Bool),(∀ x∈b,(⟨pr.toNat,x.pred.toNat,jt f x⟩:Edg)∈E)→lv.length=N→(∀ i,lv.getD i 0≤F.getD i 0) →
  ∃ r,b.foldl (fh n f pr) (some (lv,ch))=some r∧r.1.length=N∧∀ i,r.1.getD i 0≤F.getD i 0
 | [],lv,ch,_,hl,hle=>⟨(lv,ch),rfl,hl,hle⟩
 | x::b,lv,ch,hin,hl,hle=>by
  have hx:=hin x (List.mem_cons_self ..)
  have h1:=hF.2.2 _ hx
  have h2:=hle x.pred.toNat
  have h3:=hb pr.toNat
  dsimp only at h1
  rw [List.foldl_cons,show fh n f pr (some (lv,ch)) x=some (ib f pr x lv ch) from if_neg (by omega)]
  exact rawSteps_some hF hE hb b (ib f pr x lv ch).1 (ib f pr x lv ch).2 (fun y hy=>hin y (List.mem_cons_of_mem _ hy)) (by rw [rawLit_edg,liftE_len];exact hl) (fun i=>by rw [rawLit_edg];exact liftE_below hl hF hx (hE _ hx).1 hle i)
theorem rawRules_some {n:Int} {N:Nat} {E:List Edg} {F:List Int} (hF:FitE N E F) (hE:edgOk N E) (hb:∀ i,F.getD i 0≤n):∀ (l:List Rul) (lv:List Int) (ch:Bool),(∀ r∈l,∀ e∈edgR r,e∈E)→lv.length=N→(∀ i,lv.getD i 0≤F.getD i 0) →
  ∃ r,l.foldl (iw n) (some (lv,ch))=some r∧r.1.length=N∧∀ i,r.1.getD i 0≤F.getD i 0
 | [],lv,ch,_,hl,hle=>⟨(lv,ch),rfl,hl,hle⟩
 | y::l,lv,ch,hin,hl,hle=>by
  obtain⟨⟨q1,q2⟩,h1,h2,h3⟩:=rawSteps_some hF hE hb (f:=y.fold) (pr:=y.pred) (y.body.filter dv) lv ch (fun x hx=>hin y (List.mem_cons_self ..) _ (List.mem_map.2 ⟨x,hx,rfl⟩)) hl hle
  rw [List.foldl_cons,show iw n (some (lv,ch)) y=some (q1,q2) from h1]
  exact rawRules_some hF hE hb l q1 q2 (fun r hr=>hin r (List.mem_cons_of_mem _ hr)) h2 h3
theorem rawRound_gap {n:Int} {l:List Rul} {N:Nat} {lv lv':List Int} {ch:Bool} (hl:lv.length=N) (hp:∀ r∈l,r.pred.toNat < N) (hv:∀ v∈lv,0≤v∧v≤n) (h:rawRound n l lv=some (lv',ch)):Rs n lv lv' ch:=by
 have steps:∀ (f pr:Int) (b:List Ltl) (lv1 lv2:List Int) (c1 c2:Bool),pr.toNat < lv.length→Rs n lv lv1 c1→b.foldl (fh n f pr) (some (lv1,c1))=some (lv2,c2)→Rs n lv lv2 c2:=by
  intro f pr b
  induction b with
  | nil=>intro lv1 lv2 c1 c2 _ h1 h2;cases h2;exact h1
  | cons x b ih =>
   intro lv1 lv2 c1 c2 hp h1 h2
   rw [List.foldl_cons] at h2
   by_cases hx:n < lv1.getD x.pred.toNat 0 + jt f x
   ·rw [show fh n f pr (some (lv1,c1)) x=none from if_pos hx,iv] at h2
    cases h2
   ·rw [show fh n f pr (some (lv1,c1)) x=some (ib f pr x lv1 c1) from if_neg hx] at h2
    exact ih _ _ _ _ hp (h1.step hp hx) h2
 have rules:∀ (l:List Rul) (lv1 lv2:List Int) (c1 c2:Bool),(∀ r∈l,r.pred.toNat < N)→Rs n lv lv1 c1→l.foldl (iw n) (some (lv1,c1))=some (lv2,c2)→Rs n lv lv2 c2:=by
  intro l
  induction l with
  | nil=>intro lv1 lv2 c1 c2 _ h1 h2;cases h2;exact h1
  | cons y l ih =>
   intro lv1 lv2 c1 c2 hp h1 h2
   rw [List.foldl_cons] at h2
   cases hs:iw n (some (lv1,c1)) y with
   | none=>rw [hs,jo] at h2;cases h2
   | some q =>
    obtain⟨q1,q2⟩:=q
    rw [hs] at h2
    exact ih q1 lv2 q2 c2 (fun r hr=>hp r (List.mem_cons_of_mem _ hr)) (steps _ _ _ _ _ _ _ (by rw [hl];exact hp y (List.mem_cons_self ..)) h1 hs) h2
 exact rules l lv lv' false ch hp (Rs.refl hv) h
theorem rawIter_some (p:Prg) (h:PrgOk p) {F:List Int} (hF:FitE p.arity.length (edgP p) F) (hb:∀ i,F.getD i 0≤(p.arity.length:Int)):∀ (m j:Nat),(∀ v∈L0 (edgP p) p.arity.length j,0≤v∧v≤(p.arity.length:Int))→gap p.arity.length (L0 (edgP p) p.arity.length j) < m→rawIter p.arity.length p.rules m (L0 (edgP p) p.arity.length j)≠none
 | 0,_,_,hg=>by omega
 | m + 1,j,hv,hg=>by
  rw [rawIter]
  obtain⟨⟨q1,q2⟩,h1,_,_⟩:=rawRules_some hF (edgP_ok h) hb p.rules (L0 (edgP p) p.arity.length j) false (fun r hr e he=>List.mem_flatMap.2 ⟨r,hr,he⟩) (jw j) (L0_below (edgP_ok h) hF j)
  have h1:rawRound p.arity.length p.rules (L0 (edgP p) p.arity.length j)=some (q1,q2):=h1
  rw [h1]
  have hgap:=rawRound_gap (jw j) (fun r hr=>by have:=(h.each r hr).pred;omega) hv h1
  have h2:q1=L0 (edgP p) p.arity.length (j + 1):=rawRules _ _ _ _ _ h1
  cases q2 with
  | false=>simp
  | true =>
   rw [h2] at hgap ⊢
   exact rawIter_some p h hF hb m (j + 1) hgap.2.1 (by have:=hgap.2.2.2 rfl;omega)
def eo (p:Prg):List Int:=lvIter p.rules (p.arity.length + 1) (kp p.arity.length)
def docOk (p:Prg):Bool:=decide (lvRound p.rules (lvIter p.rules p.arity.length (kp p.arity.length))=lvIter p.rules p.arity.length (kp p.arity.length))
theorem docLv_eq (p:Prg) (h:PrgOk p):eo p=L0 (edgP p) p.arity.length (p.arity.length + 1):=by
 have:=lvIter_edg p h (p.arity.length + 1) 0
 rw [Nat.zero_add] at this
 exact this
theorem docOk_eq (p:Prg) (h:PrgOk p):docOk p=decide (L0 (edgP p) p.arity.length (p.arity.length + 1)=L0 (edgP p) p.arity.length p.arity.length):=by
 have:=lvIter_edg p h p.arity.length 0
 rw [Nat.zero_add] at this
 unfold docOk
 rw [show lvIter p.rules p.arity.length (kp p.arity.length)=L0 (edgP p) p.arity.length p.arity.length from this,lvRound_edg _ _ fun r hr x hx=>((h.each r hr).lits x hx).kind.1]
 rfl
theorem levels_same (p:Prg) (h:PrgOk p):rawL p=if docOk p then some (eo p) else none:=by
 have hE:=edgP_ok h
 rw [docOk_eq p h,docLv_eq p h]
 by_cases hr:L0 (edgP p) p.arity.length (p.arity.length + 1)=L0 (edgP p) p.arity.length p.arity.length
 ·rw [if_pos (decide_eq_true hr),hr]
  have hfit:=fit_of_rest hE hr
  have hb:=least_bound hE hfit
  cases hs:rawL p with
  | none =>
   refine absurd hs (rawIter_some p h hfit hb _ 0 (fun v hv=>?_) ?_)
   ·rw [List.eq_of_mem_replicate hv];omega
   ·show gap p.arity.length (kp p.arity.length) < _
    rw [gap_zeros];exact Nat.lt_succ_self _
  | some lv =>
   obtain⟨k,h1,h2⟩:=rawIter_rest p h _ 0 lv hs
   have hfk:=fit_of_rest hE h2
   rw [h1,settled hE hfk fun F hF i=>L0_below hE hF k i]
 ·rw [if_neg (by rw [decide_eq_false hr];simp)]
  cases hs:rawL p with
  | none=>rfl
  | some lv =>
   obtain⟨k,h1,h2⟩:=rawIter_rest p h _ 0 lv hs
   have hfk:=fit_of_rest hE h2
   have hset:=settled hE hfk fun F hF i=>L0_below hE hF k i
   exfalso
   apply hr
   show gj (edgP p) (L0 (edgP p) p.arity.length p.arity.length)=_
   rw [hset]
   exact h2
end Go.Proofs.YtapciiffpnociaaGreat
