/- Several texts in one: RuS RuT RuV GxRR. Condition: none. -/
import Derived.Test.YtapciiffpnociaaGreatP18
import Derived.Test.YtapciiffpnociaaGreatP10
import Derived.Test.YtapciiffpnociaaGreatP09
namespace Go.Proofs.YtapciiffpnociaaGreat
open Go Go.RowKit
abbrev pfB (r:Rul) (S:List Fct) (o:Nat):HB:=.blk 213 [.d (.int .i64 r.pred),.d (.slice 2 (r.terms.map bw)),.d (.int .i64 r.fold),.d (.slice 4 (r.body.map bt)),.d (.int .i64 r.vars),.d (.slice 2 (S.map a6)),.row 1,.row 2,.d (.int .i64 2000),.row o]
abbrev pfH (r:Rul) (S:List Fct) (e:RE) (out:List (List Int)):Hp:=[(0,pfB r S 3),(1,.row 3 1 ((cx e).map bi)),(2,.row 4 1 ((da e).map mc)),(3,.row 22 1 (out.map jp))]
attribute [local irreducible] DW DS DL DQ Ev FnOk FnP em b9 DT
set_option maxHeartbeats 8000000 in
theorem value_fn (r:Rul) (S:List Fct) (out:List (List Int)) (e:RE) (t:Trm) (ho:okT e.length t) :
  FnOk false Tryz.prog tab cn 191 [.loc 0 0,elTrm t] 4 4 (pfH r S e out) (fun _ res H=>res = .tup [.d (.int .i64 (vA (cx e) t)),.d (.bool (vOf e t).isSome)]∧H=pfH r S e out):=by
 refine co _ Tryz.func191 rfl rfl (by kernel_rfl) ?_
 intro O w0 E0 β0
 have lo:((cx e).map bi).length=e.length:=by rw [List.length_map,j9]
 have lh:((da e).map mc).length=e.length:=by rw [List.length_map,ew]
 unfold okT at ho
 by_cases hv:t.var < 0
 ·have h1:vA (cx e) t=t.n:=by unfold vA;rw [if_pos hv]
  have h2:(vOf e t).isSome=true:=by unfold vOf;rw [if_pos hv];rfl
  rw [h1,h2]
  repeat' (first|refine z0 ?_|apply ag|refine z5 ?_|refine z10 ?_|apply ae|refine z16 ?_|refine z20 ?_|apply ai|apply aj|apply aa|apply av|refine z1 ?_|(refine z23 ?_ ?_ <;> intro hg)|fail)
  all_goals try (exfalso;omega)
  exact⟨.inl rfl,_,rfl,id,4,_,pfH r S e out,rfl,⟨rfl,rfl,rfl,rfl,trivial⟩,rfl,rfl,rfl,rfl,rfl,rfl,rfl,rfl⟩
 ·have hlt:t.var.toNat < e.length:=by omega
  have h1:vA (cx e) t=(cx e)[t.var.toNat]'(by rw [j9];exact hlt):=by unfold vA;rw [if_neg hv,List.getD,List.getElem?_eq_getElem (by rw [j9];exact hlt)];rfl
  have h2:(vOf e t).isSome=(da e)[t.var.toNat]'(by rw [ew];exact hlt):=by
   unfold vOf da;rw [if_neg hv,List.getD,List.getElem?_eq_getElem hlt,List.getElem_map];rfl
  rw [h1,h2]
  repeat' (first|refine z0 ?_|apply ag|refine z5 ?_|refine z10 ?_|apply ae|refine z16 ?_|refine z20 ?_|apply ai|apply aj|apply aa|apply av|refine z1 ?_|(refine z23 ?_ ?_ <;> intro hg)|fail)
  all_goals try (exfalso;omega)
  exact⟨.inl rfl,_,rfl,id,4,_,pfH r S e out,rfl,⟨rfl,rfl,rfl,rfl,trivial⟩,rfl,rfl,rfl,rfl,rfl,rfl,rfl,rfl⟩
set_option maxHeartbeats 8000000 in
theorem values_fn (r:Rul) (S:List Fct) (out:List (List Int)) (e:RE) (l:List Trm) (ho:∀ t∈l,okT e.length t) (hl:l.length≤4398046511104) :
  FnOk false Tryz.prog tab cn 169 [.loc 0 0,.d (.slice 2 (l.map bw))] 4 4 (pfH r S e out)
   (fun _ res H=>res=(if l.all (fun t=>(vOf e t).isSome) then .tup [.d (.slice 1 ((l.map (vA (cx e))).map bi)),.d (.bool true)] else .tup [.d (.slice 1 []),.d (.bool false)])∧H=pfH r S e out):=by
 refine co _ Tryz.func169 rfl rfl (by kernel_rfl) ?_
 intro O w0 E0 β0
 have ll:(l.map bw).length=l.length:=List.length_map _
 repeat' ((fail_if_success (apply mf 2));(first|refine z0 ?_|apply ag|apply ae|refine z16 ?_|apply aa))
 refine ba (ea (t:=6) 3 1 rfl) ?_
 repeat' (first|refine z0 ?_|apply ag|apply ae|refine z16 ?_|apply ah|apply aa)
 refine bh (ι:=Nat) (fun i=>⟨5,[(0,.loc 0 0),(1,.d (.slice 2 (l.map bw))),(6,.row 4),(11,.d (.slice 2 (l.map bw))),(12,.d (.int .i64 l.length)),(13,.d (.int .i64 i))],(4,.row 3 1 (((l.take i).map (vA (cx e))).map bi))::pfH r S e out⟩)
  (fun i=>i≤l.length∧(l.take i).all (fun t=>(vOf e t).isSome)=true) (fun i=>l.length - i) 0 ⟨Nat.zero_le _,rfl⟩ (ap id ⟨rfl,rfl,rfl,rfl,by rw [← ll];rfl,rfl,trivial⟩ ⟨rfl,rfl,rfl,rfl,rfl,trivial⟩ rfl rfl rfl rfl rfl rfl) ?_
 rintro i ⟨g1,g2⟩
 dsimp only at g1 g2 ⊢
 by_cases hi:i < l.length
 ·have w:=value_fn r S out e l[i] (ho _ (List.getElem_mem hi))
  have ht:l.take (i + 1)=l.take i++[l[i]]:=List.take_succ_eq_append_getElem hi
  repeat' (first|refine z0 ?_|apply ag|apply ae|refine z16 ?_|apply ah|apply ai|apply au|apply aj|apply aa|apply aq|refine z17 ?_|refine z1 ?_|refine z3 ?_|(refine z23 ?_ ?_ <;> intro hg)|fail)
  all_goals try (exfalso;omega)
  (refine b8 id (w) rfl rfl rfl rfl ⟨rfl,rfl,rfl,rfl,trivial⟩ rfl rfl rfl rfl rfl rfl ?_ ?_)
  ·rintro k2 res H2 ⟨rfl,rfl⟩;exact⟨rfl,rfl⟩
  rintro k2 res H2 ⟨rfl,rfl⟩
  change DS _ _ _ _ _ _ _ _
  cases hs:(vOf e l[i]).isSome with
  | false =>
   have hall:l.all (fun t=>(vOf e t).isSome)=false:=by rw [List.all_eq_false];exact⟨_,List.getElem_mem hi,by rw [hs];simp⟩
   rw [hall]
   simp only [Bool.false_eq_true,if_false]
   repeat' (first|refine z0 ?_|apply ag|apply ae|refine z16 ?_|refine z18 ?_|apply aa)
   all_goals try (exfalso;omega)
   refine ba (cr 4 1 rfl) ?_
   repeat' (first|apply aj|apply av|apply br)
   exact⟨.inl rfl,_,rfl,id,4,_,pfH r S e out,rfl,⟨rfl,rfl,rfl,rfl,trivial⟩,rfl,rfl,rfl,rfl,rfl,rfl,rfl,rfl⟩
  | true =>
   repeat' (first|refine z0 ?_|apply ag|apply ae|refine z16 ?_|apply ai|refine z19 ?_|apply aa|apply bg|refine z4 ?_|refine z2 ?_|fail)
   all_goals try (exfalso;omega)
   exact⟨i + 1,⟨hi,by rw [ht,List.all_append,g2];simp [hs]⟩,ap (fun j=>match j with|4=>6|j=>j) ⟨rfl,rfl,rfl,rfl,rfl,rfl,trivial⟩ ⟨by rw [ht,List.map_append,List.map_append];rfl,rfl,rfl,rfl,rfl,trivial⟩ rfl rfl rfl rfl rfl rfl,by omega⟩
 ·rw [List.take_of_length_le (by omega)] at g2 ⊢
  rw [g2,if_pos rfl]
  repeat' (first|refine z0 ?_|apply ag|apply ae|refine z16 ?_|apply ah|apply ai|apply au|apply aa|apply aq|refine z17 ?_|refine z1 ?_|refine z3 ?_|(refine z23 ?_ ?_ <;> intro hg)|fail)
  all_goals try (exfalso;omega)
  refine ba (dp 4 rfl rfl rfl) ?_
  repeat' (apply aj)
  exact⟨.inl rfl,_,rfl,id,4,_,pfH r S e out,rfl,⟨rfl,rfl,rfl,rfl,trivial⟩,rfl,rfl,rfl,rfl,rfl,rfl,rfl,rfl⟩
set_option maxHeartbeats 8000000 in
theorem calc_fn (op a b:Int) (ha:-1000000≤a∧a≤1000000) (hb:-1000000≤b∧b≤1000000):Fn 170 [.d (.int .i64 op),.d (.int .i64 a),.d (.int .i64 b)] (fun r=>r = .d (.int .i64 (calcE op a b))):=by
 refine ak _ Tryz.func170 rfl rfl (by kernel_rfl) ?_
 intro O w0 E0 β0
 have hm:-1000000000000≤a * b∧a * b≤1000000000000:=by
  have h1:a.natAbs≤1000000:=by omega
  have h2:b.natAbs≤1000000:=by omega
  have h3:(a * b).natAbs≤1000000 * 1000000:=by rw [Int.natAbs_mul];exact Nat.mul_le_mul h1 h2
  omega
 unfold calcE
 by_cases h5:op=5
 ·rw [if_pos h5]
  repeat' (first|refine z0 ?_|apply ag|apply ae|refine z16 ?_|apply ah|apply ai|apply aj|apply aa|apply av|apply bg|apply br|(refine z23 ?_ ?_ <;> intro hg)|fail)
  all_goals try (exfalso;omega)
  all_goals exact⟨.inl rfl,_,rfl,rfl,rfl⟩
 ·rw [if_neg h5]
  by_cases h6:op=6
  ·rw [if_pos h6]
   repeat' (first|refine z0 ?_|apply ag|apply ae|refine z16 ?_|apply ah|apply ai|apply aj|apply aa|apply av|apply bg|apply br|(refine z23 ?_ ?_ <;> intro hg)|fail)
   all_goals try (exfalso;omega)
   all_goals exact⟨.inl rfl,_,rfl,rfl,rfl⟩
  ·rw [if_neg h6]
   repeat' (first|refine z0 ?_|apply ag|apply ae|refine z16 ?_|apply ah|apply ai|apply aj|apply aa|apply av|apply bg|apply br|(refine z23 ?_ ?_ <;> intro hg)|fail)
   all_goals try (exfalso;omega)
   exact⟨.inl rfl,_,rfl,rfl,rfl⟩
set_option maxHeartbeats 8000000 in
theorem test_fn (op a b:Int):Fn 171 [.d (.int .i64 op),.d (.int .i64 a),.d (.int .i64 b)] (fun r=>r = .d (.bool (testE op a b))):=by
 refine ak _ Tryz.func171 rfl rfl (by kernel_rfl) ?_
 intro O w0 E0 β0
 unfold testE
 by_cases h1:op=1
 ·rw [if_pos h1]
  repeat' (first|refine z0 ?_|apply ag|apply ae|refine z16 ?_|apply ah|apply ai|apply aj|apply aa|apply av|apply bg|apply br|(refine z23 ?_ ?_ <;> intro hg)|fail)
  all_goals try (exfalso;omega)
  all_goals exact⟨.inl rfl,_,rfl,rfl,rfl⟩
 ·rw [if_neg h1]
  by_cases h2:op=2
  ·rw [if_pos h2]
   repeat' (first|refine z0 ?_|apply ag|apply ae|refine z16 ?_|apply ah|apply ai|apply aj|apply aa|apply av|apply bg|apply br|(refine z23 ?_ ?_ <;> intro hg)|fail)
   all_goals try (exfalso;omega)
   all_goals exact⟨.inl rfl,_,rfl,rfl,rfl⟩
  ·rw [if_neg h2]
   by_cases h3:op=3
   ·rw [if_pos h3]
    repeat' (first|refine z0 ?_|apply ag|apply ae|refine z16 ?_|apply ah|apply ai|apply aj|apply aa|apply av|apply bg|apply br|(refine z23 ?_ ?_ <;> intro hg)|fail)
    all_goals try (exfalso;omega)
    all_goals exact⟨.inl rfl,_,rfl,rfl,rfl⟩
   ·rw [if_neg h3]
    repeat' (first|refine z0 ?_|apply ag|apply ae|refine z16 ?_|apply ah|apply ai|apply aj|apply aa|apply av|apply bg|apply br|(refine z23 ?_ ?_ <;> intro hg)|fail)
    all_goals try (exfalso;omega)
    exact⟨.inl rfl,_,rfl,rfl,rfl⟩
def ga (e:RE) (vs:List Int):RE:=vs.foldl (fun e v=>e.set v.toNat none) e
theorem unset_len:∀ (vs:List Int) (e:RE),(ga e vs).length=e.length
 | [],_=>rfl
 | v::vs,e=>by
  show (ga (e.set v.toNat none) vs).length=_
  rw [unset_len vs,List.length_set]
theorem unset_set:∀ (vs:List Int) (e:RE) (v:Nat) (y:Option Int),(∀ u∈vs,u.toNat≠v)→ga (e.set v y) vs=(ga e vs).set v y
 | [],_,_,_,_=>rfl
 | u::vs,e,v,y,h=>by
  show ga ((e.set v y).set u.toNat none) vs=(ga (e.set u.toNat none) vs).set v y
  rw [List.set_comm _ _ (Ne.symm (h u (List.mem_cons_self ..)) ),unset_set vs _ v y fun x hx=>h x (List.mem_cons_of_mem _ hx)]
theorem unset_get:∀ (vs:List Int) (e:RE) (v:Nat),(∀ u∈vs,u.toNat≠v)→(ga e vs)[v]? = e[v]?
 | [],_,_,_=>rfl
 | u::vs,e,v,h=>by
  show (ga (e.set u.toNat none) vs)[v]? = _
  rw [unset_get vs _ v fun x hx=>h x (List.mem_cons_of_mem _ hx),List.getElem?_set_ne (h u (List.mem_cons_self ..))]
theorem unset_snoc {e:RE} {vs:List Int} {v:Int} {y:Option Int} (hv:e[v.toNat]? = some none) (h:∀ u∈vs,u.toNat≠v.toNat):ga (e.set v.toNat y) (vs++[v])=ga e vs:=by
 have:ga (e.set v.toNat y) (vs++[v])=(ga (e.set v.toNat y) vs).set v.toNat none:=by unfold ga;rw [List.foldl_append];rfl
 rw [this,unset_set vs e _ _ h,List.set_set]
 have hg:=unset_get vs e v.toNat h
 rw [hv] at hg
 apply List.ext_getElem?
 intro j
 by_cases hj:v.toNat=j
 ·subst hj
  rw [hg,List.getElem?_set_self (List.getElem?_eq_some_iff.1 hg).1]
 ·rw [List.getElem?_set_ne hj]
theorem unset_take {e:RE} {vs:List Int} {k:Nat} (hk:k < vs.length):ga e (vs.take (k + 1))=(ga e (vs.take k)).set vs[k].toNat none:=by
 unfold ga;rw [List.take_succ_eq_append_getElem hk,List.foldl_append];rfl
theorem outE_unset (e:RE) (v:Nat):cx (e.set v none)=(cx e).set v 0:=by unfold cx;rw [List.map_set];rfl
theorem hasE_unset (e:RE) (v:Nat):da (e.set v none)=(da e).set v false:=by unfold da;rw [List.map_set];rfl
theorem outE_set' (e:RE) (v:Nat) (x:Int):cx (e.set v (some x))=(cx e).set v x:=by unfold cx;rw [List.map_set];rfl
theorem hasE_set' (e:RE) (v:Nat) (x:Int):da (e.set v (some x))=(da e).set v true:=by unfold da;rw [List.map_set];rfl
abbrev goH (r:Rul) (S:List Fct) (rest:List Ltl) (e:RE) (out:List (List Int)):Hp:=[(0,pfB r S 5),(1,.row 3 1 ((cx e).map bi)),(2,.row 4 1 ((da e).map mc)),(3,.blk 211 [.loc 0 0]),(4,.blk 75 [.d (.slice 4 (rest.map bt))]),(5,.row 22 1 (out.map jp))]
def lz (w out:List (List Int)):List (List Int):=(out++w).take 2001
def fewW (w out:List (List Int)):Bool:=decide (out.length + w.length≤2000)
theorem putW_nil {out:List (List Int)} (h:out.length≤2000):lz [] out=out:=by unfold lz;rw [List.append_nil,List.take_of_length_le (by omega)]
theorem fewW_nil {out:List (List Int)} (h:out.length≤2000):fewW [] out=true:=by unfold fewW;simp;omega
def matW (W:RE→List (List Int)) (o:Option RE):List (List Int):=match o with|some e'=>W e'|none=>[]
theorem rowOk {α:Type} {f:α→List D} {l:List α} {i:Nat} (h:i < l.length) (hf:∀ x,(f x).length=1):i < (l.map f).length∧∀ y∈l.map f,y.length=1:=⟨by rw [List.length_map];exact h,fun y hy=>by obtain⟨z,_,rfl⟩:=List.mem_map.1 hy;exact hf z⟩
set_option maxHeartbeats 8000000 in
theorem match_fnR (r:Rul) (S:List Fct) (rest:List Ltl) (out:List (List Int)) (e:RE) (l:List Trm) (ns:List Int) (W:RE→List (List Int)) (hl:l.length=ns.length) (hl3:l.length≤1000) (ho:∀ t∈l,okT e.length t) (hout:out.length≤2000)
  (hthen:∀ e',di e l ns=some e'→FnOk false Tryz.prog tab cn 167 [.loc 3 0,.loc 4 0] 5 6 (goH r S rest e' out) (fun k2 res H=>k2=6∧res = .d (.bool (fewW (W e') out))∧H=goH r S rest e' (lz (W e') out))) :
  FnOk false Tryz.prog tab cn 168 [.loc 0 0,.d (.slice 2 (l.map bw)),.d (.slice 1 (ns.map bi)),.fn 167 [.loc 3 0,.loc 4 0]] 5 6 (goH r S rest e out)
   (fun k2 res H=>k2=6∧res = .d (.bool (fewW (matW W (di e l ns)) out))∧H=goH r S rest e (lz (matW W (di e l ns)) out)):=by
 refine co _ Tryz.func168 rfl rfl (by kernel_rfl) ?_
 intro O w0 E0 β0
 have ll:(l.map bw).length=l.length:=List.length_map _
 have ln:(ns.map bi).length=ns.length:=List.length_map _
 repeat' ((fail_if_success (apply mf 3));(first|refine z0 ?_|apply ag|apply ae|refine z16 ?_|apply aa))
 refine ba (ea (t:=9) 3 1 rfl) ?_
 refine dw_cut (ι:=RE × List Int × Bool) (fun x=>⟨7,[(0,.loc 0 0),(3,.fn 167 [.loc 3 0,.loc 4 0]),(9,.row 6),(10,.d (.bool x.2.2))],(6,.row 3 1 (x.2.1.map bi))::goH r S rest x.1 out⟩)
  (fun x=>x.1.length=e.length∧ga x.1 x.2.1=e∧(∀ u∈x.2.1,0≤u∧∃ y,x.1[u.toNat]? = some (some y))∧(x.2.2=true→di e l ns=some x.1)∧(x.2.2=false→di e l ns=none)∧x.2.1.length≤l.length) ?_ ?_
 ·repeat' (first|refine z0 ?_|apply ag|apply ae|refine z16 ?_|apply ah|apply aa)
  refine bh (ι:=Nat × RE × List Int) (fun x=>⟨7,[(0,.loc 0 0),(1,.d (.slice 2 (l.map bw))),(2,.d (.slice 1 (ns.map bi))),(3,.fn 167 [.loc 3 0,.loc 4 0]),(9,.row 6),(10,.d (.bool true)),(18,.d (.slice 2 (l.map bw))),(19,.d (.int .i64 l.length)),(20,.d (.int .i64 x.1))],(6,.row 3 1 (x.2.2.map bi))::goH r S rest x.2.1 out⟩)
   (fun x=>x.1≤l.length∧x.2.1.length=e.length∧di e l ns=di x.2.1 (l.drop x.1) (ns.drop x.1)∧ga x.2.1 x.2.2=e∧(∀ u∈x.2.2,0≤u∧∃ y,x.2.1[u.toNat]? = some (some y))∧x.2.2.length≤x.1) (fun x=>l.length - x.1) (0,e,[]) ⟨Nat.zero_le _,rfl,rfl,rfl,fun _ h=>(by simp at h),Nat.le_refl _⟩
   (ap id ⟨rfl,rfl,rfl,rfl,rfl,rfl,rfl,by rw [← ll];rfl,rfl,trivial⟩ ⟨rfl,rfl,rfl,rfl,rfl,rfl,rfl,trivial⟩ rfl rfl rfl rfl rfl rfl) ?_
  rintro⟨i,ei,vs⟩ ⟨g1,g2,g3,g4,g5,g6⟩
  dsimp only at g1 g2 g3 g4 g5 g6 ⊢
  clear hthen
  by_cases hi:i < l.length
  ·have hoi:=ho _ (List.getElem_mem hi)
   rw [← g2] at hoi
   have w:=value_fn r S out ei l[i] hoi
   have hn:i < ns.length:=by omega
   rw [List.drop_eq_getElem_cons hi,List.drop_eq_getElem_cons hn,di] at g3
   repeat' (first|refine z0 ?_|apply ag|apply ae|refine z16 ?_|apply ah|apply ai|apply au|apply aa|apply aq|refine z17 ?_|refine z1 ?_|refine z3 ?_|(refine z23 ?_ ?_ <;> intro hg)|fail)
   all_goals try (exfalso;omega)
   refine b8 (fun j=>match j with|3=>5|j=>j) w rfl rfl rfl rfl ⟨rfl,rfl,rfl,rfl,trivial⟩ rfl rfl rfl rfl rfl rfl ?_ ?_
   ·rintro k2 res H2 ⟨rfl,rfl⟩;exact⟨rfl,rfl⟩
   rintro k2 res H2 ⟨rfl,rfl⟩
   change DS _ _ _ _ _ _ _ _
   clear w
   cases hv:vOf ei l[i] with
   | some x =>
    have hx:vA (cx ei) l[i]=x:=vOf_out hv
    rw [hv] at g3
    simp only at g3
    rw [hx]
    by_cases hc:x=ns[i]
    ·rw [if_pos hc] at g3
     repeat' (first|refine z0 ?_|apply ag|apply ae|refine z16 ?_|apply ah|apply ai|apply au|refine z18 ?_|refine z19 ?_|apply aa|apply aq|apply bg|refine z17 ?_|(apply inB_x;exact rfl)|(refine z23 ?_ ?_ <;> intro hg)|fail)
     all_goals try (exfalso;omega)
     exact⟨(i + 1,ei,vs),⟨hi,g2,g3,g4,g5,by dsimp only;omega⟩,ap id ⟨rfl,rfl,rfl,rfl,rfl,rfl,rfl,rfl,rfl,trivial⟩ ⟨rfl,rfl,rfl,rfl,rfl,rfl,rfl,trivial⟩ rfl rfl rfl rfl rfl rfl,by show l.length - (i + 1) < l.length - i;omega⟩
    ·rw [if_neg hc] at g3
     repeat' (first|refine z0 ?_|apply ag|apply ae|refine z16 ?_|apply ah|apply ai|apply au|refine z18 ?_|refine z19 ?_|apply aa|apply aq|apply bg|refine z17 ?_|(apply inB_x;exact rfl)|(refine z23 ?_ ?_ <;> intro hg)|fail)
     all_goals try (exfalso;omega)
     exact⟨(ei,vs,false),⟨g2,g4,g5,(fun h=>(nomatch h)),fun _=>g3,by dsimp only;omega⟩,ap id ⟨rfl,rfl,rfl,rfl,trivial⟩ ⟨rfl,rfl,rfl,rfl,rfl,rfl,rfl,trivial⟩ rfl rfl rfl rfl rfl rfl⟩
   | none =>
    rw [hv] at g3
    simp only at g3
    have hv0:¬ l[i].var < 0:=fun h=>by unfold vOf at hv;rw [if_pos h] at hv;cases hv
    unfold okT at hoi
    have hlt:l[i].var.toNat < ei.length:=by omega
    have hev:ei[l[i].var.toNat]? = some none:=by
     unfold vOf at hv
     rw [if_neg hv0,List.getD,List.getElem?_eq_getElem hlt] at hv
     rw [List.getElem?_eq_getElem hlt]
     simpa using hv
    have lo:((cx ei).map bi).length=ei.length:=by rw [List.length_map,j9]
    have lh:((da ei).map mc).length=ei.length:=by rw [List.length_map,ew]
    have hpm:l[i].var.toNat < ((cx ei).map bi).length∧∀ y∈(cx ei).map bi,y.length=1:=rowOk (by rw [j9];exact hlt) fun _=>rfl
    have hpk:l[i].var.toNat < ((da ei).map mc).length∧∀ y∈(da ei).map mc,y.length=1:=rowOk (by rw [ew];exact hlt) fun _=>rfl
    have hne:∀ u∈vs,u.toNat≠l[i].var.toNat:=fun u hu he=>by
     obtain⟨_,y,hy⟩:=g5 u hu
     rw [he,hev] at hy;cases hy
    repeat' (first|refine z0 ?_|refine z12 ?_|apply ag|refine z5 ?_|refine z6 ?_|refine z10 ?_|apply ae|refine z16 ?_|refine z20 ?_|apply ah|apply ai|refine z18 ?_|refine z19 ?_|apply aa|apply bg|refine z4 ?_|refine z2 ?_|fail)
    all_goals try (exfalso;omega)
    have o1:=outE_set' ei l[i].var.toNat ns[i]
    have o2:=hasE_set' ei l[i].var.toNat ns[i]
    refine⟨(i + 1,ei.set l[i].var.toNat (some ns[i]),vs++[l[i].var]),⟨hi,by dsimp only;rw [List.length_set];exact g2,g3,(unset_snoc hev hne).trans g4,fun u hu=>?_,by dsimp only;rw [List.length_append,List.length_singleton];omega⟩,
     ap (fun j=>match j with|6=>8|j=>j) ⟨rfl,rfl,rfl,rfl,rfl,rfl,rfl,rfl,rfl,trivial⟩ ⟨by rw [List.map_append];rfl,rfl,by rw [o1,List.map_set];rfl,by rw [o2,List.map_set];rfl,rfl,rfl,rfl,trivial⟩ rfl rfl rfl rfl rfl rfl,by show l.length - (i + 1) < l.length - i;omega⟩
    rcases List.mem_append.1 hu with hu|hu
    ·obtain⟨q1,y,q2⟩:=g5 u hu
     exact⟨q1,y,by dsimp only;rw [List.getElem?_set_ne (Ne.symm (hne u hu))];exact q2⟩
    ·rw [List.mem_singleton] at hu;subst hu
     exact⟨by omega,ns[i],by dsimp only;rw [List.getElem?_set_self hlt]⟩
  ·rw [List.drop_of_length_le (by omega)] at g3
   have g3:di e l ns=some ei:=g3
   repeat' (first|refine z0 ?_|apply ag|apply ae|refine z16 ?_|apply ah|apply ai|apply au|apply aa|apply aq|refine z17 ?_|refine z1 ?_|refine z3 ?_|(refine z23 ?_ ?_ <;> intro hg)|fail)
   all_goals try (exfalso;omega)
   exact⟨(ei,vs,true),⟨g2,g4,g5,fun _=>g3,(fun h=>(nomatch h)),by dsimp only;omega⟩,ap id ⟨rfl,rfl,rfl,rfl,trivial⟩ ⟨rfl,rfl,rfl,rfl,rfl,rfl,rfl,trivial⟩ rfl rfl rfl rfl rfl rfl⟩
 ·rintro⟨ei,vs,ok⟩ ⟨g2,g4,g5,g7,g8,g9⟩
  dsimp only at g2 g4 g5 g7 g8 g9 ⊢
  repeat' ((fail_if_success (apply kb 14));fail)
  refine dw_cut (ι:=Unit) (fun _=>⟨7,[(0,.loc 0 0),(9,.row 6),(15,.d (.bool (fewW (matW W (di e l ns)) out)))],(6,.row 3 1 (vs.map bi))::goH r S rest ei (lz (matW W (di e l ns)) out)⟩) (fun _=>True) ?_ ?_
  ·cases ok with
   | false =>
    have hm:=g8 rfl
    rw [hm,show matW W none=[] from rfl,fewW_nil hout,putW_nil hout]
    repeat' (first|refine z0 ?_|refine z12 ?_|apply ag|refine z16 ?_|apply aa)
    all_goals try (exfalso;omega)
    exact⟨(),trivial,ap id ⟨rfl,rfl,rfl,trivial⟩ ⟨rfl,rfl,rfl,rfl,rfl,rfl,rfl,trivial⟩ rfl rfl rfl rfl rfl rfl⟩
   | true =>
    have hm:=g7 rfl
    have w:=hthen ei hm
    rw [hm,show matW W (some ei)=W ei from rfl]
    repeat' (first|refine z0 ?_|refine z16 ?_|fail)
    all_goals try (exfalso;omega)
    (refine ds_callVF id (w) rfl rfl rfl rfl rfl rfl ⟨rfl,rfl,rfl,rfl,rfl,rfl,trivial⟩ rfl rfl rfl rfl rfl rfl ?_ ?_)
    ·rintro k2 res H2 ⟨rfl,rfl,rfl⟩;exact⟨rfl,rfl⟩
    rintro k2 res H2 ⟨rfl,rfl,rfl⟩
    change DS _ _ _ _ _ _ _ _
    repeat' (first|refine z0 ?_|apply ag|apply aa)
    all_goals try (exfalso;omega)
    exact⟨(),trivial,ap (fun j=>match j with|5=>12|j=>j) ⟨rfl,rfl,rfl,trivial⟩ ⟨rfl,rfl,rfl,rfl,rfl,rfl,rfl,trivial⟩ rfl rfl rfl rfl rfl rfl⟩
  ·clear hthen
   rintro _ _
   generalize fewW (matW W (di e l ns)) out=bb
   generalize lz (matW W (di e l ns)) out=o2
   have lv:(vs.map bi).length=vs.length:=List.length_map _
   repeat' (first|refine z0 ?_|apply ag|apply ae|refine z16 ?_|apply ah|apply aa)
   all_goals try (exfalso;omega)
   refine bh (ι:=Nat) (fun i=>⟨7,[(0,.loc 0 0),(9,.row 6),(15,.d (.bool bb)),(76,.row 6),(77,.d (.int .i64 vs.length)),(78,.d (.int .i64 i))],(6,.row 3 1 (vs.map bi))::goH r S rest (ga ei (vs.take i)) o2⟩)
    (fun i=>i≤vs.length) (fun i=>vs.length - i) 0 (Nat.zero_le _) (ap id ⟨rfl,rfl,rfl,rfl,by rw [← lv];rfl,rfl,trivial⟩ ⟨rfl,rfl,rfl,rfl,rfl,rfl,rfl,trivial⟩ rfl rfl rfl rfl rfl rfl) ?_
   intro i g1
   by_cases hi:i < vs.length
   ·obtain⟨h0,y,hy⟩:=g5 _ (List.getElem_mem hi)
    have hlt:vs[i].toNat < (ga ei (vs.take i)).length:=by rw [unset_len];exact (List.getElem?_eq_some_iff.1 hy).1
    have ht:=unset_take (e:=ei) hi
    have o1:=outE_unset (ga ei (vs.take i)) vs[i].toNat
    have o2':=hasE_unset (ga ei (vs.take i)) vs[i].toNat
    have lo:((cx (ga ei (vs.take i))).map bi).length=(ga ei (vs.take i)).length:=by rw [List.length_map,j9]
    have lh:((da (ga ei (vs.take i))).map mc).length=(ga ei (vs.take i)).length:=by rw [List.length_map,ew]
    have hpm:vs[i].toNat < ((cx (ga ei (vs.take i))).map bi).length∧∀ y∈(cx (ga ei (vs.take i))).map bi,y.length=1:=rowOk (by rw [j9];exact hlt) fun _=>rfl
    have hpk:vs[i].toNat < ((da (ga ei (vs.take i))).map mc).length∧∀ y∈(da (ga ei (vs.take i))).map mc,y.length=1:=rowOk (by rw [ew];exact hlt) fun _=>rfl
    repeat' (first|refine z0 ?_|apply ag|refine z5 ?_|refine z6 ?_|refine z10 ?_|apply ae|refine z16 ?_|refine z20 ?_|apply ah|apply ai|apply au|apply aj|apply aa|apply aq|apply bg|refine z17 ?_|(refine z23 ?_ ?_ <;> intro hg)|fail)
    all_goals try (exfalso;omega)
    exact⟨i + 1,hi,ap id ⟨rfl,rfl,rfl,rfl,rfl,rfl,trivial⟩ ⟨rfl,rfl,by rw [ht,o1,List.map_set];rfl,by rw [ht,o2',List.map_set];rfl,rfl,rfl,rfl,trivial⟩ rfl rfl rfl rfl rfl rfl,by omega⟩
   ·rw [List.take_of_length_le (by omega),g4]
    repeat' (first|refine z0 ?_|apply ag|refine z5 ?_|refine z6 ?_|refine z10 ?_|apply ae|refine z16 ?_|refine z20 ?_|apply ah|apply ai|apply au|apply aj|apply aa|apply aq|apply bg|refine z17 ?_|(refine z23 ?_ ?_ <;> intro hg)|fail)
    all_goals try (exfalso;omega)
    exact⟨.inl rfl,_,rfl,id,6,_,goH r S rest e o2,rfl,⟨rfl,rfl,rfl,rfl,rfl,rfl,trivial⟩,rfl,rfl,rfl,rfl,rfl,rfl,rfl,rfl,rfl⟩
set_option maxHeartbeats 8000000 in
theorem growLtl_fn (n:Nat) (hn:n≤1000000):FnOk false Tryz.prog tab cn 190 [.nils,.d (.int .i64 n)] 0 0 [] (fun _ r H=>r = .row 0∧H=[(0,.row 74 4 [])]):=by
 refine co _ Tryz.func190 rfl rfl (by kernel_rfl) ?_
 intro O w0 E0 β0
 by_cases h0:n=0
 ·subst h0
  repeat' (first|refine z0 ?_|apply ag|apply ae|refine z16 ?_|apply ai|refine z19 ?_|apply aa)
  all_goals try (exfalso;omega)
  refine il (ee rfl rfl) rfl rfl ?_
  repeat' (first|refine z0 ?_|apply ag|apply ae|refine z16 ?_|apply ai|refine z19 ?_|apply aa)
  all_goals try (exfalso;omega)
  refine ba (ea (t:=4) 74 4 rfl) ?_
  repeat' (apply aj)
  exact⟨.inl rfl,_,rfl,id,1,.row 0,[(0,.row 74 4 [])],rfl,⟨rfl,trivial⟩,rfl,rfl,rfl,rfl,rfl,rfl,rfl,rfl⟩
 ·repeat' (first|refine z0 ?_|apply ag|apply ae|refine z16 ?_|apply ai|refine z19 ?_|apply aa)
  all_goals try (exfalso;omega)
  refine il (ee rfl rfl) rfl rfl ?_
  repeat' (first|refine z0 ?_|apply ag|apply ae|refine z16 ?_|apply ai|apply aj|apply aa|(refine z23 ?_ ?_ <;> intro hg)|fail)
  all_goals try (exfalso;omega)
  refine il (ee rfl rfl) rfl rfl ?_
  repeat' refine z0 ?_
  all_goals try (exfalso;omega)
  refine ds_apmk (n:=n) (es:=4) (te:=74) [.int .i64 0,.int .i64 0,.int .i64 0,.slice 2 []] rfl rfl (by omega) rfl rfl rfl rfl ⟨.inl rfl,.inl rfl,.inl rfl,.inr ⟨rfl,2,rfl⟩,trivial⟩ rfl rfl (by omega) (by omega) ?_ (by unfold maxLen;omega) rfl rfl ?_
  ·show n * 48≤_
   omega
  repeat' (first|refine z0 ?_|apply ag|apply ae|refine z16 ?_|apply aa)
  all_goals try (exfalso;omega)
  refine ba (ent_cut (n:=0) 4 rfl rfl (Nat.zero_le _) rfl) ?_
  repeat' (apply aj)
  exact⟨.inl rfl,_,rfl,fun j=>match j with|0=>1|j=>j,1,.row 0,[(0,.row 74 4 [])],rfl,⟨rfl,trivial⟩,rfl,rfl,rfl,rfl,rfl,rfl,rfl,rfl⟩
set_option maxHeartbeats 8000000 in
theorem concatLtl_fn (ls:List (List (Ltl))) (h:(ls.map List.length).sum≤1000000) (h2:ls.length≤1000000):Fn 166 [.d (.slice 1 (ls.map fun l=>[.slice 4 (l.map bt)]))] (fun r=>r = .d (.slice 4 (ls.flatten.map bt))):=by
 refine ak _ Tryz.func166 rfl rfl (by kernel_rfl) ?_
 intro O w0 E0 β0
 have ll:(ls.map fun l=>[D.slice 4 (l.map bt)]).length=ls.length:=List.length_map _
 repeat' (first|refine z0 ?_|apply ag|apply ae|refine z16 ?_|apply ah|apply aa)
 refine bh (ι:=Nat) (fun i=>⟨0,[(0,.d (.slice 1 (ls.map fun l=>[.slice 4 (l.map bt)]))),(3,.d (.int .i64 (((ls.take i).map List.length).sum:Nat))),(9,.d (.slice 1 (ls.map fun l=>[.slice 4 (l.map bt)]))),(10,.d (.int .i64 ls.length)),(11,.d (.int .i64 i))],[]⟩)
  (fun i=>i≤ls.length) (fun i=>ls.length - i) 0 (Nat.zero_le _) (ap id ⟨rfl,rfl,rfl,by rw [← ll];rfl,rfl,trivial⟩ trivial rfl rfl rfl rfl rfl rfl) ?_
 intro i g1
 by_cases hi:i < ls.length
 ·have h3:=sum_takeL hi
  have h4:=sum_leL ls (i + 1)
  have h5:(ls[i].map bt).length=ls[i].length:=List.length_map _
  repeat' (first|refine z0 ?_|apply ag|apply ae|refine z16 ?_|apply ah|apply ai|apply au|refine z19 ?_|apply aa|apply aq|apply bg|refine z17 ?_|(refine z23 ?_ ?_ <;> intro hg)|fail)
  all_goals try (exfalso;omega)
  exact⟨i + 1,by omega,ap id ⟨rfl,congrArg (fun z=>SV.d (.int .i64 z)) (by rw [h3,h5];omega),rfl,rfl,rfl,trivial⟩ trivial rfl rfl rfl rfl rfl rfl,by omega⟩
 ·rw [List.take_of_length_le (by omega)]
  repeat' (first|refine z0 ?_|apply ag|apply ae|refine z16 ?_|apply ah|apply ai|apply au|refine z19 ?_|apply aa|apply aq|apply bg|refine z17 ?_|(refine z23 ?_ ?_ <;> intro hg)|fail)
  all_goals try (exfalso;omega)
  refine b8 id (growLtl_fn (ls.map List.length).sum h) rfl rfl rfl rfl trivial rfl rfl rfl rfl rfl rfl ?_ ?_
  ·rintro k2 r H2 ⟨rfl,rfl⟩;exact⟨rfl,rfl⟩
  rintro k2 r H2 ⟨rfl,rfl⟩
  change DS _ _ _ _ _ _ _ _
  repeat' (first|refine z0 ?_|apply ag|apply ae|refine z16 ?_|apply ah|apply aa)
  refine bh (ι:=Nat) (fun i=>⟨1,[(6,.row 0),(25,.d (.slice 1 (ls.map fun l=>[.slice 4 (l.map bt)]))),(26,.d (.int .i64 ls.length)),(27,.d (.int .i64 i))],[(0,.row 74 4 ((ls.take i).flatten.map bt))]⟩)
   (fun i=>i≤ls.length) (fun i=>ls.length - i) 0 (Nat.zero_le _) (ap id ⟨rfl,rfl,by rw [← ll];rfl,rfl,trivial⟩ ⟨rfl,trivial⟩ rfl rfl rfl rfl rfl rfl) ?_
  clear hi g1
  intro i g1
  by_cases hi:i < ls.length
  ·have h3:=sum_takeL hi
   have h4:=sum_leL ls (i + 1)
   have h5:(ls[i].map bt).length=ls[i].length:=List.length_map _
   have h6:((ls.take i).flatten.map bt).length=((ls.take i).map List.length).sum:=by rw [List.length_map,List.length_flatten]
   have h7:(ls.take (i + 1)).flatten=(ls.take i).flatten++ls[i]:=by rw [List.take_succ_eq_append_getElem hi,List.flatten_append];simp
   repeat' (first|refine z0 ?_|apply ag|apply ae|refine z16 ?_|apply ah|apply ai|apply au|apply aj|apply aa|apply aq|apply bg|refine z17 ?_|refine z2 ?_|(refine z23 ?_ ?_ <;> intro hg)|fail)
   all_goals try (exfalso;omega)
   exact⟨i + 1,by omega,ap (fun _=>1) ⟨rfl,rfl,rfl,rfl,trivial⟩ ⟨by rw [h7,List.map_append];rfl,trivial⟩ rfl rfl rfl rfl rfl rfl,by omega⟩
  ·rw [List.take_of_length_le (by omega)]
   repeat' (first|refine z0 ?_|apply ag|apply ae|refine z16 ?_|apply ah|apply ai|apply au|apply aa|apply aq|apply bg|refine z17 ?_|refine z2 ?_|(refine z23 ?_ ?_ <;> intro hg)|fail)
   all_goals try (exfalso;omega)
   refine ba (dp 2 rfl rfl rfl) ?_
   repeat' (apply aj)
   exact⟨.inl rfl,_,rfl,rfl,rfl⟩
set_option maxHeartbeats 8000000 in
theorem indexLtl_fn {f:FuncId} {caps:List SV} (p:Ltl→Bool) (l:List (Ltl)) (hcap:SV.lowL 0 caps=true) (hp:∀ x∈l,Fn f (elLtl x::caps) (fun r=>r = .d (.bool (p x)))):Fn 188 [.d (.slice 4 (l.map bt)),.fn f caps] (fun r=>r = .d (.int .i64 (idxF p l))):=by
 refine ak _ Tryz.func188 rfl rfl (by kernel_rfl) ?_
 intro O w0 E0 β0
 refine cp (t:=0) rfl fun hb=>?_
 repeat' (first|refine z0 ?_|apply ag|apply ae|refine z16 ?_|apply ah|apply aa)
 refine bh (ι:=Nat) (fun i=>⟨0,[(0,.d (.slice 4 (l.map bt))),(1,.fn f caps),(7,.d (.int .i64 l.length)),(8,.d (.int .i64 i))],[]⟩)
  (fun i=>i≤l.length∧∀ j (hj:j < l.length),j < i→p l[j]=false) (fun i=>l.length - i) 0 ⟨Nat.zero_le _,fun j _ h=>absurd h (Nat.not_lt_zero j)⟩
  (ap id ⟨rfl,congrArg (SV.fn f) (SV.renL_id caps).symm,by simp;rfl,rfl,trivial⟩ trivial (by simp [Sl.low,SV.low,hcap]) rfl rfl rfl rfl rfl) ?_
 rintro i ⟨h1,h2⟩
 repeat' (first|refine z0 ?_|apply ag|apply ae|refine z16 ?_|apply aa)
 refine cd rfl (fun h=>?_) (fun h=>?_)
 ·have hi:i < l.length:=by omega
  have hpx:=hp l[i] (List.getElem_mem hi)
  repeat' (first|refine z0 ?_|apply ag|apply ae|refine z16 ?_|apply ah|apply ai|apply aa|(apply im;exact rfl;exact rfl;exact rfl;exact rfl;apply hpx;exact rfl;(assumption);exact rfl;rintro _ rfl))
  refine c7 rfl (fun hb=>?_) (fun hb=>?_)
  ·repeat' (first|refine z0 ?_|apply ag|apply ae|refine z16 ?_|apply aj|apply aa|apply av|apply br)
   exact cg rfl (jh h2 hi hb).symm
  ·repeat' (first|refine z0 ?_|apply ag|refine z16 ?_|apply ai|apply aa|apply bg)
   exact⟨i + 1,⟨hi,i5 h2 hi hb⟩,ap id ⟨rfl,congrArg (SV.fn f) (SV.renL_id caps).symm,rfl,rfl,trivial⟩ trivial (by simp [Sl.low,SV.low,hcap]) rfl rfl rfl rfl rfl,by omega⟩
 ·repeat' (first|refine z0 ?_|apply ag|apply ae|refine z16 ?_|apply au|apply aj|apply aa|apply aq|refine z17 ?_|fail)
  exact cg rfl (i6 fun j hj=>h2 j hj (by omega)).symm
set_option maxHeartbeats 8000000 in
theorem next1_fn (l:Ltl):Fn 189 [elLtl l] (fun r=>r = .d (.bool (decide (l.kind=1)))):=by
 refine ak _ Tryz.func189 rfl rfl (by kernel_rfl) ?_
 intro O w0 E0 β0
 repeat' (first|refine z0 ?_|apply ag|apply ae|refine z16 ?_|apply aj|apply aa|refine z1 ?_|fail)
 exact⟨.inl rfl,_,rfl,rfl,rfl⟩
theorem idxF_findIdx {α:Type} {p:α→Bool} {l:List α} (h:l.findIdx p < l.length):idxF p l=(l.findIdx p:Nat) :=
 jh (fun j _ hj=>by have:=List.not_of_lt_findIdx hj;simpa using this) h List.findIdx_getElem
theorem findIdx_at {α:Type} {p:α→Bool} {l:List α} {i:Nat} (hi:i < l.length) (h:∀ j (_:j < l.length),j < i→p l[j]=false) (hp:p l[i]=true):l.findIdx p=i:=by
 rcases Nat.lt_trichotomy (l.findIdx p) i with h1|h1|h1
 ·have h2:=h _ (by omega) h1
  have h3:=List.findIdx_getElem (xs:=l) (p:=p) (w:=by omega)
  rw [h2] at h3;cases h3
 ·exact h1
 ·have:=List.not_of_lt_findIdx h1;rw [hp] at this;simp at this
theorem findIdx_no {α:Type} {p:α→Bool} {l:List α} (h:∀ j (_:j < l.length),p l[j]=false):¬ l.findIdx p < l.length:=fun h1=>by
 have h3:=List.findIdx_getElem (xs:=l) (p:=p) (w:=h1)
 rw [h _ h1] at h3;cases h3
theorem needT_len (l:Ltl):(needT l).length≤l.terms.length:=by
 unfold needT
 split
 ·rw [List.length_take];omega
 ·exact Nat.le_refl _
set_option maxHeartbeats 8000000 in
theorem next_fn (r:Rul) (S:List Fct) (out:List (List Int)) (e:RE) (left:List Ltl) (hok:∀ l∈left,okL S e.length l) (hl:left.length≤1000000) (hn:eu e left < left.length) (htl:∀ l∈left,l.terms.length≤3) :
  FnOk false Tryz.prog tab cn 165 [.loc 0 0,.d (.slice 4 (left.map bt))] 4 4 (pfH r S e out) (fun _ res H=>res = .d (.int .i64 (eu e left:Nat))∧H=pfH r S e out):=by
 refine co _ Tryz.func165 rfl rfl (by kernel_rfl) ?_
 intro O w0 E0 β0
 have ll:(left.map bt).length=left.length:=List.length_map _
 repeat' (first|refine z0 ?_|apply ag|apply ae|refine z16 ?_|apply ah|apply aa)
 refine bh (ι:=Nat) (fun i=>⟨4,[(0,.loc 0 0),(1,.d (.slice 4 (left.map bt))),(10,.d (.slice 4 (left.map bt))),(11,.d (.int .i64 left.length)),(12,.d (.int .i64 i))],pfH r S e out⟩)
  (fun i=>i≤left.length∧∀ j (_:j < left.length),j < i→rdyL e left[j]=false) (fun i=>left.length - i) 0 ⟨Nat.zero_le _,fun _ _ h=>by omega⟩ (ap id ⟨rfl,rfl,rfl,by rw [← ll];rfl,rfl,trivial⟩ ⟨rfl,rfl,rfl,rfl,trivial⟩ rfl rfl rfl rfl rfl rfl) ?_
 rintro i ⟨g1,g2⟩
 dsimp only at g1 g2 ⊢
 by_cases hi:i < left.length
 ·have hm:=List.getElem_mem hi
  have ho:=hok _ hm
  have h3:=htl _ hm
  have w:=values_fn r S out e (needT left[i]) (fun t ht=>ho.terms t (by unfold needT at ht;split at ht;exact List.mem_of_mem_take ht;exact ht)) (by have:=needT_len left[i];omega)
  have hr:rdyL e left[i]=(needT left[i]).all fun t=>(vOf e t).isSome:=rfl
  by_cases h4:left[i].kind=4
  ·have hc3:=ho.calc3 h4
   have lt:(left[i].terms.map bw).length=left[i].terms.length:=List.length_map _
   have hnt:needT left[i]=left[i].terms.take 2:=by unfold needT;rw [if_pos h4]
   rw [hnt] at w hr
   repeat' (first|(apply ds_slD;exact rfl;exact rfl;exact rfl;exact rfl;exact rfl;exact rfl;(refine⟨?_,?_,?_⟩ <;> (omega));((with_reducible apply hv_take);(exact dn _));exact rfl;exact rfl)|refine z0 ?_|apply ag|apply ae|refine z16 ?_|apply ah|apply ai|apply au|apply aa|apply aq|refine z17 ?_|refine z1 ?_|refine z3 ?_|(refine z23 ?_ ?_ <;> intro hg)|fail)
   all_goals try (exfalso;omega)
   (refine b8 id (w) rfl rfl rfl rfl ⟨rfl,rfl,rfl,rfl,trivial⟩ rfl rfl rfl rfl rfl rfl ?_ ?_)
   ·rintro k2 res H2 ⟨rfl,rfl⟩;split <;> exact⟨rfl,rfl⟩
   rintro k2 res H2 ⟨rfl,rfl⟩
   clear w
   cases hb:rdyL e left[i] with
   | false =>
    rw [← hr,hb,if_neg (by simp)]
    change DS _ _ _ _ _ _ _ _
    repeat' (first|refine z0 ?_|apply ag|apply ae|refine z16 ?_|apply ai|refine z19 ?_|apply aa|apply bg)
    all_goals try (exfalso;omega)
    exact⟨i + 1,⟨hi,fun j hj hji=>by
     by_cases hq:j=i
     ·subst hq;exact hb
     ·exact g2 j hj (by omega)⟩,ap id ⟨rfl,rfl,rfl,rfl,rfl,trivial⟩ ⟨rfl,rfl,rfl,rfl,trivial⟩ rfl rfl rfl rfl rfl rfl,by omega⟩
   | true =>
    have hfi:left.findIdx (rdyL e)=i:=findIdx_at hi g2 hb
    have hne:eu e left=i:=by unfold eu;rw [hfi,if_pos hi]
    rw [← hr,hb,if_pos rfl,hne]
    change DS _ _ _ _ _ _ _ _
    repeat' (first|refine z0 ?_|apply ag|apply ae|refine z16 ?_|apply aj|refine z18 ?_|apply aa|apply av|apply br)
    all_goals try (exfalso;omega)
    exact⟨.inl rfl,_,rfl,id,4,_,pfH r S e out,rfl,⟨rfl,rfl,rfl,rfl,trivial⟩,rfl,rfl,rfl,rfl,rfl,rfl,rfl,rfl⟩
  ·have hnt:needT left[i]=left[i].terms:=by unfold needT;rw [if_neg h4]
   rw [hnt] at w hr
   repeat' (first|(apply ds_slD;exact rfl;exact rfl;exact rfl;exact rfl;exact rfl;exact rfl;(refine⟨?_,?_,?_⟩ <;> (omega));((with_reducible apply hv_take);(exact dn _));exact rfl;exact rfl)|refine z0 ?_|apply ag|apply ae|refine z16 ?_|apply ah|apply ai|apply au|apply aa|apply aq|refine z17 ?_|refine z1 ?_|refine z3 ?_|(refine z23 ?_ ?_ <;> intro hg)|fail)
   all_goals try (exfalso;omega)
   (refine b8 id (w) rfl rfl rfl rfl ⟨rfl,rfl,rfl,rfl,trivial⟩ rfl rfl rfl rfl rfl rfl ?_ ?_)
   ·rintro k2 res H2 ⟨rfl,rfl⟩;split <;> exact⟨rfl,rfl⟩
   rintro k2 res H2 ⟨rfl,rfl⟩
   clear w
   cases hb:rdyL e left[i] with
   | false =>
    rw [← hr,hb,if_neg (by simp)]
    change DS _ _ _ _ _ _ _ _
    repeat' (first|refine z0 ?_|apply ag|apply ae|refine z16 ?_|apply ai|refine z19 ?_|apply aa|apply bg)
    all_goals try (exfalso;omega)
    exact⟨i + 1,⟨hi,fun j hj hji=>by
     by_cases hq:j=i
     ·subst hq;exact hb
     ·exact g2 j hj (by omega)⟩,ap id ⟨rfl,rfl,rfl,rfl,rfl,trivial⟩ ⟨rfl,rfl,rfl,rfl,trivial⟩ rfl rfl rfl rfl rfl rfl,by omega⟩
   | true =>
    have hfi:left.findIdx (rdyL e)=i:=findIdx_at hi g2 hb
    have hne:eu e left=i:=by unfold eu;rw [hfi,if_pos hi]
    rw [← hr,hb,if_pos rfl,hne]
    change DS _ _ _ _ _ _ _ _
    repeat' (first|refine z0 ?_|apply ag|apply ae|refine z16 ?_|apply aj|refine z18 ?_|apply aa|apply av|apply br)
    all_goals try (exfalso;omega)
    exact⟨.inl rfl,_,rfl,id,4,_,pfH r S e out,rfl,⟨rfl,rfl,rfl,rfl,trivial⟩,rfl,rfl,rfl,rfl,rfl,rfl,rfl,rfl⟩
 ·have hno:¬ left.findIdx (rdyL e) < left.length:=findIdx_no fun j hj=>g2 j hj (by omega)
  have hne:eu e left=left.findIdx fun l=>decide (l.kind=1):=by unfold eu;rw [if_neg hno]
  rw [hne] at hn ⊢
  have w:=indexLtl_fn (caps:=[]) (f:=189) (fun l=>decide (l.kind=1)) left rfl (fun x _=>next1_fn x)
  rw [idxF_findIdx hn] at w
  repeat' (first|(apply ds_slD;exact rfl;exact rfl;exact rfl;exact rfl;exact rfl;exact rfl;(refine⟨?_,?_,?_⟩ <;> (omega));((with_reducible apply hv_take);(exact dn _));exact rfl;exact rfl)|refine z0 ?_|apply ag|apply ae|refine z16 ?_|apply ah|apply ai|apply au|apply aj|apply aa|apply aq|refine z17 ?_|refine z21 ?_ (hc:=by apply w)|refine z1 ?_|refine z3 ?_|(refine z23 ?_ ?_ <;> intro hg)|fail)
  all_goals try (exfalso;omega)
  exact⟨.inl rfl,_,rfl,id,4,_,pfH r S e out,rfl,⟨rfl,rfl,rfl,rfl,trivial⟩,rfl,rfl,rfl,rfl,rfl,rfl,rfl,rfl⟩
end Go.Proofs.YtapciiffpnociaaGreat
namespace Go.Proofs.YtapciiffpnociaaGreat
open Go Go.RowKit
section
variable {Γ : Ctx} {k : Nat → Prop} {L : Sl} {H : Hp} {a : Act} {w : World} {e : Env} {t t' ty : TypeId} {x y : Operand}
theorem op_append_rowR [NoDr Γ] {d z:Nat} {te t2 tb:TypeId} {pos:String} {af:Array Edge} {g:Option (Nat × Bool)} {i j es:Nat} {xs ys:List (List D)}
  (hz':¬ k z) (ht:Γ.sh t = .slice te) (hkn:(Γ.sh te).known=true) (hes:Γ.cells te=es) (hpos:Nat.blt 0 es=true) (hz:Nat.beq (ay Γ.τ te).zero.length (Γ.cells te)=true)
  (hx:a8 L x = .row i) (hH:Hp.get H i=some (.row te es xs)) (hy:a8 L y = .row j) (hHj:Hp.get H j=some (.row tb es ys)) (hd:Nat.blt d Γ.n=true)
  (hroom:(xs.length + ys.length) * (ay Γ.τ te).bytes≤140737488355328) (h63:xs.length + ys.length≤maxLen) :
  OpOk Γ ⟨some d,.call { callee:=.builtin .append,args:=#[x,y],argTypes:=#[t,t] },t2,pos,af,g⟩ k L H (kq k z) ((d,.row z)::L) ((z,.row te es (xs++ys))::Hp.del H i):=by
 intro e a w Q m
 have hze:¬ e.dom z:=fun h=>hz' ((m.top z).1 h)
 obtain⟨inf,zv,hi,hzz,hs,hb,hzc⟩:=Ctx.info (Sh.known_ne hkn)
 have hut:=Ctx.slice ht
 obtain⟨_,hvx,_⟩:=evT m hx (kg · _)
 obtain⟨_,hvy,_⟩:=evT m hy (kg · _)
 obtain⟨vs,ho,hxe,hone,hrep⟩:=(m.heap _ (Hp.mem_of hH)).2
 obtain⟨us,hoy,hye,hone2,hrep2⟩:=(m.heap _ (Hp.mem_of hHj)).2
 have hsz:inf.size=es:=by rw [hs,hes]
 rw [← hsz] at ho
 have hcase:∃ v' w',(Builtin.append_ #[t,t] t2 #[e.η i,a.eval y]).run Γ.P w = .ok v' w'∧w'.ownsRow 0 te inf.size v' (xs.length + ys.length) (vs++us)∧w.grownBy w' (e.η i).ownBlock∧(∀ c,v'.ownBlock=some c→(e.η i).ownBlock=some c∨w.heap.size≤c):=by
  rcases hoy.2 with ⟨hv,hl0⟩|⟨gb,cap,cur,hv,_⟩
  ·have hys:ys=[]:=List.eq_nil_of_length_eq_zero hl0
   have hu0:us=[]:=List.eq_nil_of_length_eq_zero (by rw [hoy.1,hl0,Nat.zero_mul])
   rw [hvy,hv,hys,hu0]
   have hrun:=run_append_owned_none (P:=Γ.P) (w:=w) 0 t t2 te inf inf.size hut hi (e.η i) xs.length vs ho
   exact⟨e.η i,w,hrun,by simpa using ho,⟨rfl,rfl,rfl,Nat.le_refl _,fun _ _ _=>rfl⟩,fun c hc=>.inl hc⟩
  ·have hcells:∀ j u,us[j]? = some u→w.cell? ((⟨gb,0,none⟩:Addr).add j)=some u:=hoy.cells (g:=gb) (by rw [hv];rfl)
   rw [hvy,hv]
   exact append_own (P:=Γ.P) (ty:=t2) hut hi hzz (Ctx.zsize hzc hz hs) (by rw [hsz];exact Nat.le_of_ble_eq_true hpos) ho (c:=cap) (by rw [hoy.1,hsz]) hcells hone2 h63 (by rw [hb];exact hroom)
 obtain⟨v',w',hrun,hown',hgr,hblk⟩:=hcase
 have hop:(execOp a.eval ⟨some d,.call { callee:=.builtin .append,args:=#[x,y],argTypes:=#[t,t] },t2,pos,af,g⟩).run Γ.P w = .ok (.value v') w':=by
  simp only [execOp,resolve,invoke,builtin,Sem.run_bind,Sem.run_pure,Result.andThen_ok,List.map_toArray,List.map_cons,List.map_nil,hvx,hrun]
 unfold Oper.wp
 rw [hop]
 have hη:(e.bindRow z v').η z=v':=if_pos rfl
 have hl:=ho.1
 have m2:=m.trade (hb:=.row te es (xs++ys)) hH hz' (e':=e.bindRow z v') (w':=w') (fun i=>or_congr (m.top i) Iff.rfl) (e.bindRow_ext _ _ hze) hgr.size hgr.os hgr.tape hgr.output NoDr.any
  (fun c hc hne=>hgr.block c hc (fun h=>hne (by simp [HB.owned,h]))) (fun c hc=>by simp only [HB.owned,hη] at hc;exact hblk c hc) (fun hX=>by
   have hkeep:∀ b,b < w.heap.size→¬ Γ.X e H b→w'.heap[b]? = w.heap[b]?:=fun b hb hx=>hgr.block b hb (fun h=>hx (.inr (List.mem_filterMap.2 ⟨_,Hp.mem_of hH,by simp [HB.owned,h]⟩)))
   obtain⟨q1,q2⟩:=rows_append hxe hye (by rw [hl,hsz]) hrep hrep2
   refine⟨vs++us,?_,q1,fun v hv=>?_,fun i' hi' j hj=>?_⟩
   ·rw [hη,List.length_append,← hsz];exact hown'
   ·rcases List.mem_append.1 hv with hv|hv
    ·exact hone v hv
    ·exact hone2 v hv
   ·obtain⟨v,p1,p2⟩:=q2 i' hi' j hj
    exact⟨v,p1,RepC.keep hgr.size hkeep hX p2⟩)
 exact⟨_,m2.put (s:=.row z) (v:=v') (Nat.le_of_ble_eq_true hd) ⟨.inr rfl,hη.symm,ownsRow_one hown'⟩⟩
end
section
variable {Γ : Ctx} {k : Nat} {L : Sl} {H : Hp} {K : cq} {ops : List Oper} {rest : List Oper} {t t' ty : TypeId} {x y : Operand}
theorem ds_append_rowR [NoDr Γ] (j:Nat) {d:Nat} {te t2 tb:TypeId} {pos:String} {af:Array Edge} {g:Option (Nat × Bool)} {i es:Nat} {xs ys:List (List D)} {H':Hp}
  (ht:Γ.sh t = .slice te) (hkn:(Γ.sh te).known=true) (hes:Γ.cells te=es) (hpos:Nat.blt 0 es=true) (hz:Nat.beq (ay Γ.τ te).zero.length (Γ.cells te)=true)
  (hx:a8 L x = .row i) (hH:Hp.get H i=some (.row te es xs)) (hy:a8 L y = .row j) (hHj:Hp.get H j=some (.row tb es ys)) (hw:bf ops L g=some true) (hd:Nat.blt d Γ.n=true)
  (hroom:(xs.length + ys.length) * (ay Γ.τ te).bytes≤140737488355328) (h63:xs.length + ys.length≤maxLen) (hD:delF H i some=some H')
  (hk:DS false Γ ops rest K (k + 1) ((d,.row k)::L) ((k,.row te es (xs++ys))::H')) :
  DS false Γ ops (⟨some d,.call { callee:=.builtin .append,args:=#[x,y],argTypes:=#[t,t] },t2,pos,af,g⟩::rest) K k L H:=by
 rw [mg] at hD
 simp only [Option.some.injEq] at hD
 subst hD
 exact dl_op hw ((op_append_rowR (f5 k) ht hkn hes hpos hz hx hH hy hHj hd hroom h63).cast (fe k)) hk
theorem ds_eqnilR {d i es:Nat} {te tb:TypeId} {pos:String} {af:Array Edge} {g:Option (Nat × Bool)} {xs:List (List D)} (hx:a8 L x = .row i) (hH:Hp.get H i=some (.row tb es xs)) (hy:a8 L y = .nils) (ht:(ay Γ.τ t).sh = .slice te) (hd:Nat.blt d Γ.n=true) (hw:bf ops L g=some true)
  (h1:xs=[]→DS false Γ ops rest K k ((d,.d (.bool true))::L) H) (h2:DS false Γ ops rest K k ((d,.d (.bool false))::L) H):DS false Γ ops (⟨some d,.binOp .eql t x y t',ty,pos,af,g⟩::rest) K k L H:=by
 refine gl hw fun e a w m=>?_
 obtain⟨_,hvx,_⟩:=evT m hx (kg · _)
 obtain⟨us,hown,_⟩:=(m.heap _ (Hp.mem_of hH)).2
 have hvy:a.eval y = .slice none 0 0:=by
  have hok:opOk y:=by
   cases y with
   | const v=>simp only [a8] at hy;unfold cSV at hy;split at hy <;> simp_all [opOk,cOk]
   | _=>trivial
  have:=m.op y hok
  rw [hy] at this;exact this
 have hv:∃ ao n cap,e.η i = .slice ao n cap∧(ao=none→xs=[]):=by
  rcases hown.2 with ⟨hv,h0⟩|⟨gb,cap,cur,hv,_⟩
  ·exact⟨_,_,_,hv,fun _=>List.eq_nil_of_length_eq_zero h0⟩
  ·exact⟨_,_,_,hv,fun h=>by cases h⟩
 obtain⟨ao,n,cap,hv,hnone⟩:=hv
 have hrun:(execOp a.eval ⟨some d,.binOp .eql t x y t',ty,pos,af,g⟩).run Γ.P w = .ok (.value (.bool ao.isNone)) w:=by
  simp [execOp,hvx,hv,hvy,eqGuard,Lib.run_eql_slice_nil w t te ao n cap 0 0 (Ctx.slice ht)]
 unfold Oper.wp
 rw [hrun]
 cases ao with
 | none=>exact⟨k,_,H,e,m.put (s:=.d (.bool true)) (v:=.bool true) (Nat.le_of_ble_eq_true hd) .bool,h1 (hnone rfl)⟩
 | some ad=>exact⟨k,_,H,e,m.put (s:=.d (.bool false)) (v:=.bool false) (Nat.le_of_ble_eq_true hd) .bool,h2⟩
end
end Go.Proofs.YtapciiffpnociaaGreat
