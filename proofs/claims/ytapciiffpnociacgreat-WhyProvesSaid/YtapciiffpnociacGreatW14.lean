/- Several texts in one: RuA RuQ RuB RuR RuC RuD. Condition: none. -/
import Derived.Test.YtapciiffpnociacGreatW13
import Derived.Test.YtapciiffpnociacGreatW09
namespace Go.Proofs.YtapciiffpnociacGreat
open Go Go.RowKit
theorem numB_iff {n:Int}:numB n=true↔-1000000≤n∧n≤1000000:=by unfold numB inR;simp
theorem mul_small {a b:Int} (ha:-1000000≤a∧a≤1000000) (hb:-1000000≤b∧b≤1000000):-1000000000000≤a * b∧a * b≤1000000000000:=by
 have h1:a.natAbs≤1000000:=by omega
 have h2:b.natAbs≤1000000:=by omega
 have h3:(a * b).natAbs≤1000000 * 1000000:=by rw [Int.natAbs_mul];exact Nat.mul_le_mul h1 h2
 omega
attribute [local irreducible] DW DS DL DQ Ev FnOk FnP thenD b7 DT
set_option maxHeartbeats 8000000 in
theorem calcOf_fn (op a b:Int) (ha:-1000000≤a∧a≤1000000) (hb:-1000000≤b∧b≤1000000):Fn 55 [.d (.int .i64 op),.d (.int .i64 a),.d (.int .i64 b)] (fun r=>r = .d (.int .i64 (calcE op a b))):=by
 refine au _ Tryz.func55 rfl rfl (by kernel_rfl) ?_
 intro O w0 E0 β0
 have hm:=mul_small ha hb
 unfold calcE
 by_cases h5:op=5
 ·rw [if_pos h5]
  repeat' (first|refine z0 ?_|apply ag|apply ae|refine z16 ?_|apply ai|apply ak|apply aa|apply av|(refine z23 ?_ ?_ <;> intro hg)|fail)
  all_goals try (exfalso;omega)
  all_goals exact⟨.inl rfl,_,rfl,rfl,rfl⟩
 ·rw [if_neg h5]
  by_cases h6:op=6
  ·rw [if_pos h6]
   repeat' (first|refine z0 ?_|apply ag|apply ae|refine z16 ?_|apply ai|apply ak|apply aa|apply av|(refine z23 ?_ ?_ <;> intro hg)|fail)
   all_goals try (exfalso;omega)
   all_goals exact⟨.inl rfl,_,rfl,rfl,rfl⟩
  ·rw [if_neg h6]
   repeat' (first|refine z0 ?_|apply ag|apply ae|refine z16 ?_|apply ai|apply ak|apply aa|apply av|(refine z23 ?_ ?_ <;> intro hg)|fail)
   all_goals try (exfalso;omega)
   exact⟨.inl rfl,_,rfl,rfl,rfl⟩
set_option maxHeartbeats 8000000 in
theorem isReady_fn (l:List Trm) (bs:List Bool) (hok:∀ t∈l,okT bs.length t):Fn 201 [.d (.slice 2 (l.map bm)),.d (.slice 1 (bs.map cu))] (fun r=>r = .d (.bool (l.all (isT bs)))):=by
 refine au _ Tryz.func201 rfl rfl (by kernel_rfl) ?_
 intro O w0 E0 β0
 have ll:(l.map bm).length=l.length:=List.length_map _
 have lb:(bs.map cu).length=bs.length:=List.length_map _
 refine dw_len (t:=0) rfl (fun hk=>?_)
 repeat' (first|refine z0 ?_|apply ag|apply ae|refine z16 ?_|apply ah|apply aa)
 refine bh (ι:=Nat) (fun i=>⟨0,[(0,.d (.slice 2 (l.map bm))),(1,.d (.slice 1 (bs.map cu))),(5,.d (.int .i64 i))],[]⟩)
  (fun i=>i≤l.length∧l.all (isT bs)=(l.drop i).all (isT bs)) (fun i=>l.length - i) 0 ⟨Nat.zero_le _,rfl⟩ (aj id ⟨rfl,rfl,rfl,trivial⟩ trivial rfl rfl rfl rfl rfl rfl) ?_
 rintro i ⟨g1,g2⟩
 dsimp only at g1 g2 ⊢
 by_cases hi:i < l.length
 ·have ho:=hok l[i] (List.getElem_mem hi)
  unfold okT at ho
  rw [List.drop_eq_getElem_cons hi,List.all_cons] at g2
  by_cases hv:l[i].var < 0
  ·have ht:isT bs l[i]=true:=by unfold isT;rw [decide_eq_true hv];rfl
   rw [ht,Bool.true_and] at g2
   repeat' (first|refine z0 ?_|refine z12 ?_|apply ag|apply ae|refine z16 ?_|apply ah|apply ai|apply aq|refine z19 ?_|apply aa|apply ap|apply aw|refine z17 ?_|(refine z23 ?_ ?_ <;> intro hg)|(apply bu;exact rfl;all_goals intro hg)|((fail_if_success (apply a8;exact rfl));apply a6;exact rfl;exact rfl;exact rfl;all_goals intro hg))
   all_goals try (exfalso;omega)
   all_goals exact⟨i + 1,⟨hi,g2⟩,aj id ⟨rfl,rfl,rfl,trivial⟩ trivial rfl rfl rfl rfl rfl rfl,by omega⟩
  ·have hlt:l[i].var.toNat < bs.length:=by omega
   have hve:l[i].var=((l[i].var.toNat:Nat):Int):=by omega
   have ht:isT bs l[i]=bs[l[i].var.toNat]:=by
    unfold isT
    rw [decide_eq_false hv,Bool.false_or,List.getD,List.getElem?_eq_getElem hlt];rfl
   rw [ht] at g2
   cases hb:bs[l[i].var.toNat] with
   | false =>
    rw [hb,Bool.false_and] at g2
    rw [g2]
    repeat' (first|refine z0 ?_|refine z12 ?_|apply ag|apply ae|refine z16 ?_|apply ah|apply ai|apply aq|apply ak|refine z19 ?_|apply aa|apply ap|apply av|apply aw|apply bq|refine z17 ?_|(refine z23 ?_ ?_ <;> intro hg)|(apply bu;exact rfl;all_goals intro hg)|((fail_if_success (apply a8;exact rfl));apply a6;exact rfl;exact rfl;exact rfl;all_goals intro hg))
    all_goals try (exfalso;omega)
    all_goals try (exfalso;rw [hb] at hg;cases hg;done)
    exact⟨.inl rfl,_,rfl,rfl,rfl⟩
   | true =>
    rw [hb,Bool.true_and] at g2
    repeat' (first|refine z0 ?_|refine z12 ?_|apply ag|apply ae|refine z16 ?_|apply ah|apply ai|apply aq|refine z19 ?_|apply aa|apply ap|apply aw|refine z17 ?_|(refine z23 ?_ ?_ <;> intro hg)|(apply bu;exact rfl;all_goals intro hg)|((fail_if_success (apply a8;exact rfl));apply a6;exact rfl;exact rfl;exact rfl;all_goals intro hg))
    all_goals try (exfalso;omega)
    all_goals try (exfalso;rw [hb] at hg;cases hg;done)
    exact⟨i + 1,⟨hi,g2⟩,aj id ⟨rfl,rfl,rfl,trivial⟩ trivial rfl rfl rfl rfl rfl rfl,by omega⟩
 ·rw [List.drop_of_length_le (by omega)] at g2
  rw [g2]
  repeat' (first|refine z0 ?_|refine z12 ?_|apply ag|apply ae|refine z16 ?_|apply ah|apply ai|apply aq|apply ak|refine z19 ?_|apply aa|apply ap|apply av|apply aw|apply bq|refine z17 ?_|(refine z23 ?_ ?_ <;> intro hg)|(apply bu;exact rfl;all_goals intro hg)|((fail_if_success (apply a8;exact rfl));apply a6;exact rfl;exact rfl;exact rfl;all_goals intro hg))
  all_goals try (exfalso;omega)
  exact⟨.inl rfl,_,rfl,rfl,rfl⟩
set_option maxHeartbeats 8000000 in
theorem isReadyR_fn (l:List Trm) (bs:List Bool) (hok:∀ t∈l,okT bs.length t):FnOk false Tryz.prog tab b8 201 [.d (.slice 2 (l.map bm)),.row 0] 1 1 [(0,.row 4 1 (bs.map cu))] (fun _ r H=>r = .d (.bool (l.all (isT bs)))∧H=[(0,.row 4 1 (bs.map cu))]):=by
 refine cr _ Tryz.func201 rfl rfl (by kernel_rfl) ?_
 intro O w0 E0 β0
 have ll:(l.map bm).length=l.length:=List.length_map _
 have lb:(bs.map cu).length=bs.length:=List.length_map _
 refine dw_len (t:=0) rfl (fun hk=>?_)
 repeat' (first|refine z0 ?_|apply ag|apply ae|refine z16 ?_|apply ah|apply aa)
 refine bh (ι:=Nat) (fun i=>⟨1,[(0,.d (.slice 2 (l.map bm))),(1,.row 0),(5,.d (.int .i64 i))],[(0,.row 4 1 (bs.map cu))]⟩)
  (fun i=>i≤l.length∧l.all (isT bs)=(l.drop i).all (isT bs)) (fun i=>l.length - i) 0 ⟨Nat.zero_le _,rfl⟩ (aj id ⟨rfl,rfl,rfl,trivial⟩ ⟨rfl,trivial⟩ rfl rfl rfl rfl rfl rfl) ?_
 rintro i ⟨g1,g2⟩
 dsimp only at g1 g2 ⊢
 by_cases hi:i < l.length
 ·have ho:=hok l[i] (List.getElem_mem hi)
  unfold okT at ho
  rw [List.drop_eq_getElem_cons hi,List.all_cons] at g2
  by_cases hv:l[i].var < 0
  ·have ht:isT bs l[i]=true:=by unfold isT;rw [decide_eq_true hv];rfl
   rw [ht,Bool.true_and] at g2
   repeat' (first|refine z0 ?_|refine z12 ?_|apply ag|apply ae|refine z16 ?_|apply ah|apply ai|apply aq|refine z19 ?_|apply aa|apply ap|apply aw|refine z17 ?_|(refine z23 ?_ ?_ <;> intro hg)|(apply bu;exact rfl;all_goals intro hg)|((fail_if_success (apply a8;exact rfl));apply a6;exact rfl;exact rfl;exact rfl;all_goals intro hg))
   all_goals try (exfalso;omega)
   all_goals exact⟨i + 1,⟨hi,g2⟩,aj id ⟨rfl,rfl,rfl,trivial⟩ ⟨rfl,trivial⟩ rfl rfl rfl rfl rfl rfl,by omega⟩
  ·have hlt:l[i].var.toNat < bs.length:=by omega
   have hve:l[i].var=((l[i].var.toNat:Nat):Int):=by omega
   have ht:isT bs l[i]=bs[l[i].var.toNat]:=by
    unfold isT
    rw [decide_eq_false hv,Bool.false_or,List.getD,List.getElem?_eq_getElem hlt];rfl
   rw [ht] at g2
   cases hb:bs[l[i].var.toNat] with
   | false =>
    rw [hb,Bool.false_and] at g2
    rw [g2]
    repeat' (first|refine z0 ?_|refine z12 ?_|apply ag|apply ae|refine z16 ?_|apply ah|apply ai|apply aq|apply ak|refine z19 ?_|apply aa|apply ap|apply av|apply aw|apply bq|refine z17 ?_|(refine z23 ?_ ?_ <;> intro hg)|(apply bu;exact rfl;all_goals intro hg)|((fail_if_success (apply a8;exact rfl));apply a6;exact rfl;exact rfl;exact rfl;all_goals intro hg))
    all_goals try (exfalso;omega)
    all_goals try (exfalso;rw [hb] at hg;cases hg;done)
    exact⟨.inl rfl,_,rfl,id,1,_,[(0,.row 4 1 (bs.map cu))],rfl,⟨rfl,trivial⟩,rfl,rfl,rfl,rfl,rfl,rfl,rfl,rfl⟩
   | true =>
    rw [hb,Bool.true_and] at g2
    repeat' (first|refine z0 ?_|refine z12 ?_|apply ag|apply ae|refine z16 ?_|apply ah|apply ai|apply aq|refine z19 ?_|apply aa|apply ap|apply aw|refine z17 ?_|(refine z23 ?_ ?_ <;> intro hg)|(apply bu;exact rfl;all_goals intro hg)|((fail_if_success (apply a8;exact rfl));apply a6;exact rfl;exact rfl;exact rfl;all_goals intro hg))
    all_goals try (exfalso;omega)
    all_goals try (exfalso;rw [hb] at hg;cases hg;done)
    exact⟨i + 1,⟨hi,g2⟩,aj id ⟨rfl,rfl,rfl,trivial⟩ ⟨rfl,trivial⟩ rfl rfl rfl rfl rfl rfl,by omega⟩
 ·rw [List.drop_of_length_le (by omega)] at g2
  rw [g2]
  repeat' (first|refine z0 ?_|refine z12 ?_|apply ag|apply ae|refine z16 ?_|apply ah|apply ai|apply aq|apply ak|refine z19 ?_|apply aa|apply ap|apply av|apply aw|apply bq|refine z17 ?_|(refine z23 ?_ ?_ <;> intro hg)|(apply bu;exact rfl;all_goals intro hg)|((fail_if_success (apply a8;exact rfl));apply a6;exact rfl;exact rfl;exact rfl;all_goals intro hg))
  all_goals try (exfalso;omega)
  exact⟨.inl rfl,_,rfl,id,1,_,[(0,.row 4 1 (bs.map cu))],rfl,⟨rfl,trivial⟩,rfl,rfl,rfl,rfl,rfl,rfl,rfl,rfl⟩
set_option maxHeartbeats 8000000 in
theorem argsOf_fn (l:List Trm) (a:List Int) (hok:∀ t∈l,okT a.length t) (hl:l.length≤4398046511104):Fn 54 [.d (.slice 2 (l.map bm)),.d (.slice 1 (a.map bf))] (fun r=>r = .d (.slice 1 ((l.map (vA a)).map bf))):=by
 refine au _ Tryz.func54 rfl rfl (by kernel_rfl) ?_
 intro O w0 E0 β0
 have ll:(l.map bm).length=l.length:=List.length_map _
 have la:(a.map bf).length=a.length:=List.length_map _
 repeat' (first|refine z0 ?_|apply ag|apply ae|refine z16 ?_|apply ah|apply aa)
 refine bl (ent_nilrow (t:=5) 3 1 rfl) ?_
 refine bh (ι:=Nat) (fun i=>⟨1,[(0,.d (.slice 2 (l.map bm))),(1,.d (.slice 1 (a.map bf))),(5,.row 0),(6,.d (.int .i64 i))],(0,.row 3 1 (((l.take i).map (vA a)).map bf))::[]⟩)
  (fun i=>i≤l.length) (fun i=>l.length - i) 0 (Nat.zero_le _) (aj id ⟨rfl,rfl,rfl,rfl,trivial⟩ ⟨rfl,trivial⟩ rfl rfl rfl rfl rfl rfl) ?_
 intro i g1
 by_cases hi:i < l.length
 ·have ho:=hok l[i] (List.getElem_mem hi)
  unfold okT at ho
  have lr:(((l.take i).map (vA a)).map bf).length=i:=by rw [List.length_map,List.length_map,List.length_take];omega
  have hst:((l.take (i + 1)).map (vA a)).map bf=((l.take i).map (vA a)).map bf++[bf (vA a l[i])]:=by rw [List.take_succ_eq_append_getElem hi,List.map_append,List.map_append];rfl
  by_cases hv:l[i].var < 0
  ·have ht:vA a l[i]=l[i].n:=by unfold vA;rw [if_pos hv]
   rw [ht] at hst
   repeat' (first|refine z0 ?_|apply ag|apply ae|refine z16 ?_|apply ah|apply ai|apply aq|apply aa|apply ap|apply aw|refine z17 ?_|refine z4 ?_|refine z2 ?_|(refine z23 ?_ ?_ <;> intro hg)|fail)
   all_goals try (exfalso;omega)
   exact⟨i + 1,by omega,aj (fun _=>1) ⟨rfl,rfl,rfl,rfl,trivial⟩ ⟨by rw [hst];rfl,trivial⟩ rfl rfl rfl rfl rfl rfl,by omega⟩
  ·have hlt:l[i].var.toNat < a.length:=by omega
   have ht:vA a l[i]=a[l[i].var.toNat]:=by
    unfold vA
    rw [if_neg hv,List.getD,List.getElem?_eq_getElem hlt];rfl
   rw [ht] at hst
   repeat' (first|refine z0 ?_|apply ag|apply ae|refine z16 ?_|apply ah|apply ai|apply aq|apply aa|apply ap|apply aw|refine z17 ?_|refine z4 ?_|refine z2 ?_|(refine z23 ?_ ?_ <;> intro hg)|fail)
   all_goals try (exfalso;omega)
   exact⟨i + 1,by omega,aj (fun _=>1) ⟨rfl,rfl,rfl,rfl,trivial⟩ ⟨by rw [hst];rfl,trivial⟩ rfl rfl rfl rfl rfl rfl,by omega⟩
 ·rw [List.take_of_length_le (by omega)]
  repeat' (first|refine z0 ?_|apply ag|apply ae|refine z16 ?_|apply ah|apply ai|apply aq|apply aa|apply ap|apply aw|refine z17 ?_|refine z4 ?_|refine z2 ?_|(refine z23 ?_ ?_ <;> intro hg)|fail)
  all_goals try (exfalso;omega)
  refine bl (cg 4 rfl rfl rfl) ?_
  repeat' (apply ak)
  exact⟨.inl rfl,_,rfl,rfl,rfl⟩
set_option maxHeartbeats 8000000 in
theorem argsOfR_fn (l:List Trm) (a:List Int) (hok:∀ t∈l,okT a.length t) (hl:l.length≤4398046511104):FnOk false Tryz.prog tab b8 54 [.d (.slice 2 (l.map bm)),.row 0] 1 1 [(0,.row 3 1 (a.map bf))] (fun _ r H=>r = .d (.slice 1 ((l.map (vA a)).map bf))∧H=[(0,.row 3 1 (a.map bf))]):=by
 refine cr _ Tryz.func54 rfl rfl (by kernel_rfl) ?_
 intro O w0 E0 β0
 have ll:(l.map bm).length=l.length:=List.length_map _
 have la:(a.map bf).length=a.length:=List.length_map _
 repeat' (first|refine z0 ?_|apply ag|apply ae|refine z16 ?_|apply ah|apply aa)
 refine bl (ent_nilrow (t:=5) 3 1 rfl) ?_
 refine bh (ι:=Nat) (fun i=>⟨2,[(0,.d (.slice 2 (l.map bm))),(1,.row 0),(5,.row 1),(6,.d (.int .i64 i))],(1,.row 3 1 (((l.take i).map (vA a)).map bf))::[(0,.row 3 1 (a.map bf))]⟩)
  (fun i=>i≤l.length) (fun i=>l.length - i) 0 (Nat.zero_le _) (aj id ⟨rfl,rfl,rfl,rfl,trivial⟩ ⟨rfl,⟨rfl,trivial⟩⟩ rfl rfl rfl rfl rfl rfl) ?_
 intro i g1
 by_cases hi:i < l.length
 ·have ho:=hok l[i] (List.getElem_mem hi)
  unfold okT at ho
  have lr:(((l.take i).map (vA a)).map bf).length=i:=by rw [List.length_map,List.length_map,List.length_take];omega
  have hst:((l.take (i + 1)).map (vA a)).map bf=((l.take i).map (vA a)).map bf++[bf (vA a l[i])]:=by rw [List.take_succ_eq_append_getElem hi,List.map_append,List.map_append];rfl
  by_cases hv:l[i].var < 0
  ·have ht:vA a l[i]=l[i].n:=by unfold vA;rw [if_pos hv]
   rw [ht] at hst
   repeat' (first|refine z0 ?_|apply ag|apply ae|refine z16 ?_|apply ah|apply ai|apply aq|apply aa|apply ap|apply aw|refine z17 ?_|refine z4 ?_|refine z2 ?_|(refine z23 ?_ ?_ <;> intro hg)|fail)
   all_goals try (exfalso;omega)
   exact⟨i + 1,by omega,aj (fun j=>match j with|1=>2|j=>j) ⟨rfl,rfl,rfl,rfl,trivial⟩ ⟨by rw [hst];rfl,⟨rfl,trivial⟩⟩ rfl rfl rfl rfl rfl rfl,by omega⟩
  ·have hlt:l[i].var.toNat < a.length:=by omega
   have ht:vA a l[i]=a[l[i].var.toNat]:=by
    unfold vA
    rw [if_neg hv,List.getD,List.getElem?_eq_getElem hlt];rfl
   rw [ht] at hst
   repeat' (first|refine z0 ?_|apply ag|apply ae|refine z16 ?_|apply ah|apply ai|apply aq|apply aa|apply ap|apply aw|refine z17 ?_|refine z4 ?_|refine z2 ?_|(refine z23 ?_ ?_ <;> intro hg)|fail)
   all_goals try (exfalso;omega)
   exact⟨i + 1,by omega,aj (fun j=>match j with|1=>2|j=>j) ⟨rfl,rfl,rfl,rfl,trivial⟩ ⟨by rw [hst];rfl,⟨rfl,trivial⟩⟩ rfl rfl rfl rfl rfl rfl,by omega⟩
 ·rw [List.take_of_length_le (by omega)]
  repeat' (first|refine z0 ?_|apply ag|apply ae|refine z16 ?_|apply ah|apply ai|apply aq|apply aa|apply ap|apply aw|refine z17 ?_|refine z4 ?_|refine z2 ?_|(refine z23 ?_ ?_ <;> intro hg)|fail)
  all_goals try (exfalso;omega)
  refine bl (cg 4 rfl rfl rfl) ?_
  repeat' (apply ak)
  exact⟨.inl rfl,_,rfl,id,1,_,[(0,.row 3 1 (a.map bf))],rfl,⟨rfl,trivial⟩,rfl,rfl,rfl,rfl,rfl,rfl,rfl,rfl⟩
def needT (l:Ltl):List Trm:=if l.kind=4 then l.terms.take 2 else l.terms
def rdyL (e:RE) (l:Ltl):Bool:=(needT l).all fun t=>(vOf e t).isSome
def nextE (e:RE) (left:List Ltl):Nat:=if left.findIdx (rdyL e) < left.length then left.findIdx (rdyL e) else left.findIdx fun l=>decide (l.kind=1)
def litW (S:List Fct) (go:RE→List (List Int)) (l:Ltl) (e:RE):List (List Int) :=
 if l.kind=1 then S.flatMap fun x=>if x.pred=l.pred then (match cn e l.terms x.args with|some e'=>go e'|none=>[]) else []
 else if l.kind=4 then (if numB (calcL l (bz e)) then (match cn e (l.terms.drop 2) [calcL l (bz e)] with|some e'=>go e'|none=>[]) else [])
 else if holdE S l (bz e) then go e else []
def findE (S:List Fct):Nat→List Ltl→RE→List (List Int)
 | _,[],e=>[bz e]
 | 0,_::_,_=>[]
 | k + 1,l0::ls,e=>match (l0::ls)[nextE e (l0::ls)]? with
  | none=>[]
  | some l=>litW S (findE S k ((l0::ls).eraseIdx (nextE e (l0::ls)))) l e
theorem mem_erase {α:Type} {l:List α} {i:Nat} (h:i < l.length) (x:α):x∈l↔x=l[i]∨x∈l.eraseIdx i:=by
 rw [List.mem_eraseIdx_iff_getElem]
 constructor
 ·intro hx
  obtain⟨j,hj,rfl⟩:=List.mem_iff_getElem.1 hx
  by_cases hq:j=i
  ·subst hq;exact .inl rfl
  ·exact .inr ⟨j,hj,hq,rfl⟩
 ·rintro (rfl|⟨j,hj,_,rfl⟩)
  ·exact List.getElem_mem h
  ·exact List.getElem_mem hj
theorem next_lt {S:List Fct} {e:RE} {left:List Ltl} (h0:left≠[]) (hok:∀ l∈left,okL S e.length l) (hB:Bd left (b5 e)):nextE e left < left.length:=by
 unfold nextE
 split
 ·assumption
 ·rename_i h1
  refine List.findIdx_lt_length_of_exists ?_
  apply Classical.byContradiction
  intro h2
  have h1':∀ l∈left,rdyL e l=false:=by
   intro l hl
   cases h:rdyL e l with
   | false=>rfl
   | true=>exact absurd (List.findIdx_lt_length_of_exists ⟨l,hl,h⟩) h1
  have hcl:closedB left (b5 e):=by
   intro l hl hf
   exfalso
   unfold cd at hf
   rw [Bool.or_eq_true,Bool.and_eq_true] at hf
   rcases hf with hf|⟨hf,hg⟩
   ·exact h2 ⟨l,hl,hf⟩
   ·have:=h1' l hl
    unfold rdyL needT at this
    rw [if_pos (of_decide_eq_true hf)] at this
    have hg':(l.terms.take 2).all (fun t=>(vOf e t).isSome)=true:=by
     rw [List.all_eq_true] at hg ⊢
     intro t ht
     rw [← isT_hasE];exact hg t ht
    rw [hg'] at this;cases this
  have hfull:=hB _ (leB.refl _) hcl
  obtain⟨l,hl⟩:=List.exists_mem_of_ne_nil left h0
  have:=h1' l hl
  unfold rdyL at this
  have hall:(needT l).all (fun t=>(vOf e t).isSome)=true:=by
   rw [List.all_eq_true]
   intro t ht
   refine full_some hfull ((hok l hl).terms t ?_)
   unfold needT at ht
   split at ht
   ·exact List.mem_of_mem_take ht
   ·exact ht
  rw [hall] at this;cases this
theorem next_is {e:RE} {left:List Ltl} (h:nextE e left < left.length):rdyL e (left[nextE e left])=true∨(left[nextE e left]).kind=1:=by
 unfold nextE at h ⊢
 split
 ·left;exact List.findIdx_getElem
 ·rename_i h1
  rw [if_neg h1] at h
  right
  have:=List.findIdx_getElem (xs:=left) (p:=fun l=>decide (l.kind=1)) (w:=h)
  exact of_decide_eq_true this
theorem Bd_rest {left:List Ltl} {i:Nat} (hi:i < left.length) {bs cs:List Bool} (hB:Bd left bs) (hle:leB bs cs) (hd:(∀ t∈litTs left[i],isT cs t=true)∨∀ ds,cd ds left[i]=false):Bd (left.eraseIdx i) cs:=by
 intro ds h1 h2
 refine hB ds (hle.trans h1) fun l hl hf t ht=>?_
 rcases (mem_erase hi l).1 hl with rfl|hl
 ·rcases hd with hd|hd
  ·exact isT_mono h1 (hd t ht)
  ·rw [hd ds] at hf;cases hf
 ·exact h2 l hl hf t ht
theorem holdE_calc {S:List Fct} {l:Ltl} {a:List Int} (h4:l.kind=4) (h3:l.terms.length=3):holdE S l a=true↔numB (calcL l a)=true∧(l.terms.drop 2).map (vA a)=[calcL l a]:=by
 unfold holdE
 rw [if_neg (by omega),if_neg (by omega),if_neg (by omega),Bool.and_eq_true,decide_eq_true_eq]
 match hl:l.terms,h3 with
 | [t1,t2,t3],_ =>
  simp only [List.map_cons,List.map_nil,List.drop_succ_cons,List.drop_zero,List.getD_cons_succ,List.getD_cons_zero,List.cons.injEq,and_true]
  exact and_congr Iff.rfl eq_comm
theorem calcL_same {l:Ltl} {e:RE} {a:List Int} (h:extE e a) (h3:l.terms.length=3) (hr:∀ t∈l.terms.take 2,(vOf e t).isSome=true):calcL l a=calcL l (bz e):=by
 unfold calcL
 match hl:l.terms,h3 with
 | [t1,t2,t3],_ =>
  rw [hl] at hr
  simp only [List.map_cons,List.getD_cons_zero,List.getD_cons_succ]
  rw [vA_same h (hr t1 (by simp)),vA_same h (hr t2 (by simp))]
theorem litW_mem {S:List Fct} {go:RE→List (List Int)} {l:Ltl} {e:RE} (hok:okL S e.length l) (hr:rdyL e l=true∨l.kind=1) (a:List Int) {P:List Int→Prop}
  (hgo:∀ e',e'.length=e.length→leB (b5 e) (b5 e')→((∀ t∈litTs l,isT (b5 e') t=true)∨∀ ds,cd ds l=false)→(a∈go e'↔extE e' a∧P a)) :
  a∈litW S go l e↔(extE e a∧holdE S l a=true)∧P a:=by
 unfold litW
 by_cases h1:l.kind=1
 ·rw [if_pos h1,List.mem_flatMap]
  have hlit:litTs l=l.terms:=by unfold litTs;rw [if_pos h1]
  have hho:holdE S l a=true↔(⟨l.pred,l.terms.map (vA a)⟩:Fct)∈S:=by unfold holdE;rw [if_pos h1,hasF_iff]
  constructor
  ·rintro⟨x,hx,ha⟩
   split at ha
   ·rename_i hp
    have hlen:=(hok.facts h1 x hx hp).symm
    split at ha
    ·rename_i e' he'
     obtain⟨g1,g2,g3⟩:=matchE_some hlen hok.terms he'
     have g4:=(hgo e' g1 (by rw [g3];exact setTs_le _ _) (.inl (by rw [hlit,g3];exact setTs_is (by rw [cp];exact hok.terms)))).1 ha
     obtain⟨g5,g6⟩:=(g2 a).1 g4.1
     refine⟨⟨g5,hho.2 ?_⟩,g4.2⟩
     rw [g6,← hp];exact hx
    ·simp at ha
   ·simp at ha
  ·rintro⟨⟨ha,hh⟩,hP⟩
   refine⟨_,hho.1 hh,?_⟩
   rw [if_pos rfl]
   have hlen:l.terms.length=(l.terms.map (vA a)).length:=(List.length_map _).symm
   cases he':cn e l.terms (l.terms.map (vA a)) with
   | none=>exact absurd rfl (matchE_none hlen hok.terms he' a ha)
   | some e' =>
    obtain⟨g1,g2,g3⟩:=matchE_some hlen hok.terms he'
    exact (hgo e' g1 (by rw [g3];exact setTs_le _ _) (.inl (by rw [hlit,g3];exact setTs_is (by rw [cp];exact hok.terms)))).2 ⟨(g2 a).2 ⟨ha,rfl⟩,hP⟩
 ·rw [if_neg h1]
  have hr:=hr.resolve_right h1
  unfold rdyL needT at hr
  by_cases h4:l.kind=4
  ·rw [if_pos h4] at hr ⊢
   have h3:=hok.calc3 h4
   have hr':∀ t∈l.terms.take 2,(vOf e t).isSome=true:=List.all_eq_true.1 hr
   have hdl:(l.terms.drop 2).length=[calcL l (bz e)].length:=by rw [List.length_drop,h3];rfl
   have hdo:∀ t∈l.terms.drop 2,okT e.length t:=fun t ht=>hok.terms t (List.mem_of_mem_drop ht)
   have hlit:litTs l=l.terms.drop 2:=by unfold litTs;rw [if_neg h1]
   rw [holdE_calc h4 h3]
   constructor
   ·intro ha
    split at ha
    ·rename_i hn
     split at ha
     ·rename_i e' he'
      obtain⟨g1,g2,g3⟩:=matchE_some hdl hdo he'
      have g4:=(hgo e' g1 (by rw [g3];exact setTs_le _ _) (.inl (by rw [hlit,g3];exact setTs_is (by rw [cp];exact hdo)))).1 ha
      obtain⟨g5,g6⟩:=(g2 a).1 g4.1
      rw [calcL_same g5 h3 hr']
      exact⟨⟨g5,hn,g6⟩,g4.2⟩
     ·simp at ha
    ·simp at ha
   ·rintro⟨⟨ha,hn,hm⟩,hP⟩
    rw [calcL_same ha h3 hr'] at hn hm
    rw [if_pos hn]
    cases he':cn e (l.terms.drop 2) [calcL l (bz e)] with
    | none=>exact absurd hm (matchE_none hdl hdo he' a ha)
    | some e' =>
     obtain⟨g1,g2,g3⟩:=matchE_some hdl hdo he'
     exact (hgo e' g1 (by rw [g3];exact setTs_le _ _) (.inl (by rw [hlit,g3];exact setTs_is (by rw [cp];exact hdo)))).2 ⟨(g2 a).2 ⟨ha,hm⟩,hP⟩
  ·rw [if_neg h4] at hr ⊢
   have hr':∀ t∈l.terms,(vOf e t).isSome=true:=List.all_eq_true.1 hr
   have hnf:∀ ds,cd ds l=false:=fun ds=>by unfold cd;rw [decide_eq_false h1,decide_eq_false h4];rfl
   have hg:=hgo e rfl (leB.refl _) (.inr hnf)
   constructor
   ·intro ha
    split at ha
    ·rename_i hh
     obtain⟨g1,g2⟩:=hg.1 ha
     exact⟨⟨g1,by rw [holdE_same g1 hr'];exact hh⟩,g2⟩
    ·simp at ha
   ·rintro⟨⟨ha,hh⟩,hP⟩
    rw [if_pos (by rw [← holdE_same ha hr'];exact hh)]
    exact hg.2 ⟨ha,hP⟩
theorem findE_mem (S:List Fct):∀ (k:Nat) (left:List Ltl) (e:RE),left.length≤k→(∀ l∈left,okL S e.length l)→Bd left (b5 e)→∀ a,a∈findE S k left e↔extE e a∧∀ l∈left,holdE S l a=true
 | k,[],e,_,_,hB,a=>by
  have h:findE S k [] e=[bz e]:=by cases k <;> rfl
  rw [h,List.mem_singleton,full_out (hB _ (leB.refl _) (by intro l hl;simp at hl))]
  simp
 | 0,_::_,_,hk,_,_,_=>by simp at hk
 | k + 1,l0::ls,e,hk,hok,hB,a=>by
  have hlt:=next_lt (by simp) hok hB
  have hnx:=next_is hlt
  rw [findE]
  generalize hi:nextE e (l0::ls)=i at hlt hnx
  rw [List.getElem?_eq_getElem hlt]
  generalize hL:l0::ls=left at *
  have hlen:(left.eraseIdx i).length≤k:=by rw [List.length_eraseIdx,if_pos hlt];omega
  have hsub:∀ l∈left.eraseIdx i,l∈left:=fun l hl=>(mem_erase hlt l).2 (.inr hl)
  simp only
  rw [litW_mem (P:=fun a=>∀ l∈left.eraseIdx i,holdE S l a=true) (hok _ (List.getElem_mem hlt)) hnx a fun e' g1 g2 g3=>findE_mem S k (left.eraseIdx i) e' hlen (fun l hl=>by rw [g1];exact hok l (hsub l hl)) (Bd_rest hlt hB g2 g3) a]
  constructor
  ·rintro⟨⟨g1,g2⟩,g3⟩
   exact⟨g1,fun l hl=>((mem_erase hlt l).1 hl).elim (fun h=>h▸g2) (g3 l)⟩
  ·rintro⟨g1,g2⟩
   exact⟨⟨g1,g2 _ (List.getElem_mem hlt)⟩,fun l hl=>g2 l (hsub l hl)⟩
theorem litW_nodup {S:List Fct} {go:RE→List (List Int)} {l:Ltl} {e:RE} (hS:S.Nodup) (hok:okL S e.length l) (hgo:∀ e',e'.length=e.length→leB (b5 e) (b5 e')→((∀ t∈litTs l,isT (b5 e') t=true)∨∀ ds,cd ds l=false)→(go e').Nodup∧∀ a∈go e',extE e' a):(litW S go l e).Nodup:=by
 unfold litW
 by_cases h1:l.kind=1
 ·rw [if_pos h1]
  have hlit:litTs l=l.terms:=by unfold litTs;rw [if_pos h1]
  have key:∀ x∈S,x.pred=l.pred→∀ e',cn e l.terms x.args=some e'→(go e').Nodup∧∀ a∈go e',l.terms.map (vA a)=x.args:=by
   intro x hx hp e' he'
   obtain⟨g1,g2,g3⟩:=matchE_some (hok.facts h1 x hx hp).symm hok.terms he'
   obtain⟨g4,g5⟩:=hgo e' g1 (by rw [g3];exact setTs_le _ _) (.inl (by rw [hlit,g3];exact setTs_is (by rw [cp];exact hok.terms)))
   exact⟨g4,fun a ha=>((g2 a).1 (g5 a ha)).2⟩
  refine List.pairwise_flatMap.2 ⟨fun x hx=>?_,hS.imp_of_mem fun {x y} hx hy hne u hu v hv=>?_⟩
  ·split
   ·rename_i hp
    split
    ·rename_i e' he';exact (key x hx hp e' he').1
    ·exact .nil
   ·exact .nil
  ·rintro rfl
   split at hu
   ·rename_i hp
    split at hu
    ·rename_i e' he'
     split at hv
     ·rename_i hq
      split at hv
      ·rename_i f' hf'
       have g1:=(key x hx hp e' he').2 u hu
       have g2:=(key y hy hq f' hf').2 u hv
       apply hne
       obtain⟨xp,xa⟩:=x
       obtain⟨yp,ya⟩:=y
       simp only at hp hq g1 g2
       rw [hp,hq,← g1,← g2]
      ·simp at hv
     ·simp at hv
    ·simp at hu
   ·simp at hu
 ·rw [if_neg h1]
  by_cases h4:l.kind=4
  ·rw [if_pos h4]
   have h3:=hok.calc3 h4
   have hdl:(l.terms.drop 2).length=[calcL l (bz e)].length:=by rw [List.length_drop,h3];rfl
   have hdo:∀ t∈l.terms.drop 2,okT e.length t:=fun t ht=>hok.terms t (List.mem_of_mem_drop ht)
   have hlit:litTs l=l.terms.drop 2:=by unfold litTs;rw [if_neg h1]
   split
   ·split
    ·rename_i e' he'
     obtain⟨g1,g2,g3⟩:=matchE_some hdl hdo he'
     exact (hgo e' g1 (by rw [g3];exact setTs_le _ _) (.inl (by rw [hlit,g3];exact setTs_is (by rw [cp];exact hdo)))).1
    ·exact .nil
   ·exact .nil
  ·rw [if_neg h4]
   have hnf:∀ ds,cd ds l=false:=fun ds=>by unfold cd;rw [decide_eq_false h1,decide_eq_false h4];rfl
   split
   ·exact (hgo e rfl (leB.refl _) (.inr hnf)).1
   ·exact .nil
theorem findE_nodup (S:List Fct) (hS:S.Nodup):∀ (k:Nat) (left:List Ltl) (e:RE),left.length≤k→(∀ l∈left,okL S e.length l)→Bd left (b5 e)→(findE S k left e).Nodup
 | k,[],e,_,_,_=>by
  have h:findE S k [] e=[bz e]:=by cases k <;> rfl
  rw [h];exact List.nodup_cons.2 ⟨by simp,.nil⟩
 | 0,_::_,_,hk,_,_=>by simp at hk
 | k + 1,l0::ls,e,hk,hok,hB=>by
  have hlt:=next_lt (by simp) hok hB
  rw [findE]
  generalize hi:nextE e (l0::ls)=i at hlt
  rw [List.getElem?_eq_getElem hlt]
  generalize hL:l0::ls=left at *
  have hlen:(left.eraseIdx i).length≤k:=by rw [List.length_eraseIdx,if_pos hlt];omega
  have hsub:∀ l∈left.eraseIdx i,l∈left:=fun l hl=>(mem_erase hlt l).2 (.inr hl)
  exact litW_nodup hS (hok _ (List.getElem_mem hlt)) fun e' g1 g2 g3=>⟨findE_nodup S hS k _ e' hlen (fun l hl=>by rw [g1];exact hok l (hsub l hl)) (Bd_rest hlt hB g2 g3),
   fun a ha=>((findE_mem S k _ e' hlen (fun l hl=>by rw [g1];exact hok l (hsub l hl)) (Bd_rest hlt hB g2 g3) a).1 ha).1⟩
set_option maxHeartbeats 8000000 in
theorem litHolds_fn (S:List Fct) (l:Ltl) (a:List Int) (hok:okL S a.length l) (hop:l.kind=3→1≤l.op∧l.op≤4) (hn:l.kind=4→∀ t∈l.terms,-1000000≤vA a t∧vA a t≤1000000) (hl:l.terms.length≤4398046511104) :
  Fn 16 [elLtl l,.d (.slice 1 (a.map bf)),.d (.slice 2 (S.map ay))] (fun r=>r = .d (.bool (holdE S l a))):=by
 have w1:=argsOf_fn l.terms a hok.terms hl
 have w2:=hasFact_fn S ⟨l.pred,l.terms.map (vA a)⟩
 have hk:=hok.kind
 have ht2:=hok.test2
 have ht3:=hok.calc3
 clear hok
 obtain⟨kind,op,pred,terms⟩:=l
 dsimp only [elLtl] at *
 refine au _ Tryz.func16 rfl rfl (by kernel_rfl) ?_
 intro O w0 E0 β0
 have hk4:kind=1∨kind=2∨kind=3∨kind=4:=by omega
 rcases hk4 with rfl|rfl|rfl|rfl
 ·have hh:holdE S ⟨1,op,pred,terms⟩ a=hasF S ⟨pred,terms.map (vA a)⟩:=rfl
  rw [hh]
  repeat' (first|refine z0 ?_|apply ag|apply ae|refine z16 ?_|apply ah|apply ak|refine z18 ?_|apply aa|apply av|apply bq|refine z21 ?_ (hc:=by apply w1)|refine z21 ?_ (hc:=by apply w2)|refine z1 ?_|fail)
  exact⟨.inl rfl,_,rfl,rfl,rfl⟩
 ·have hh:holdE S ⟨2,op,pred,terms⟩ a = !hasF S ⟨pred,terms.map (vA a)⟩:=rfl
  rw [hh]
  repeat' (first|refine z0 ?_|apply ag|apply ae|refine z16 ?_|apply ah|apply ak|refine z18 ?_|refine z19 ?_|apply aa|apply av|apply bq|refine z21 ?_ (hc:=by apply w1)|refine z21 ?_ (hc:=by apply w2)|refine z1 ?_|fail)
  exact⟨.inl rfl,_,rfl,rfl,rfl⟩
 ·have hh:holdE S ⟨3,op,pred,terms⟩ a=testE op ((terms.map (vA a)).getD 0 0) ((terms.map (vA a)).getD 1 0):=rfl
  rw [hh]
  clear hh w2 hn ht3
  match terms,ht2 rfl with
  | [t1,t2],_ =>
   simp only [List.map_cons,List.map_nil,List.getD_cons_zero,List.getD_cons_succ] at w1 ⊢
   generalize vA a t1=x at w1 ⊢
   generalize vA a t2=y at w1 ⊢
   have ho4:op=1∨op=2∨op=3∨op=4:=by have:=hop rfl;omega
   clear hop
   rcases ho4 with rfl|rfl|rfl|rfl
   ·have hh:testE 1 x y=decide (x < y):=rfl
    rw [hh]
    repeat' (first|refine z0 ?_|apply ag|refine z5 ?_|refine z14 ?_|refine z10 ?_|apply ae|refine z16 ?_|refine z20 ?_|apply ah|apply ak|refine z18 ?_|refine z19 ?_|apply aa|apply av|apply bq|refine z21 ?_ (hc:=by apply w1)|refine z1 ?_|((fail_if_success (apply dt_known;exact rfl));apply c8;exact rfl;exact rfl;exact rfl;all_goals intro hg))
    all_goals first
     | exact⟨.inl rfl,_,rfl,rfl,rfl⟩
     | exact db rfl (by simp_all)
   ·have hh:testE 2 x y=decide (x≤y):=rfl
    rw [hh]
    repeat' (first|refine z0 ?_|apply ag|refine z5 ?_|refine z14 ?_|refine z10 ?_|apply ae|refine z16 ?_|refine z20 ?_|apply ah|apply ak|refine z18 ?_|refine z19 ?_|apply aa|apply av|apply bq|refine z21 ?_ (hc:=by apply w1)|refine z1 ?_|((fail_if_success (apply dt_known;exact rfl));apply c8;exact rfl;exact rfl;exact rfl;all_goals intro hg))
    all_goals first
     | exact⟨.inl rfl,_,rfl,rfl,rfl⟩
     | exact db rfl (by simp_all)
   ·have hh:testE 3 x y=decide (x=y):=rfl
    rw [hh]
    repeat' (first|refine z0 ?_|apply ag|refine z5 ?_|refine z14 ?_|refine z10 ?_|apply ae|refine z16 ?_|refine z20 ?_|apply ah|apply ak|refine z18 ?_|refine z19 ?_|apply aa|apply av|apply bq|refine z21 ?_ (hc:=by apply w1)|refine z1 ?_|((fail_if_success (apply dt_known;exact rfl));apply c8;exact rfl;exact rfl;exact rfl;all_goals intro hg))
    all_goals first
     | exact⟨.inl rfl,_,rfl,rfl,rfl⟩
     | exact db rfl (by simp_all)
   ·have hh:testE 4 x y=decide (x≠y):=rfl
    rw [hh]
    repeat' (first|refine z0 ?_|apply ag|refine z5 ?_|refine z14 ?_|refine z10 ?_|apply ae|refine z16 ?_|refine z20 ?_|apply ah|apply ak|refine z18 ?_|refine z19 ?_|apply aa|apply av|apply bq|refine z21 ?_ (hc:=by apply w1)|refine z1 ?_|fail)
    all_goals first
     | exact⟨.inl rfl,_,rfl,rfl,rfl⟩
     | exact db rfl (by simp_all)
 ·have hh:holdE S ⟨4,op,pred,terms⟩ a=(numB (calcE op ((terms.map (vA a)).getD 0 0) ((terms.map (vA a)).getD 1 0)) && decide (calcE op ((terms.map (vA a)).getD 0 0) ((terms.map (vA a)).getD 1 0)=(terms.map (vA a)).getD 2 0)):=rfl
  rw [hh]
  have hn:=hn rfl
  clear hh w2 hop ht2
  match terms,ht3 rfl with
  | [t1,t2,t3],_ =>
   have n1:=hn t1 (by simp)
   have n2:=hn t2 (by simp)
   simp only [List.map_cons,List.map_nil,List.getD_cons_zero,List.getD_cons_succ] at w1 ⊢
   generalize vA a t1=x at w1 n1 ⊢
   generalize vA a t2=y at w1 n2 ⊢
   generalize vA a t3=z at w1 ⊢
   have w3:=calcOf_fn op x y n1 n2
   have w4:=sisNumber_fn (calcE op x y)
   cases hb:numB (calcE op x y) with
   | false =>
    rw [hb] at w4
    repeat' (first|refine z0 ?_|refine z12 ?_|apply ag|refine z5 ?_|refine z10 ?_|apply ae|refine z16 ?_|refine z20 ?_|apply ah|apply ai|apply ak|refine z19 ?_|apply aa|apply aw|refine z21 ?_ (hc:=by apply w1)|refine z22 ?_ (hc:=by apply w3)|refine z21 ?_ (hc:=by apply w4)|refine z1 ?_|fail)
    exact⟨.inl rfl,_,rfl,rfl,rfl⟩
   | true =>
    rw [hb] at w4
    repeat' (first|refine z0 ?_|apply ag|refine z5 ?_|refine z10 ?_|apply ae|refine z16 ?_|refine z20 ?_|apply ah|apply ai|apply ak|refine z19 ?_|apply aa|apply aw|refine z21 ?_ (hc:=by apply w1)|refine z22 ?_ (hc:=by apply w3)|refine z21 ?_ (hc:=by apply w4)|refine z1 ?_|fail)
    exact⟨.inl rfl,_,rfl,rfl,rfl⟩
def recL (e:RE) (l:Ltl):Option RE :=
 if l.kind=4∧(l.terms.take 2).all (fun t=>(vOf e t).isSome)=true∧(l.terms.drop 2).all (fun t=>(vOf e t).isSome)=false then
  (if numB (calcL l (bz e)) then some ((l.terms.drop 2).foldl (fun e t=>e.set t.var.toNat (some (calcL l (bz e)))) e) else none)
 else some e
def recP (body:List Ltl) (e:RE):Option RE:=body.foldlM recL e
def recN (body:List Ltl):Nat→RE→Option RE
 | 0,e=>some e
 | n + 1,e=>(recP body e).bind (recN body n)
def wrongE (S:List Fct) (body:List Ltl) (e:RE):Bool:=body.any fun l=>l.terms.all (fun t=>(vOf e t).isSome) && !holdE S l (bz e)
def fromE (S:List Fct) (body:List Ltl):List Ltl→RE→List (List Int)
 | [],e=>match recN body (body.length + 1) e with
  | none=>[]
  | some e'=>if wrongE S body e' then [] else [bz e']
 | l::ys,e=>match recN body (body.length + 1) e with
  | none=>[]
  | some e'=>if wrongE S body e' then [] else litW S (fromE S body ys) l e'
theorem drop2 {l:Ltl} (h3:l.terms.length=3):∃ t1 t2 t3,l.terms=[t1,t2,t3]:=by
 match h:l.terms,h3 with
 | [t1,t2,t3],_=>exact⟨t1,t2,t3,rfl⟩
theorem recL_some {S:List Fct} {e e':RE} {l:Ltl} (hok:okL S e.length l) (h:recL e l=some e') :
  e'.length=e.length∧(∀ a,holdE S l a=true→(extE e' a↔extE e a))∧b5 e' = (if l.kind=4 then bLit (b5 e) l else b5 e)∧∀ a,extE e' a→extE e a:=by
 unfold recL at h
 by_cases h4:l.kind=4
 ·have h3:=hok.calc3 h4
  obtain⟨t1,t2,t3,hT⟩:=drop2 h3
  have o3:okT e.length t3:=hok.terms t3 (by rw [hT];simp)
  have hdr:l.terms.drop 2=[t3]:=by rw [hT];rfl
  have hlit:litTs l=[t3]:=by unfold litTs;rw [if_neg (by omega),hdr]
  rw [if_pos h4]
  by_cases h12:(l.terms.take 2).all (fun t=>(vOf e t).isSome)=true
  ·have hfire:cd (b5 e) l=true:=by
    unfold cd
    rw [decide_eq_true h4,Bool.true_and,Bool.or_eq_true]
    right
    rw [List.all_eq_true] at h12 ⊢
    intro t ht
    rw [isT_hasE];exact h12 t ht
   have hbl:bLit (b5 e) l=setT (b5 e) t3:=by unfold bLit;rw [if_pos hfire,hlit];rfl
   cases hv:vOf e t3 with
   | some x =>
    rw [if_neg (by rw [hdr];simp [hv])] at h
    simp only [Option.some.injEq] at h
    subst h
    exact⟨rfl,fun a _=>Iff.rfl,by rw [hbl,setT_same (by rw [isT_hasE,hv];rfl)],fun a ha=>ha⟩
   | none =>
    rw [if_pos ⟨h4,h12,by rw [hdr];simp [hv]⟩] at h
    split at h
    ·rw [hdr] at h
     simp only [List.foldl_cons,List.foldl_nil,Option.some.injEq] at h
     subst h
     have hx:=fun a=>set_ext' (a:=a) (n:=calcL l (bz e)) o3 hv
     refine⟨List.length_set ..,fun a ha=>?_,by rw [set_has hv,hbl],fun a ha=>((hx a).1 ha).1⟩
     rw [hx a]
     refine⟨fun g=>g.1,fun g=>⟨g,?_⟩⟩
     have:=((holdE_calc h4 h3).1 ha).2
     rw [hdr,calcL_same g h3 (List.all_eq_true.1 h12)] at this
     simpa using this
    ·cases h
  ·rw [if_neg (by rintro⟨_,g,_⟩;exact h12 g)] at h
   simp only [Option.some.injEq] at h
   subst h
   refine⟨rfl,fun a _=>Iff.rfl,?_,fun a ha=>ha⟩
   have hnf:¬ cd (b5 e) l=true:=by
    unfold cd
    rw [decide_eq_false (by omega),Bool.false_or,Bool.and_eq_true]
    rintro⟨_,g⟩
    apply h12
    rw [List.all_eq_true] at g ⊢
    intro t ht
    rw [← isT_hasE];exact g t ht
   unfold bLit;rw [if_neg hnf]
 ·rw [if_neg (by rintro⟨g,_⟩;exact h4 g)] at h
  simp only [Option.some.injEq] at h
  subst h
  rw [if_neg h4]
  exact⟨rfl,fun a _=>Iff.rfl,rfl,fun a ha=>ha⟩
theorem recL_none {S:List Fct} {e:RE} {l:Ltl} (hok:okL S e.length l) (h:recL e l=none) (a:List Int) (ha:extE e a):holdE S l a=false:=by
 unfold recL at h
 split at h
 ·rename_i hc
  obtain⟨h4,h12,_⟩:=hc
  split at h
  ·cases h
  ·rename_i hn
   have h3:=hok.calc3 h4
   cases hh:holdE S l a with
   | false=>rfl
   | true =>
    have:=((holdE_calc h4 h3).1 hh).1
    rw [calcL_same ha h3 (List.all_eq_true.1 h12)] at this
    exact absurd this hn
 ·cases h
def calcs (body:List Ltl):List Ltl:=body.filter fun l=>decide (l.kind=4)
theorem calcs_round (l:Ltl) (body:List Ltl) (bs:List Bool):bRound (calcs (l::body)) bs=bRound (calcs body) (if l.kind=4 then bLit bs l else bs):=by
 unfold calcs
 rw [List.filter_cons]
 by_cases h:l.kind=4
 ·simp only [h,decide_true,if_true];rfl
 ·simp only [h,decide_false,if_false];rfl
theorem recP_some {S:List Fct}:∀ {body:List Ltl} {e e':RE},(∀ l∈body,okL S e.length l)→recP body e=some e' →
  e'.length=e.length∧(∀ a,(∀ l∈body,holdE S l a=true)→(extE e' a↔extE e a))∧b5 e' = bRound (calcs body) (b5 e)∧∀ a,extE e' a→extE e a
 | [],e,e',_,h=>by
  simp only [recP,List.foldlM_nil] at h
  cases h
  exact⟨rfl,fun a _=>Iff.rfl,rfl,fun a ha=>ha⟩
 | l::body,e,e',hok,h=>by
  simp only [recP,List.foldlM_cons] at h
  cases h1:recL e l with
  | none=>rw [h1] at h;cases h
  | some e1 =>
   rw [h1] at h
   obtain⟨g1,g2,g3,g4⟩:=recL_some (hok l (List.mem_cons_self ..)) h1
   obtain⟨k1,k2,k3,k4⟩:=recP_some (body:=body) (e:=e1) (fun x hx=>by rw [g1];exact hok x (List.mem_cons_of_mem _ hx)) h
   refine⟨k1.trans g1,fun a ha=>?_,by rw [k3,g3,calcs_round],fun a ha=>g4 a (k4 a ha)⟩
   rw [k2 a fun x hx=>ha x (List.mem_cons_of_mem _ hx),g2 a (ha l (List.mem_cons_self ..))]
theorem recP_none {S:List Fct}:∀ {body:List Ltl} {e:RE},(∀ l∈body,okL S e.length l)→recP body e=none→∀ a,extE e a→¬ ∀ l∈body,holdE S l a=true
 | [],e,_,h,_,_,_=>by simp [recP] at h
 | l::body,e,hok,h,a,ha,hall=>by
  simp only [recP,List.foldlM_cons] at h
  cases h1:recL e l with
  | none =>
   have:=recL_none (hok l (List.mem_cons_self ..)) h1 a ha
   rw [hall l (List.mem_cons_self ..)] at this;cases this
  | some e1 =>
   rw [h1] at h
   obtain⟨g1,g2,_,_⟩:=recL_some (hok l (List.mem_cons_self ..)) h1
   exact recP_none (body:=body) (e:=e1) (fun x hx=>by rw [g1];exact hok x (List.mem_cons_of_mem _ hx)) h a ((g2 a (hall l (List.mem_cons_self ..))).2 ha) fun x hx=>hall x (List.mem_cons_of_mem _ hx)
theorem recN_some {S:List Fct} {body:List Ltl}:∀ {n:Nat} {e e':RE},(∀ l∈body,okL S e.length l)→recN body n e=some e' →
  e'.length=e.length∧(∀ a,(∀ l∈body,holdE S l a=true)→(extE e' a↔extE e a))∧b5 e' = bIter (calcs body) n (b5 e)∧∀ a,extE e' a→extE e a
 | 0,e,e',_,h=>by
  simp only [recN,Option.some.injEq] at h
  subst h
  exact⟨rfl,fun a _=>Iff.rfl,rfl,fun a ha=>ha⟩
 | n + 1,e,e',hok,h=>by
  rw [recN,Option.bind_eq_some_iff] at h
  obtain⟨e1,h1,h2⟩:=h
  obtain⟨g1,g2,g3,g4⟩:=recP_some hok h1
  obtain⟨k1,k2,k3,k4⟩:=recN_some (fun x hx=>by rw [g1];exact hok x hx) h2
  refine⟨k1.trans g1,fun a ha=>by rw [k2 a ha,g2 a ha],by rw [k3,g3];rfl,fun a ha=>g4 a (k4 a ha)⟩
theorem recN_none {S:List Fct} {body:List Ltl}:∀ {n:Nat} {e:RE},(∀ l∈body,okL S e.length l)→recN body n e=none→∀ a,extE e a→¬ ∀ l∈body,holdE S l a=true
 | 0,e,_,h,_,_,_=>by simp [recN] at h
 | n + 1,e,hok,h,a,ha,hall=>by
  rw [recN] at h
  cases h1:recP body e with
  | none=>exact recP_none hok h1 a ha hall
  | some e1 =>
   rw [h1] at h
   obtain⟨g1,g2,_,_⟩:=recP_some hok h1
   exact recN_none (fun x hx=>by rw [g1];exact hok x hx) h a ((g2 a hall).2 ha) hall
theorem recN_closed {S:List Fct} {body:List Ltl} {e e':RE} (hok:∀ l∈body,okL S e.length l) (h:recN body (body.length + 1) e=some e'):closedB (calcs body) (b5 e'):=by
 obtain⟨_,_,h3,_⟩:=recN_some hok h
 have hsub:∀ l∈calcs body,l∈body:=fun l hl=>(List.mem_filter.1 hl).1
 have hokT:∀ l∈calcs body,∀ t∈litTs l,okT (b5 e).length t:=by
  intro l hl t ht
  rw [cp]
  refine (hok l (hsub l hl)).terms t ?_
  unfold litTs at ht
  split at ht
  ·exact ht
  ·exact List.mem_of_mem_drop ht
 have hle:(calcs body).length≤body.length:=List.length_filter_le _ _
 have hr:=bRound_rest hokT
 have hfix:bRound (calcs body) (b5 e')=b5 e':=by
  obtain⟨d,hd⟩:=Nat.exists_eq_add_of_le (show (calcs body).length≤body.length + 1 by omega)
  rw [h3,hd,bIter_add,bIter_fix hr,hr]
 intro l hl hf t ht
 rw [← hfix]
 exact bRound_done (fun l hl t ht=>by
  have:=hokT l hl t ht
  rw [cp] at this ⊢
  rw [(recN_some hok h).1];exact this) l hl hf t ht
theorem wrong_false {S:List Fct} {body:List Ltl} {e:RE} {a:List Int} (ha:extE e a) (hall:∀ l∈body,holdE S l a=true):wrongE S body e=false:=by
 unfold wrongE
 rw [List.any_eq_false]
 intro l hl hc
 rw [Bool.and_eq_true,List.all_eq_true] at hc
 have:=holdE_same (S:=S) ha hc.1
 rw [hall l hl] at this
 rw [← this] at hc
 exact absurd hc.2 (by simp)
theorem fromE_spec (S:List Fct) (hS:S.Nodup) (body:List Ltl):∀ (ys:List Ltl) (e:RE),(∀ l∈ys,l∈body∧l.kind=1)→(∀ l∈body,okL S e.length l)→Bd body (b5 e)→(∀ l∈body,l.kind=1→l∈ys∨∀ t∈l.terms,isT (b5 e) t=true) →
  (∀ a,a∈fromE S body ys e↔extE e a∧∀ l∈body,holdE S l a=true)∧(fromE S body ys e).Nodup
 | [],e,_,hok,hB,hy=>by
  rw [fromE]
  cases hr:recN body (body.length + 1) e with
  | none=>exact⟨fun a=>⟨fun h=>by simp at h,fun⟨h1,h2⟩=>absurd h2 (recN_none hok hr a h1)⟩,.nil⟩
  | some e' =>
   simp only
   obtain⟨g1,g2,g3,g4⟩:=recN_some hok hr
   have hcl:=recN_closed hok hr
   have hle:leB (b5 e) (b5 e'):=by
    rw [g3]
    have:∀ n bs,leB bs (bIter (calcs body) n bs):=by
     intro n
     induction n with
     | zero=>intro bs;exact leB.refl _
     | succ n ih=>intro bs;exact (bRound_le _ _).trans (ih _)
    exact this _ _
   have hfull:∀ v,v < (b5 e').length→(b5 e').getD v false=true:=by
    refine hB _ hle fun l hl hf t ht=>?_
    by_cases h1:l.kind=1
    ·have hl1:litTs l=l.terms:=by unfold litTs;rw [if_pos h1]
     rw [hl1] at ht
     rcases hy l hl h1 with h|h
     ·simp at h
     ·exact isT_mono hle (h t ht)
    ·have h4:l.kind=4:=by
      unfold cd at hf
      rw [decide_eq_false h1,Bool.false_or,Bool.and_eq_true] at hf
      exact of_decide_eq_true hf.1
     exact hcl l (List.mem_filter.2 ⟨hl,decide_eq_true h4⟩) hf t ht
   have hsome:∀ l∈body,∀ t∈l.terms,(vOf e' t).isSome=true:=fun l hl t ht=>full_some hfull (by rw [g1];exact (hok l hl).terms t ht)
   split
   ·rename_i hw
    refine⟨fun a=>⟨fun h=>by simp at h,fun⟨h1,h2⟩=>?_⟩,.nil⟩
    rw [wrong_false ((g2 a h2).2 h1) h2] at hw;cases hw
   ·rename_i hw
    refine⟨fun a=>?_,List.nodup_cons.2 ⟨by simp,.nil⟩⟩
    rw [List.mem_singleton]
    constructor
    ·rintro rfl
     have hx:=(full_out hfull (bz e')).2 rfl
     refine⟨g4 _ hx,fun l hl=>?_⟩
     cases hh:holdE S l (bz e') with
     | true=>rfl
     | false =>
      exfalso;apply hw
      unfold wrongE
      rw [List.any_eq_true]
      exact⟨l,hl,by rw [hh,Bool.and_eq_true,List.all_eq_true];exact⟨fun t ht=>hsome l hl t ht,rfl⟩⟩
    ·rintro⟨h1,h2⟩
     exact (full_out hfull a).1 ((g2 a h2).2 h1)
 | l::ys,e,hys,hok,hB,hy=>by
  rw [fromE]
  cases hr:recN body (body.length + 1) e with
  | none=>exact⟨fun a=>⟨fun h=>by simp at h,fun⟨h1,h2⟩=>absurd h2 (recN_none hok hr a h1)⟩,.nil⟩
  | some e' =>
   simp only
   obtain⟨g1,g2,g3,g4⟩:=recN_some hok hr
   have hle:leB (b5 e) (b5 e'):=by
    rw [g3]
    have:∀ n bs,leB bs (bIter (calcs body) n bs):=by
     intro n
     induction n with
     | zero=>intro bs;exact leB.refl _
     | succ n ih=>intro bs;exact (bRound_le _ _).trans (ih _)
    exact this _ _
   obtain⟨hl,hl1⟩:=hys l (List.mem_cons_self ..)
   have hlit:litTs l=l.terms:=by unfold litTs;rw [if_pos hl1]
   split
   ·rename_i hw
    refine⟨fun a=>⟨fun h=>by simp at h,fun⟨h1,h2⟩=>?_⟩,.nil⟩
    rw [wrong_false ((g2 a h2).2 h1) h2] at hw;cases hw
   ·have ih:∀ e'',e''.length=e'.length→leB (b5 e') (b5 e'')→((∀ t∈litTs l,isT (b5 e'') t=true)∨∀ ds,cd ds l=false)→(∀ a,a∈fromE S body ys e''↔extE e'' a∧∀ l∈body,holdE S l a=true)∧(fromE S body ys e'').Nodup:=by
     intro e'' k1 k2 k3
     refine fromE_spec S hS body ys e'' (fun x hx=>hys x (List.mem_cons_of_mem _ hx)) (fun x hx=>by rw [k1,g1];exact hok x hx) (fun cs c1 c2=>hB cs ((hle.trans k2).trans c1) c2) fun x hx hx1=>?_
     rcases hy x hx hx1 with h|h
     ·rcases List.mem_cons.1 h with rfl|h
      ·right
       rcases k3 with k3|k3
       ·rw [hlit] at k3;exact k3
       ·have:=k3 []
        unfold cd at this
        rw [decide_eq_true hl1] at this
        simp at this
      ·exact .inl h
     ·exact .inr fun t ht=>isT_mono (hle.trans k2) (h t ht)
    have hok':okL S e'.length l:=by rw [g1];exact hok l hl
    refine⟨fun a=>?_,litW_nodup hS hok' fun e'' k1 k2 k3=>⟨(ih e'' k1 k2 k3).2,fun a ha=>(((ih e'' k1 k2 k3).1 a).1 ha).1⟩⟩
    rw [litW_mem (P:=fun a=>∀ l∈body,holdE S l a=true) hok' (.inr hl1) a fun e'' k1 k2 k3=>(ih e'' k1 k2 k3).1 a]
    constructor
    ·rintro⟨⟨h1,_⟩,h2⟩;exact⟨(g2 a h2).1 h1,h2⟩
    ·rintro⟨h1,h2⟩;exact⟨⟨(g2 a h2).2 h1,h2 l hl⟩,h2⟩
def encW (a:List Int):List D:=[.slice 1 (a.map bf)]
structure okB (S:List Fct) (v:Nat) (body:List Ltl):Prop where
 lit:∀ l∈body,okL S v l
 op:∀ l∈body,l.kind=3→1≤l.op∧l.op≤4
 nums:∀ l∈body,∀ t∈l.terms,-1000000≤t.n∧t.n≤1000000
 facts:∀ x∈S,∀ y∈x.args,-1000000≤y∧y≤1000000
 len:body.length≤4
 vle:v≤8
 tlen:∀ l∈body,l.terms.length≤3
def numE (e:RE):Prop:=∀ (v:Nat) (x:Int),e[v]? = some (some x)→-1000000≤x∧x≤1000000
theorem vA_num {e:RE} (h:numE e) {t:Trm} (ht:-1000000≤t.n∧t.n≤1000000):-1000000≤vA (bz e) t∧vA (bz e) t≤1000000:=by
 unfold vA bz
 split
 ·exact ht
 ·rw [List.getD,List.getElem?_map]
  cases hx:e[t.var.toNat]? with
  | none=>simp
  | some y =>
   cases y with
   | none=>simp
   | some z=>simpa using h _ _ hx
theorem all_isT (e:RE) (l:List Trm):l.all (isT (b5 e))=l.all fun t=>(vOf e t).isSome:=by
 congr 1;funext t;exact isT_hasE e t
abbrev fndB (r:Rul) (S:List Fct) (o:SV) (m:Bool):HB:=.blk 183 [.d (.int .i64 r.pred),.d (.slice 2 (r.terms.map bm)),.d (.int .i64 r.fold),.d (.slice 4 (r.body.map bp)),.d (.int .i64 r.vars),.d (.slice 2 (S.map ay)),o,.d (.bool m)]
abbrev fndH (r:Rul) (S:List Fct) (out:List (List Int)) (m:Bool):Hp:=[(0,fndB r S (.row 1) m),(1,.row 22 1 (out.map encW))]
set_option maxHeartbeats 8000000 in
theorem fwrong_fn (r:Rul) (S:List Fct) (out:List (List Int)) (m:Bool) (e:RE) (hok:okB S e.length r.body) (hn:numE e) :
  FnOk false Tryz.prog tab b8 177 [.loc 0 0,.d (.slice 1 ((bz e).map bf)),.d (.slice 1 ((b5 e).map cu))] 2 2 (fndH r S out m) (fun _ res H=>res = .d (.bool (wrongE S r.body e))∧H=fndH r S out m):=by
 refine cr _ Tryz.func177 rfl rfl (by kernel_rfl) ?_
 intro O w0 E0 β0
 have lb:(r.body.map bp).length=r.body.length:=List.length_map _
 have hb4:=hok.len
 repeat' (first|refine z0 ?_|apply ag|apply ae|refine z16 ?_|apply ah|apply aa)
 refine bh (ι:=Nat) (fun i=>⟨2,[(0,.loc 0 0),(1,.d (.slice 1 ((bz e).map bf))),(2,.d (.slice 1 ((b5 e).map cu))),(7,.d (.int .i64 i))],fndH r S out m⟩)
  (fun i=>i≤r.body.length∧wrongE S r.body e=wrongE S (r.body.drop i) e) (fun i=>r.body.length - i) 0 ⟨Nat.zero_le _,rfl⟩ (aj id ⟨rfl,rfl,rfl,rfl,trivial⟩ ⟨rfl,rfl,trivial⟩ rfl rfl rfl rfl rfl rfl) ?_
 rintro i ⟨g1,g2⟩
 dsimp only at g1 g2 ⊢
 by_cases hi:i < r.body.length
 ·have hm:=List.getElem_mem hi
  have ho:=hok.lit _ hm
  have hlen:=hok.tlen _ hm
  have w1:=isReady_fn r.body[i].terms (b5 e) (by rw [cp];exact ho.terms)
  rw [all_isT] at w1
  have w2:=litHolds_fn S r.body[i] (bz e) (by rw [outE_len];exact ho) (hok.op _ hm) (fun _ t ht=>vA_num hn (hok.nums _ hm t ht)) (by omega)
  have hst:wrongE S (r.body.drop i) e=((r.body[i].terms.all (fun t=>(vOf e t).isSome) && !holdE S r.body[i] (bz e)) || wrongE S (r.body.drop (i + 1)) e):=by
   unfold wrongE;rw [List.drop_eq_getElem_cons hi,List.any_cons]
  rw [hst] at g2
  cases hr:r.body[i].terms.all (fun t=>(vOf e t).isSome) with
  | false =>
   rw [hr] at w1 g2
   rw [Bool.false_and,Bool.false_or] at g2
   repeat' (first|refine z0 ?_|apply ag|refine z5 ?_|refine z14 ?_|refine z10 ?_|apply ae|refine z16 ?_|refine z20 ?_|apply ah|apply ai|apply aq|apply ak|refine z19 ?_|apply aa|apply ap|apply aw|refine z17 ?_|refine z22 ?_ (hc:=by apply w1)|refine z1 ?_|refine z3 ?_|(refine z23 ?_ ?_ <;> intro hg)|fail)
   all_goals try (exfalso;omega)
   exact⟨i + 1,⟨hi,g2⟩,aj id ⟨rfl,rfl,rfl,rfl,trivial⟩ ⟨rfl,rfl,trivial⟩ rfl rfl rfl rfl rfl rfl,by omega⟩
  | true =>
   rw [hr] at w1 g2
   rw [Bool.true_and] at g2
   cases hh:holdE S r.body[i] (bz e) with
   | false =>
    rw [hh] at w2 g2
    rw [Bool.not_false,Bool.true_or] at g2
    rw [g2]
    repeat' (first|refine z0 ?_|apply ag|refine z5 ?_|refine z10 ?_|apply ae|refine z16 ?_|refine z20 ?_|apply ah|apply ai|apply aq|apply ak|refine z18 ?_|apply aa|apply ap|apply av|apply bq|refine z17 ?_|refine z22 ?_ (hc:=by apply w1)|refine z22 ?_ (hc:=by apply w2)|refine z1 ?_|refine z3 ?_|(refine z23 ?_ ?_ <;> intro hg)|fail)
    all_goals try (exfalso;omega)
    exact⟨.inl rfl,_,rfl,id,2,_,fndH r S out m,rfl,⟨rfl,rfl,trivial⟩,rfl,rfl,rfl,rfl,rfl,rfl,rfl,rfl⟩
   | true =>
    rw [hh] at w2 g2
    rw [Bool.not_true,Bool.false_or] at g2
    repeat' (first|refine z0 ?_|apply ag|refine z5 ?_|refine z10 ?_|apply ae|refine z16 ?_|refine z20 ?_|apply ah|apply ai|apply aq|apply ak|refine z19 ?_|apply aa|apply ap|apply aw|refine z17 ?_|refine z22 ?_ (hc:=by apply w1)|refine z22 ?_ (hc:=by apply w2)|refine z1 ?_|refine z3 ?_|(refine z23 ?_ ?_ <;> intro hg)|fail)
    all_goals try (exfalso;omega)
    exact⟨i + 1,⟨hi,g2⟩,aj id ⟨rfl,rfl,rfl,rfl,trivial⟩ ⟨rfl,rfl,trivial⟩ rfl rfl rfl rfl rfl rfl,by omega⟩
 ·rw [List.drop_of_length_le (by omega)] at g2
  rw [g2]
  repeat' (first|refine z0 ?_|apply ag|refine z5 ?_|apply ae|refine z16 ?_|refine z20 ?_|apply ah|apply ai|apply aq|apply ak|apply aa|apply ap|refine z17 ?_|refine z1 ?_|refine z3 ?_|(refine z23 ?_ ?_ <;> intro hg)|fail)
  all_goals try (exfalso;omega)
  exact⟨.inl rfl,_,rfl,id,2,_,fndH r S out m,rfl,⟨rfl,rfl,trivial⟩,rfl,rfl,rfl,rfl,rfl,rfl,rfl,rfl⟩
theorem numE_set {e:RE} (h:numE e) {v:Nat} {n:Int} (hn:numB n=true):numE (e.set v (some n)):=by
 intro u x hx
 by_cases hq:v=u
 ·subst hq
  by_cases hl:v < e.length
  ·rw [List.getElem?_set_self hl] at hx
   simp at hx;subst hx
   exact numB_iff.1 hn
  ·rw [List.getElem?_eq_none (by rw [List.length_set];omega)] at hx;cases hx
 ·rw [List.getElem?_set_ne hq] at hx
  exact h u x hx
theorem recL_num {S:List Fct} {e e':RE} {l:Ltl} (hok:okL S e.length l) (hn:numE e) (h:recL e l=some e'):numE e':=by
 unfold recL at h
 split at h
 ·rename_i hc
  split at h
  ·rename_i hb
   obtain⟨t1,t2,t3,hT⟩:=drop2 (hok.calc3 hc.1)
   rw [hT] at h
   simp only [List.drop_succ_cons,List.drop_zero,List.foldl_cons,List.foldl_nil,Option.some.injEq] at h
   subst h
   exact numE_set hn hb
  ·cases h
 ·simp only [Option.some.injEq] at h;subst h;exact hn
theorem outE_set (e:RE) (v:Nat) (x:Int):bz (e.set v (some x))=(bz e).set v x:=by unfold bz;rw [List.map_set];rfl
theorem hasE_set (e:RE) (v:Nat) (x:Int):b5 (e.set v (some x))=(b5 e).set v true:=by unfold b5;rw [List.map_set];rfl
theorem recP_step {body:List Ltl} {i:Nat} (hi:i < body.length) (e:RE):recP (body.drop i) e=(recL e body[i]).bind (recP (body.drop (i + 1))):=by
 unfold recP;rw [List.drop_eq_getElem_cons hi,List.foldlM_cons];rfl
theorem recN_step (body:List Ltl) {n k:Nat} (h:n < k) (e:RE):recN body (k - n) e=(recP body e).bind (recN body (k - (n + 1))):=by
 rw [show k - n=(k - (n + 1)) + 1 by omega];rfl
abbrev rkH (r:Rul) (S:List Fct) (out:List (List Int)) (m:Bool) (e:RE):Hp:=[(0,fndB r S (.row 3) m),(1,.row 3 1 ((bz e).map bf)),(2,.row 4 1 ((b5 e).map cu)),(3,.row 22 1 (out.map encW))]
def RkR (r:Rul) (S:List Fct) (out:List (List Int)) (m:Bool) (o:Option RE) (res:SV) (H:Hp):Prop:=match o with
 | some e'=>res = .d (.bool true)∧H=rkH r S out m e'
 | none=>res = .d (.bool false)∧∃ e',H=rkH r S out m e'
theorem recL_other {e:RE} {l:Ltl} (h:l.kind≠4):recL e l=some e:=by unfold recL;rw [if_neg (fun g=>h g.1)]
theorem recL_not12 {e:RE} {op pred:Int} {t1 t2 t3:Trm} (h:[t1,t2].all (isT (b5 e))=false):recL e ⟨4,op,pred,[t1,t2,t3]⟩=some e:=by
 rw [all_isT] at h
 unfold recL;rw [if_neg (fun g=>by have:=g.2.1;simp only [List.take_succ_cons,List.take_zero] at this;rw [h] at this;cases this)]
theorem recL_is3 {e:RE} {op pred:Int} {t1 t2 t3:Trm} (h:[t3].all (isT (b5 e))=true):recL e ⟨4,op,pred,[t1,t2,t3]⟩=some e:=by
 rw [all_isT] at h
 unfold recL;rw [if_neg (fun g=>by have:=g.2.2;simp only [List.drop_succ_cons,List.drop_zero] at this;rw [h] at this;cases this)]
theorem recL_new {e:RE} {op pred:Int} {t1 t2 t3:Trm} (h:[t1,t2].all (isT (b5 e))=true) (h3:[t3].all (isT (b5 e))=false):recL e ⟨4,op,pred,[t1,t2,t3]⟩=if numB (calcE op (vA (bz e) t1) (vA (bz e) t2)) then some (e.set t3.var.toNat (some (calcE op (vA (bz e) t1) (vA (bz e) t2)))) else none:=by
 rw [all_isT] at h h3
 unfold recL;rw [if_pos ⟨rfl,by simpa using h,by simpa using h3⟩];rfl
set_option maxHeartbeats 8000000 in
theorem reckon_fn (r:Rul) (S:List Fct) (out:List (List Int)) (m:Bool) (e:RE) (hok:okB S e.length r.body) (hn:numE e) :
  FnOk false Tryz.prog tab b8 176 [.loc 0 0,.row 1,.row 2] 4 4 (rkH r S out m e) (fun _ res H=>RkR r S out m (recN r.body (r.body.length + 1) e) res H):=by
 refine cr _ Tryz.func176 rfl rfl (by kernel_rfl) ?_
 intro O w0 E0 β0
 have lb:(r.body.map bp).length=r.body.length:=List.length_map _
 have hb4:=hok.len
 repeat' (first|refine z0 ?_|apply ag|apply ae|refine z16 ?_|apply ah|apply aa)
 refine bh (ι:=Nat × RE) (fun x=>⟨4,[(0,.loc 0 0),(1,.row 1),(2,.row 2),(7,.d (.int .i64 x.1))],rkH r S out m x.2⟩)
  (fun x=>x.1≤r.body.length + 1∧x.2.length=e.length∧numE x.2∧recN r.body (r.body.length + 1) e=recN r.body (r.body.length + 1 - x.1) x.2) (fun x=>r.body.length + 1 - x.1) (0,e) ⟨Nat.zero_le _,rfl,hn,rfl⟩ (aj id ⟨rfl,rfl,rfl,rfl,trivial⟩ ⟨rfl,rfl,rfl,rfl,trivial⟩ rfl rfl rfl rfl rfl rfl) ?_
 rintro⟨n,e1⟩ ⟨g1,g2,g3,g4⟩
 dsimp only at g1 g2 g3 g4 ⊢
 by_cases hnn:n < r.body.length + 1
 ·rw [recN_step r.body hnn] at g4
  repeat' (first|refine z0 ?_|apply ag|apply ae|refine z16 ?_|apply ah|apply ai|apply aq|apply ak|apply aa|apply ap|refine z17 ?_|(refine z23 ?_ ?_ <;> intro hg)|fail)
  all_goals try (exfalso;omega)
  refine bh (ι:=Nat × RE) (fun x=>⟨4,[(0,.loc 0 0),(1,.row 1),(2,.row 2),(7,.d (.int .i64 n)),(8,.d (.int .i64 x.1))],rkH r S out m x.2⟩)
   (fun x=>x.1≤r.body.length∧x.2.length=e.length∧numE x.2∧recP r.body e1=recP (r.body.drop x.1) x.2) (fun x=>r.body.length - x.1) (0,e1) ⟨Nat.zero_le _,g2,g3,rfl⟩ (aj id ⟨rfl,rfl,rfl,rfl,rfl,trivial⟩ ⟨rfl,rfl,rfl,rfl,trivial⟩ rfl rfl rfl rfl rfl rfl) ?_
  rintro⟨i,e2⟩ ⟨f1,f2,f3,f4⟩
  dsimp only at f1 f2 f3 f4 ⊢
  by_cases hi:i < r.body.length
  ·have hm:=List.getElem_mem hi
   have ho:=hok.lit _ hm
   rw [← f2] at ho
   have hlen:=hok.tlen _ hm
   have hnum:=hok.nums _ hm
   rw [recP_step hi] at f4
   repeat' ((fail_if_success (apply cv 8));(first|refine z0 ?_|apply ag|apply ae|refine z16 ?_|apply ah|apply ai|apply aq|apply aa|apply ap|apply aw|refine z17 ?_|refine z1 ?_|refine z3 ?_|(refine z23 ?_ ?_ <;> intro hg)|fail))
   all_goals try (exfalso;omega)
   refine bl (aj (k':=5) (L':=[(0,.loc 0 0),(1,.row 1),(2,.row 2),(7,.d (.int .i64 n)),(8,.d (.int .i64 i)),(9,.loc 4 0)]) (H':=(4,litB r.body[i])::rkH r S out m e2) id ⟨rfl,rfl,rfl,rfl,rfl,rfl,trivial⟩ ⟨rfl,rfl,rfl,rfl,rfl,trivial⟩ rfl rfl rfl rfl rfl rfl) ?_
   generalize r.body[i]=l at ho hlen hnum f4 ⊢
   clear hm
   have hk:=ho.kind
   have hT:=ho.terms
   have h3:=ho.calc3
   have hrn:∀ e',recL e2 l=some e'→e'.length=e.length∧numE e':=fun e' h=>⟨(recL_some ho h).1.trans f2,recL_num ho f3 h⟩
   clear ho
   obtain⟨kind,op,pred,terms⟩:=l
   dsimp only at hk hT h3 hlen hnum
   by_cases h4:kind=4
   ·subst h4
    match terms,h3 rfl with
    | [t1,t2,t3],_ =>
     have hT12:∀ t∈[t1,t2],okT (b5 e2).length t:=fun t ht=>by rw [cp];exact hT t (by simp at ht ⊢;rcases ht with rfl|rfl <;> simp)
     have hT3:∀ t∈[t3],okT (b5 e2).length t:=fun t ht=>by rw [cp];exact hT t (by simp at ht ⊢;subst ht;simp)
     have w1:=isReadyR_fn [t1,t2] (b5 e2) hT12
     have w2:=isReadyR_fn [t3] (b5 e2) hT3
     repeat' (first|(apply ds_slD;exact rfl;exact rfl;exact rfl;exact rfl;exact rfl;exact rfl;(refine⟨?_,?_,?_⟩ <;> (first|omega|(simp only [List.length_map];omega)));((with_reducible apply hv_take);(exact c7 _));exact rfl;exact rfl)|refine z0 ?_|apply ae|refine z16 ?_|fail)
     cases h12:[t1,t2].all (isT (b5 e2)) with
     | false =>
      rw [h12] at w1
      rw [recL_not12 h12] at f4
      refine bx (fun j=>match j with|0=>2|j=>j) w1 rfl rfl rfl rfl ⟨rfl,trivial⟩ rfl rfl rfl rfl rfl rfl ?_ ?_
      ·rintro k2 res H2 ⟨rfl,rfl⟩;exact⟨rfl,rfl⟩
      rintro k2 res H2 ⟨rfl,rfl⟩
      change DS _ _ _ _ _ _ _ _
      repeat' (first|refine z0 ?_|refine z12 ?_|apply ag|refine z16 ?_|apply aq|refine z18 ?_|apply aa|apply ap|refine z17 ?_|fail)
      all_goals try (exfalso;omega)
      exact⟨(i + 1,e2),⟨by dsimp only;omega,f2,f3,f4⟩,aj id ⟨rfl,rfl,rfl,rfl,rfl,trivial⟩ ⟨rfl,rfl,rfl,rfl,trivial⟩ rfl rfl rfl rfl rfl rfl,by show r.body.length - (i + 1) < r.body.length - i;omega⟩
     | true =>
      rw [h12] at w1
      refine bx (fun j=>match j with|0=>2|j=>j) w1 rfl rfl rfl rfl ⟨rfl,trivial⟩ rfl rfl rfl rfl rfl rfl ?_ ?_
      ·rintro k2 res H2 ⟨rfl,rfl⟩;exact⟨rfl,rfl⟩
      rintro k2 res H2 ⟨rfl,rfl⟩
      change DS _ _ _ _ _ _ _ _
      repeat' (first|(apply ds_slD;exact rfl;exact rfl;exact rfl;exact rfl;exact rfl;exact rfl;(refine⟨?_,?_,?_⟩ <;> (first|omega|(simp only [List.length_map];omega)));((with_reducible apply hv_drop);(exact c7 _));exact rfl;exact rfl)|refine z0 ?_|fail)
      all_goals try (exfalso;omega)
      cases h33:[t3].all (isT (b5 e2)) with
      | true =>
       rw [h33] at w2
       rw [recL_is3 h33] at f4
       refine bx (fun j=>match j with|0=>2|j=>j) w2 rfl rfl rfl rfl ⟨rfl,trivial⟩ rfl rfl rfl rfl rfl rfl ?_ ?_
       ·rintro k2 res H2 ⟨rfl,rfl⟩;exact⟨rfl,rfl⟩
       rintro k2 res H2 ⟨rfl,rfl⟩
       change DS _ _ _ _ _ _ _ _
       repeat' (first|refine z0 ?_|apply ag|refine z16 ?_|apply aq|refine z18 ?_|apply aa|apply ap|refine z17 ?_|fail)
       all_goals try (exfalso;omega)
       exact⟨(i + 1,e2),⟨by dsimp only;omega,f2,f3,f4⟩,aj id ⟨rfl,rfl,rfl,rfl,rfl,trivial⟩ ⟨rfl,rfl,rfl,rfl,trivial⟩ rfl rfl rfl rfl rfl rfl,by show r.body.length - (i + 1) < r.body.length - i;omega⟩
      | false =>
       rw [h33] at w2
       have hnew:=recL_new (op:=op) (pred:=pred) h12 h33
       refine bx (fun j=>match j with|0=>2|j=>j) w2 rfl rfl rfl rfl ⟨rfl,trivial⟩ rfl rfl rfl rfl rfl rfl ?_ ?_
       ·rintro k2 res H2 ⟨rfl,rfl⟩;exact⟨rfl,rfl⟩
       rintro k2 res H2 ⟨rfl,rfl⟩
       change DS _ _ _ _ _ _ _ _
       repeat' (first|(apply ds_slD;exact rfl;exact rfl;exact rfl;exact rfl;exact rfl;exact rfl;(refine⟨?_,?_,?_⟩ <;> (first|omega|(simp only [List.length_map];omega)));((with_reducible apply hv_take);(exact c7 _));exact rfl;exact rfl)|refine z0 ?_|apply ag|apply ae|refine z16 ?_|apply ai|refine z19 ?_|apply aa)
       all_goals try (exfalso;omega)
       have n1:=vA_num f3 (hnum t1 (by simp))
       have n2:=vA_num f3 (hnum t2 (by simp))
       have w3:=argsOfR_fn [t1,t2] (bz e2) (fun t ht=>by rw [outE_len];exact hT t (by simp at ht ⊢;rcases ht with rfl|rfl <;> simp)) (by simp)
       simp only [List.map_cons,List.map_nil] at w3
       generalize hx:vA (bz e2) t1=x at n1 w3 hnew
       generalize hy:vA (bz e2) t2=y at n2 w3 hnew
       have w4:=calcOf_fn op x y n1 n2
       have w5:=sisNumber_fn (calcE op x y)
       refine bx (fun j=>match j with|0=>1|j=>j) w3 rfl rfl rfl rfl ⟨rfl,trivial⟩ rfl rfl rfl rfl rfl rfl ?_ ?_
       ·rintro k2 res H2 ⟨rfl,rfl⟩;exact⟨rfl,rfl⟩
       rintro k2 res H2 ⟨rfl,rfl⟩
       change DS _ _ _ _ _ _ _ _
       have hv3:0≤t3.var∧t3.var < e2.length:=by
        have ht3:=hT t3 (by simp)
        unfold okT at ht3
        refine⟨?_,ht3⟩
        simp only [List.all_cons,List.all_nil,Bool.and_true] at h33
        unfold isT at h33
        simp only [Bool.or_eq_false_iff,decide_eq_false_iff_not] at h33
        omega
       have lo:((bz e2).map bf).length=e2.length:=by rw [List.length_map,outE_len]
       have lh:((b5 e2).map cu).length=e2.length:=by rw [List.length_map,cp]
       cases hb:numB (calcE op x y) with
       | false =>
        rw [hb] at w5 hnew
        have hnew:recL e2 ⟨4,op,pred,[t1,t2,t3]⟩=none:=hnew
        rw [hnew] at f4
        have f4':recP r.body e1=none:=f4
        rw [f4'] at g4
        have g4':recN r.body (r.body.length + 1) e=none:=g4
        rw [g4']
        repeat' (first|refine z0 ?_|apply ag|refine z5 ?_|refine z10 ?_|apply ae|refine z16 ?_|refine z20 ?_|apply ak|refine z18 ?_|apply aa|apply av|apply bq|refine z22 ?_ (hc:=by apply w4)|refine z21 ?_ (hc:=by apply w5)|fail)
        all_goals try (exfalso;omega)
        exact⟨.inl rfl,_,rfl,id,4,_,rkH r S out m e2,rfl,⟨rfl,rfl,rfl,rfl,trivial⟩,rfl,rfl,rfl,rfl,rfl,rfl,rfl,e2,rfl⟩
       | true =>
        rw [hb] at w5 hnew
        have hnew:recL e2 ⟨4,op,pred,[t1,t2,t3]⟩=some (e2.set t3.var.toNat (some (calcE op x y))):=hnew
        obtain⟨q1,q2⟩:=hrn _ hnew
        rw [hnew] at f4
        repeat' (first|refine z0 ?_|apply ag|(apply ds_stP;exact rfl;exact rfl;(apply hv_get;(omega));exact rfl;exact rfl;(exact hv_set rfl);exact rfl;exact rfl;exact rfl;exact rfl;exact rfl;exact rfl)|refine z5 ?_|refine z10 ?_|apply ae|refine z16 ?_|refine z20 ?_|apply ai|refine z19 ?_|apply aa|apply aw|refine z22 ?_ (hc:=by apply w4)|refine z21 ?_ (hc:=by apply w5)|fail)
        all_goals try (exfalso;omega)
        have o1:=outE_set e2 t3.var.toNat (calcE op x y)
        have o2:=hasE_set e2 t3.var.toNat (calcE op x y)
        exact⟨(i + 1,e2.set t3.var.toNat (some (calcE op x y))),⟨by dsimp only;omega,q1,q2,f4⟩,aj id ⟨rfl,rfl,rfl,rfl,rfl,trivial⟩ ⟨rfl,by rw [o1];rfl,by rw [o2];rfl,rfl,trivial⟩ rfl rfl rfl rfl rfl rfl,by show r.body.length - (i + 1) < r.body.length - i;omega⟩
   ·have hr:=recL_other (e:=e2) (l:=⟨kind,op,pred,terms⟩) h4
    rw [hr] at f4
    repeat' (first|refine z0 ?_|refine z12 ?_|apply ag|apply ae|refine z16 ?_|apply aq|refine z18 ?_|apply aa|apply ap|refine z17 ?_|((fail_if_success (apply a8;exact rfl));apply a6;exact rfl;exact rfl;exact rfl;all_goals intro hg))
    all_goals try (exfalso;omega)
    all_goals try (exfalso;exact hg h4)
    exact⟨(i + 1,e2),⟨by dsimp only;omega,f2,f3,f4⟩,aj id ⟨rfl,rfl,rfl,rfl,rfl,trivial⟩ ⟨rfl,rfl,rfl,rfl,trivial⟩ rfl rfl rfl rfl rfl rfl,by show r.body.length - (i + 1) < r.body.length - i;omega⟩
  ·rw [List.drop_of_length_le (by omega)] at f4
   have f4':recP r.body e1=some e2:=f4
   rw [f4'] at g4
   repeat' (first|(apply ds_slD;exact rfl;exact rfl;exact rfl;exact rfl;exact rfl;exact rfl;(refine⟨?_,?_,?_⟩ <;> (omega));((with_reducible apply hv_take);(exact c7 _));exact rfl;exact rfl)|refine z0 ?_|refine z12 ?_|apply ag|apply ae|refine z16 ?_|apply ah|apply ai|apply aq|refine z18 ?_|apply aa|apply ap|apply aw|refine z17 ?_|refine z1 ?_|refine z3 ?_|(refine z23 ?_ ?_ <;> intro hg)|((fail_if_success (apply a8;exact rfl));apply a6;exact rfl;exact rfl;exact rfl;all_goals intro hg))
   all_goals try (exfalso;omega)
   exact⟨(n + 1,e2),⟨by dsimp only;omega,f2,f3,g4⟩,aj id ⟨rfl,rfl,rfl,rfl,trivial⟩ ⟨rfl,rfl,rfl,rfl,trivial⟩ rfl rfl rfl rfl rfl rfl,by show r.body.length + 1 - (n + 1) < r.body.length + 1 - n;omega⟩
 ·have hz:r.body.length + 1 - n=0:=by omega
  rw [hz] at g4
  have g4':recN r.body (r.body.length + 1) e=some e1:=g4
  rw [g4']
  repeat' (first|refine z0 ?_|apply ag|apply ae|refine z16 ?_|apply ah|apply ai|apply aq|apply ak|apply aa|apply ap|refine z17 ?_|(refine z23 ?_ ?_ <;> intro hg)|fail)
  all_goals try (exfalso;omega)
  exact⟨.inl rfl,_,rfl,id,4,_,rkH r S out m e1,rfl,⟨rfl,rfl,rfl,rfl,trivial⟩,rfl,rfl,rfl,rfl,rfl,rfl,rfl,rfl⟩
end Go.Proofs.YtapciiffpnociacGreat
