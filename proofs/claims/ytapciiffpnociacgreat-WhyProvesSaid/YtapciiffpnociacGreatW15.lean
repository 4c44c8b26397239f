/- Several texts in one: RuE RuG RuK RuS RuT LstS. Condition: none. -/
import Derived.Test.YtapciiffpnociacGreatW14
import Derived.Test.YtapciiffpnociacGreatW10
import Derived.Test.YtapciiffpnociacGreatW09
import Derived.Test.YtapciiffpnociacGreatW13
namespace Go.Proofs.YtapciiffpnociacGreat
open Go Go.RowKit
def addW (w:List (List Int)) (st:List (List Int) × Bool):List (List Int) × Bool:=if st.2 then st else (st.1++w.take (2000 - st.1.length),decide (2000 < st.1.length + w.length))
theorem addW_nil (st:List (List Int) × Bool) (h:st.1.length≤2000):addW [] st=st:=by
 unfold addW
 obtain⟨o,m⟩:=st
 cases m with
 | true=>rfl
 | false=>simp only [List.take_nil,List.append_nil,List.length_nil,Nat.add_zero];rw [if_neg (by simp),decide_eq_false (by simpa using h)]
theorem addW_len (w:List (List Int)) (st:List (List Int) × Bool) (h:st.1.length≤2000):(addW w st).1.length≤2000:=by
 unfold addW
 split
 ·exact h
 ·simp only [List.length_append,List.length_take];omega
theorem addW_app (w1 w2:List (List Int)) (st:List (List Int) × Bool) (h:st.1.length≤2000):addW (w1++w2) st=addW w2 (addW w1 st):=by
 obtain⟨o,m⟩:=st
 simp only at h
 cases m with
 | true=>rfl
 | false =>
  unfold addW
  simp only [Bool.false_eq_true,if_false]
  by_cases hb:2000 < o.length + w1.length
  ·rw [decide_eq_true hb]
   simp only [if_true,List.length_append]
   rw [decide_eq_true (by omega),List.take_append_of_le_length (by omega)]
  ·rw [decide_eq_false hb]
   simp only [Bool.false_eq_true,if_false,List.length_append,List.length_take]
   have h1:w1.take (2000 - o.length)=w1:=List.take_of_length_le (by omega)
   rw [h1,List.take_append,h1,List.append_assoc]
   congr 2
   ·congr 2;omega
   ·have:min (2000 - o.length) w1.length=w1.length:=by omega
    rw [this,Nat.add_assoc]
theorem addW_full {o:List (List Int)} (a:List Int) (h:o.length=2000):addW [a] (o,false)=(o,true):=by
 unfold addW;simp [h]
theorem addW_one {o:List (List Int)} (a:List Int) (h:o.length < 2000):addW [a] (o,false)=(o++[a],false):=by
 unfold addW
 simp only [Bool.false_eq_true,if_false,List.length_cons,List.length_nil]
 rw [decide_eq_false (by omega),show 2000 - o.length=(1999 - o.length) + 1 by omega];simp
theorem addW_many (w:List (List Int)) (o:List (List Int)):addW w (o,true)=(o,true):=rfl
def yesL (body:List Ltl) (i:Nat):List Ltl:=(body.drop i).filter fun l=>decide (l.kind=1)
theorem yesL_skip {body:List Ltl} {i:Nat} (hi:i < body.length) (h:body[i].kind≠1):yesL body i=yesL body (i + 1):=by
 unfold yesL;rw [List.drop_eq_getElem_cons hi,List.filter_cons,if_neg (by simpa using h)]
theorem yesL_yes {body:List Ltl} {i:Nat} (hi:i < body.length) (h:body[i].kind=1):yesL body i=body[i]::yesL body (i + 1):=by
 unfold yesL;rw [List.drop_eq_getElem_cons hi,List.filter_cons,if_pos (by simpa using h)]
theorem yesL_end {body:List Ltl} {i:Nat} (hi:body.length≤i):yesL body i=[]:=by unfold yesL;rw [List.drop_of_length_le hi];rfl
theorem recP_num {S:List Fct}:∀ {body:List Ltl} {e e':RE},(∀ l∈body,okL S e.length l)→numE e→recP body e=some e'→numE e'
 | [],e,e',_,hn,h=>by simp only [recP,List.foldlM_nil] at h;cases h;exact hn
 | l::body,e,e',hok,hn,h=>by
  simp only [recP,List.foldlM_cons] at h
  cases h1:recL e l with
  | none=>rw [h1] at h;cases h
  | some e1 =>
   rw [h1] at h
   have g1:=(recL_some (hok l (List.mem_cons_self ..)) h1).1
   exact recP_num (body:=body) (e:=e1) (fun x hx=>by rw [g1];exact hok x (List.mem_cons_of_mem _ hx)) (recL_num (hok l (List.mem_cons_self ..)) hn h1) h
theorem recN_num' {S:List Fct} {body:List Ltl}:∀ {n:Nat} {e e':RE},(∀ l∈body,okL S e.length l)→numE e→recN body n e=some e'→numE e'
 | 0,e,e',_,hn,h=>by simp only [recN,Option.some.injEq] at h;subst h;exact hn
 | n + 1,e,e',hok,hn,h=>by
  rw [recN,Option.bind_eq_some_iff] at h
  obtain⟨e1,h1,h2⟩:=h
  have g1:=(recP_some hok h1).1
  exact recN_num' (fun x hx=>by rw [g1];exact hok x hx) (recP_num hok hn h1) h2
theorem recN_num {S:List Fct} {body:List Ltl} {n:Nat} {e e':RE} (hok:okB S e.length body) (hn:numE e) (h:recN body n e=some e'):numE e':=recN_num' hok.lit hn h
attribute [local irreducible] DW DS DL DQ Ev FnOk FnP thenD b7 DT
def gW (go:RE→List (List Int)) (l:Ltl) (e:RE) (x:Fct):List (List Int):=if x.pred=l.pred then (match cn e l.terms x.args with|some e'=>go e'|none=>[]) else []
theorem litW_yes {S:List Fct} {go:RE→List (List Int)} {l:Ltl} {e:RE} (h:l.kind=1):litW S go l e=S.flatMap (gW go l e):=by
 unfold litW
 rw [if_pos h]
 congr 1
def ysW (S:List Fct) (body:List Ltl) (e:RE) (ys:List Ltl):List (List Int):=match ys with
 | []=>[bz e]
 | l::ys=>litW S (fromE S body ys) l e
abbrev fctB (x:Fct):HB:=.blk 48 [.d (.int .i64 x.pred),.d (.slice 1 (x.args.map bf))]
def FromOk (r:Rul) (S:List Fct) (i:Nat):Prop:=∀ (e:RE) (out:List (List Int)) (m:Bool),okB S e.length r.body→numE e→out.length≤2000 →
 FnOk false Tryz.prog tab b8 140 [.loc 0 0,.d (.int .i64 i),.d (.slice 1 ((bz e).map bf)),.d (.slice 1 ((b5 e).map cu))] 1 2 (fndH r S out m)
  (fun k2 res H=>k2=2∧res = .tup []∧H=fndH r S (addW (fromE S r.body (yesL r.body i) e) (out,m)).1 (addW (fromE S r.body (yesL r.body i) e) (out,m)).2)
set_option maxHeartbeats 8000000 in
theorem from_step (r:Rul) (S:List Fct) (hS:S.length≤4398046511104) (i:Nat) (hil:i≤r.body.length) (ih:∀ j,i < j→j≤r.body.length→FromOk r S j):FromOk r S i:=by
 intro e out m hok hn ho
 refine cr _ Tryz.func140 rfl rfl (by kernel_rfl) ?_
 intro O w0 E0 β0
 have lb:(r.body.map bp).length=r.body.length:=List.length_map _
 have hb4:=hok.len
 have he8:=hok.vle
 have lo:((bz e).map bf).length=e.length:=by rw [List.length_map,outE_len]
 have lh:((b5 e).map cu).length=e.length:=by rw [List.length_map,cp]
 have lo':=outE_len e
 have lh':=cp e
 cases m with
 | true =>
  rw [addW_many]
  repeat' (first|refine z0 ?_|apply ag|apply ae|refine z16 ?_|apply ak|refine z18 ?_|apply aa|apply av)
  exact⟨.inl rfl,_,rfl,id,2,.tup [],fndH r S out true,rfl,⟨rfl,rfl,trivial⟩,rfl,rfl,rfl,rfl,rfl,rfl,rfl,rfl,rfl⟩
 | false =>
  repeat' (first|(apply ds_bs0;exact rfl;exact rfl;exact rfl;exact rfl;exact rfl;exact rfl;exact rfl;exact rfl)|((fail_if_success (apply cv 2));(first|refine z0 ?_|apply ag|apply ae|refine z16 ?_|apply ai|refine z19 ?_|apply aa|refine z2 ?_|fail)))
  refine bl (aj (k':=4) (L':=[(0,.loc 0 0),(1,.d (.int .i64 i)),(2,.row 2),(3,.row 3)]) (H':=[(0,fndB r S (.row 1) false),(1,.row 22 1 (out.map encW)),(2,.row 3 1 ((bz e).map bf)),(3,.row 4 1 ((b5 e).map cu))]) (fun j=>match j with|2=>3|3=>5|j=>j) ⟨rfl,rfl,rfl,rfl,trivial⟩ ⟨rfl,rfl,rfl,rfl,trivial⟩ rfl rfl rfl rfl rfl rfl) ?_
  have w:=reckon_fn r S out false e hok hn
  cases hrec:recN r.body (r.body.length + 1) e with
  | none =>
   rw [hrec] at w
   have hf:fromE S r.body (yesL r.body i) e=[]:=by cases yesL r.body i <;> (unfold fromE;rw [hrec])
   rw [hf,addW_nil _ ho]
   repeat' (first|refine z0 ?_|apply ae|refine z16 ?_|fail)
   refine bx (fun j=>match j with|1=>2|2=>3|3=>1|j=>j) w rfl rfl rfl rfl ⟨rfl,rfl,rfl,rfl,trivial⟩ rfl rfl rfl rfl rfl rfl ?_ ?_
   ·rintro k2 res H2 ⟨rfl,e',rfl⟩;exact⟨rfl,rfl⟩
   rintro k2 res H2 ⟨rfl,e',rfl⟩
   change DS _ _ _ _ _ _ _ _
   repeat' (first|refine z0 ?_|refine z12 ?_|apply ag|apply ak|refine z18 ?_|apply aa|apply av)
   exact⟨.inl rfl,_,rfl,id,2,.tup [],fndH r S out false,rfl,⟨rfl,rfl,trivial⟩,rfl,rfl,rfl,rfl,rfl,rfl,rfl,rfl,rfl⟩
  | some e1 =>
   rw [hrec] at w
   obtain⟨q1,q2,_,_⟩:=recN_some hok.lit hrec
   have hn1:numE e1:=recN_num hok hn hrec
   rw [← q1] at hok he8
   have hf:fromE S r.body (yesL r.body i) e=if wrongE S r.body e1 then [] else ysW S r.body e1 (yesL r.body i):=by
    cases yesL r.body i <;> (rw [fromE,hrec];rfl)
   rw [hf]
   clear hf hrec q2 lo lh lo' lh' hn q1
   have lo:((bz e1).map bf).length=e1.length:=by rw [List.length_map,outE_len]
   have lh:((b5 e1).map cu).length=e1.length:=by rw [List.length_map,cp]
   have lo':=outE_len e1
   have lh':=cp e1
   repeat' (first|refine z0 ?_|apply ae|refine z16 ?_|fail)
   refine bx (fun j=>match j with|1=>2|2=>3|3=>1|j=>j) w rfl rfl rfl rfl ⟨rfl,rfl,rfl,rfl,trivial⟩ rfl rfl rfl rfl rfl rfl ?_ ?_
   ·rintro k2 res H2 ⟨rfl,rfl⟩;exact⟨rfl,rfl⟩
   rintro k2 res H2 ⟨rfl,rfl⟩
   change DS _ _ _ _ _ _ _ _
   refine ds_ent (cg 2 rfl rfl rfl) ?_
   refine ds_ent (cg 3 rfl rfl rfl) ?_
   have w2:=fwrong_fn r S out false e1 hok hn1
   clear w
   cases hwr:wrongE S r.body e1 with
   | true =>
    rw [hwr] at w2
    rw [if_pos rfl,addW_nil _ ho]
    repeat' refine z0 ?_
    (refine bx id (w2) rfl rfl rfl rfl ⟨rfl,rfl,trivial⟩ rfl rfl rfl rfl rfl rfl ?_ ?_)
    ·rintro k2 res H2 ⟨rfl,rfl⟩;exact⟨rfl,rfl⟩
    rintro k2 res H2 ⟨rfl,rfl⟩
    change DS _ _ _ _ _ _ _ _
    repeat' (first|refine z0 ?_|apply ag|apply ak|refine z18 ?_|apply aa|apply av)
    exact⟨.inl rfl,_,rfl,id,2,.tup [],fndH r S out false,rfl,⟨rfl,rfl,trivial⟩,rfl,rfl,rfl,rfl,rfl,rfl,rfl,rfl,rfl⟩
   | false =>
    rw [hwr] at w2
    rw [if_neg (by simp)]
    repeat' refine z0 ?_
    (refine bx id (w2) rfl rfl rfl rfl ⟨rfl,rfl,trivial⟩ rfl rfl rfl rfl rfl rfl ?_ ?_)
    ·rintro k2 res H2 ⟨rfl,rfl⟩;exact⟨rfl,rfl⟩
    rintro k2 res H2 ⟨rfl,rfl⟩
    change DS _ _ _ _ _ _ _ _
    repeat' (first|refine z0 ?_|apply ag|apply ae|apply ah|apply ai|refine z19 ?_|apply aa)
    clear w2
    refine bh (ι:=Nat) (fun j=>⟨2,[(0,.loc 0 0),(1,.d (.int .i64 j)),(2,.d (.slice 1 ((bz e1).map bf))),(3,.d (.slice 1 ((b5 e1).map cu)))],fndH r S out false⟩)
     (fun j=>i≤j∧j≤r.body.length∧yesL r.body i=yesL r.body j) (fun j=>r.body.length - j) i ⟨Nat.le_refl _,hil,rfl⟩ (aj id ⟨rfl,rfl,rfl,rfl,trivial⟩ ⟨rfl,rfl,trivial⟩ rfl rfl rfl rfl rfl rfl) ?_
    rintro j ⟨g1,g2,g3⟩
    by_cases hj:j < r.body.length
    ·by_cases hk:r.body[j].kind=1
     ·have hy:=yesL_yes hj hk
      repeat' (first|refine z0 ?_|refine z12 ?_|apply ag|apply ae|refine z16 ?_|apply ah|apply ai|apply aq|apply ak|refine z19 ?_|apply aa|apply ap|apply av|apply aw|refine z17 ?_|refine z1 ?_|refine z3 ?_|refine z4 ?_|refine z2 ?_|(refine z23 ?_ ?_ <;> intro hg)|((fail_if_success (apply a8;exact rfl));apply a6;exact rfl;exact rfl;exact rfl;all_goals intro hg))
      all_goals try (exfalso;omega)
      refine bl (aj (k':=3) (L':=[(0,.loc 0 0),(1,.d (.int .i64 j)),(2,.d (.slice 1 ((bz e1).map bf))),(3,.d (.slice 1 ((b5 e1).map cu))),(8,.loc 2 0),(9,.d (.int .i64 0))]) (H':=(2,litB r.body[j])::fndH r S out false) id ⟨rfl,rfl,rfl,rfl,rfl,rfl,trivial⟩ ⟨rfl,rfl,rfl,trivial⟩ rfl rfl rfl rfl rfl rfl) ?_
      have hlk:=hok.lit _ (List.getElem_mem hj)
      have htl:=hok.tlen _ (List.getElem_mem hj)
      have hrec:=ih (j + 1) (by omega) (by omega)
      unfold FromOk at hrec
      have hfm:ysW S r.body e1 (yesL r.body i)=S.flatMap (gW (fromE S r.body (yesL r.body (j + 1))) r.body[j] e1):=by rw [g3,hy];exact litW_yes hk
      rw [hfm]
      clear hfm hy g3
      generalize fromE S r.body (yesL r.body (j + 1))=go at hrec ⊢
      generalize r.body[j]=l at hk hlk htl ⊢
      have ls:(S.map ay).length=S.length:=List.length_map _
      refine bh (ι:=Nat) (fun k=>⟨3,[(0,.loc 0 0),(1,.d (.int .i64 j)),(2,.d (.slice 1 ((bz e1).map bf))),(3,.d (.slice 1 ((b5 e1).map cu))),(8,.loc 2 0),(9,.d (.int .i64 k))],(2,litB l)::fndH r S (addW ((S.take k).flatMap (gW go l e1)) (out,false)).1 (addW ((S.take k).flatMap (gW go l e1)) (out,false)).2⟩)
       (fun k=>k≤S.length) (fun k=>S.length - k) 0 (Nat.zero_le _) (aj id ⟨rfl,rfl,rfl,rfl,rfl,rfl,trivial⟩ (by rw [List.take_zero,List.flatMap_nil,addW_nil _ ho];exact⟨rfl,rfl,rfl,trivial⟩) rfl rfl rfl rfl rfl rfl) ?_
      intro k hks
      have hok1:=addW_len ((S.take k).flatMap (gW go l e1)) (out,false) ho
      have hwhole:addW (S.flatMap (gW go l e1)) (out,false)=addW ((S.drop k).flatMap (gW go l e1)) (addW ((S.take k).flatMap (gW go l e1)) (out,false)):=by rw [← addW_app _ _ _ ho,← List.flatMap_append,List.take_append_drop]
      have hstep:∀ hkl:k < S.length,addW ((S.take (k + 1)).flatMap (gW go l e1)) (out,false)=addW (gW go l e1 S[k]) (addW ((S.take k).flatMap (gW go l e1)) (out,false)):=fun hkl=>by rw [List.take_succ_eq_append_getElem hkl,List.flatMap_append,addW_app _ _ _ ho];simp
      generalize hst:addW ((S.take k).flatMap (gW go l e1)) (out,false)=st at hok1 hwhole hstep ⊢
      obtain⟨o2,m2⟩:=st
      dsimp only at hok1 ⊢
      clear hst
      cases m2 with
      | true =>
       rw [hwhole,addW_many]
       repeat' (first|refine z0 ?_|refine z12 ?_|apply ag|apply ae|refine z16 ?_|apply aq|refine z19 ?_|apply aa|apply ap|refine z17 ?_|((fail_if_success (apply a8;exact rfl));apply a6;exact rfl;exact rfl;exact rfl;all_goals intro hg))
       all_goals try (exfalso;omega)
       all_goals exact⟨.inr rfl,_,rfl,id,2,.tup [],fndH r S o2 true,rfl,⟨rfl,rfl,trivial⟩,rfl,rfl,rfl,rfl,rfl,rfl,rfl,rfl,rfl⟩
      | false =>
       by_cases hkl:k < S.length
       ·have hstep:=hstep hkl
        have hxf:=hok.facts _ (List.getElem_mem hkl)
        have hxa:=hlk.facts hk _ (List.getElem_mem hkl)
        repeat' ((fail_if_success (apply cv 14));(first|refine z0 ?_|refine z12 ?_|apply ag|apply ae|refine z16 ?_|apply ah|apply ai|apply aq|refine z18 ?_|refine z19 ?_|apply aa|apply ap|refine z17 ?_|refine z1 ?_|refine z3 ?_|((fail_if_success (apply a8;exact rfl));apply a6;exact rfl;exact rfl;exact rfl;all_goals intro hg)))
        all_goals try (exfalso;omega)
        refine bl (aj (k':=4) (L':=[(0,.loc 0 0),(1,.d (.int .i64 j)),(2,.d (.slice 1 ((bz e1).map bf))),(3,.d (.slice 1 ((b5 e1).map cu))),(8,.loc 2 0),(9,.d (.int .i64 k)),(10,.loc 3 0)]) (H':=(3,fctB S[k])::(2,litB l)::fndH r S o2 false) id ⟨rfl,rfl,rfl,rfl,rfl,rfl,rfl,trivial⟩ ⟨rfl,rfl,rfl,rfl,trivial⟩ rfl rfl rfl rfl rfl rfl) ?_
        generalize S[k]=x at hstep hxf hxa ⊢
        have lxa:(x.args.map bf).length=x.args.length:=List.length_map _
        have llt:(l.terms.map bm).length=l.terms.length:=List.length_map _
        by_cases hp:x.pred=l.pred
        ·have hxl:=hxa hp
         repeat' (first|(apply ds_bs0;exact rfl;exact rfl;exact rfl;exact rfl;exact rfl;exact rfl;exact rfl;exact rfl)|(first|refine z0 ?_|apply ag|apply ae|refine z16 ?_|apply ah|apply ai|apply aq|apply aa|apply ap|refine z17 ?_|refine z2 ?_|(refine z23 ?_ ?_ <;> intro hg)|fail))
         all_goals try (exfalso;omega)
         refine bh (ι:=Nat × Bool × RE) (fun z=>⟨6,[(0,.loc 0 0),(1,.d (.int .i64 j)),(2,.d (.slice 1 ((bz e1).map bf))),(3,.d (.slice 1 ((b5 e1).map cu))),(8,.loc 2 0),(9,.d (.int .i64 k)),(10,.loc 3 0),(11,.row 4),(12,.row 5),(13,.d (.bool z.2.1)),(14,.d (.int .i64 z.1))],(5,.row 4 1 ((b5 z.2.2).map cu))::(4,.row 3 1 ((bz z.2.2).map bf))::(3,fctB x)::(2,litB l)::fndH r S o2 false⟩)
          (fun z=>z.1≤l.terms.length∧z.2.2.length=e1.length∧numE z.2.2∧(z.2.1=true→cn e1 l.terms x.args=cn z.2.2 (l.terms.drop z.1) (x.args.drop z.1))∧(z.2.1=false→cn e1 l.terms x.args=none)) (fun z=>l.terms.length - z.1) (0,true,e1) ⟨Nat.zero_le _,rfl,hn1,fun _=>rfl,fun h=>by cases h⟩
          (aj (fun j=>match j with|4=>5|5=>7|j=>j) ⟨rfl,rfl,rfl,rfl,rfl,rfl,rfl,rfl,rfl,rfl,rfl,trivial⟩ ⟨rfl,rfl,rfl,rfl,rfl,rfl,trivial⟩ rfl rfl rfl rfl rfl rfl) ?_
         rintro⟨a,ok,ej⟩ ⟨f1,f2,f3,f4,f5⟩
         dsimp only at f1 f2 f3 f4 f5 ⊢
         have lj:((bz ej).map bf).length=e1.length:=by rw [List.length_map,outE_len,f2]
         have lk:((b5 ej).map cu).length=e1.length:=by rw [List.length_map,cp,f2]
         cases ok with
         | false =>
          have hm:=f5 rfl
          have hg0:gW go l e1 x=[]:=by unfold gW;rw [if_pos hp,hm]
          rw [hg0,addW_nil _ hok1] at hstep
          repeat' (first|refine z0 ?_|refine z12 ?_|apply ag|apply ae|refine z16 ?_|apply ai|apply aq|refine z19 ?_|apply aa|apply ap|apply aw|refine z17 ?_|((fail_if_success (apply a8;exact rfl));apply a6;exact rfl;exact rfl;exact rfl;all_goals intro hg))
          all_goals try (exfalso;omega)
          all_goals exact⟨k + 1,hkl,aj id ⟨rfl,rfl,rfl,rfl,rfl,rfl,trivial⟩ (by rw [hstep];exact⟨rfl,rfl,rfl,trivial⟩) rfl rfl rfl rfl rfl rfl,by omega⟩
         | true =>
          have hm:=f4 rfl
          by_cases ha:a < l.terms.length
          ·have hta:=hlk.terms _ (List.getElem_mem ha)
           rw [List.drop_eq_getElem_cons ha,List.drop_eq_getElem_cons (show a < x.args.length by omega),cn] at hm
           have htn:=hok.nums
           have hax:a < x.args.length:=by omega
           have hyn:=hxf _ (List.getElem_mem hax)
           by_cases hv:l.terms[a].var < 0
           ·have hvo:vOf ej l.terms[a]=some l.terms[a].n:=by unfold vOf;rw [if_pos hv]
            rw [hvo] at hm
            have hm:cn e1 l.terms x.args=if l.terms[a].n=x.args[a]'hax then cn ej (l.terms.drop (a + 1)) (x.args.drop (a + 1)) else none:=hm
            repeat' (first|refine z0 ?_|refine z12 ?_|apply ag|refine z5 ?_|refine z6 ?_|refine z10 ?_|apply ae|refine z16 ?_|refine z20 ?_|apply ah|apply ai|apply aq|refine z18 ?_|refine z19 ?_|apply aa|apply ap|apply aw|refine z17 ?_|refine z1 ?_|refine z3 ?_|(refine z23 ?_ ?_ <;> intro hg)|(apply bu;exact rfl;all_goals intro hg)|((fail_if_success (apply a8;exact rfl));apply a6;exact rfl;exact rfl;exact rfl;all_goals intro hg))
            all_goals try (exfalso;omega)
            exact⟨(a + 1,decide (l.terms[a].n=x.args[a]'hax),ej),⟨by dsimp only;omega,f2,f3,fun h=>by rw [hm,if_pos (of_decide_eq_true h)],fun h=>by rw [hm,if_neg (of_decide_eq_false h)]⟩,aj id ⟨rfl,rfl,rfl,rfl,rfl,rfl,rfl,rfl,rfl,rfl,rfl,trivial⟩ ⟨rfl,rfl,rfl,rfl,rfl,rfl,trivial⟩ rfl rfl rfl rfl rfl rfl,by show l.terms.length - (a + 1) < l.terms.length - a;omega⟩
           ·unfold okT at hta
            have hlt:l.terms[a].var.toNat < ej.length:=by omega
            have hvo:vOf ej l.terms[a]=ej[l.terms[a].var.toNat]:=by unfold vOf;rw [if_neg hv,List.getD,List.getElem?_eq_getElem hlt];rfl
            have hho:(b5 ej)[l.terms[a].var.toNat]'(by rw [cp];exact hlt)=(ej[l.terms[a].var.toNat]).isSome:=by unfold b5;rw [List.getElem_map]
            have hoo:(bz ej)[l.terms[a].var.toNat]'(by rw [outE_len];exact hlt)=(ej[l.terms[a].var.toNat]).getD 0:=by unfold bz;rw [List.getElem_map]
            rw [hvo] at hm
            cases hc:ej[l.terms[a].var.toNat] with
            | some z =>
             rw [hc] at hm hho hoo
             have hm:cn e1 l.terms x.args=if z=x.args[a]'hax then cn ej (l.terms.drop (a + 1)) (x.args.drop (a + 1)) else none:=hm
             have hho:(b5 ej)[l.terms[a].var.toNat]'(by rw [cp];exact hlt)=true:=hho
             have hoo:(bz ej)[l.terms[a].var.toNat]'(by rw [outE_len];exact hlt)=z:=hoo
             repeat' ((fail_if_success (apply dw_stopT 21));(first|refine z0 ?_|refine z12 ?_|apply ag|refine z5 ?_|refine z10 ?_|apply ae|refine z16 ?_|refine z20 ?_|apply ah|apply ai|apply aq|refine z18 ?_|refine z19 ?_|apply aa|apply ap|apply aw|refine z17 ?_|refine z1 ?_|refine z3 ?_|(refine z23 ?_ ?_ <;> intro hg)|(apply bu;exact rfl;all_goals intro hg)|((fail_if_success (apply a8;exact rfl));apply a6;exact rfl;exact rfl;exact rfl;all_goals intro hg)))
             all_goals try (exfalso;omega)
             all_goals try (exfalso;rw [hho] at hg;cases hg;done)
             exact⟨(a + 1,decide (z=x.args[a]'hax),ej),⟨by dsimp only;omega,f2,f3,fun h=>by rw [hm,if_pos (of_decide_eq_true h)],fun h=>by rw [hm,if_neg (of_decide_eq_false h)]⟩,aj id ⟨rfl,rfl,rfl,rfl,rfl,rfl,rfl,rfl,rfl,by rw [← hoo];rfl,rfl,trivial⟩ ⟨rfl,rfl,rfl,rfl,rfl,rfl,trivial⟩ rfl rfl rfl rfl rfl rfl,by show l.terms.length - (a + 1) < l.terms.length - a;omega⟩
            | none =>
             rw [hc] at hm hho hoo
             have hm:cn e1 l.terms x.args=cn (ej.set l.terms[a].var.toNat (some (x.args[a]'hax))) (l.terms.drop (a + 1)) (x.args.drop (a + 1)):=hm
             have hho:(b5 ej)[l.terms[a].var.toNat]'(by rw [cp];exact hlt)=false:=hho
             repeat' ((fail_if_success (apply dw_stopT 21));(fail_if_success (apply dw_stopT 25));(first|refine z0 ?_|refine z12 ?_|apply ag|refine z5 ?_|refine z10 ?_|apply ae|refine z16 ?_|refine z20 ?_|apply ah|apply ai|apply aq|refine z18 ?_|refine z19 ?_|apply aa|apply ap|apply aw|refine z17 ?_|refine z1 ?_|refine z3 ?_|(refine z23 ?_ ?_ <;> intro hg)|(apply bu;exact rfl;all_goals intro hg)|((fail_if_success (apply a8;exact rfl));apply a6;exact rfl;exact rfl;exact rfl;all_goals intro hg)))
             all_goals try (exfalso;omega)
             all_goals try (exfalso;rw [hho] at hg;cases hg;done)
             have hpm:l.terms[a].var.toNat < ((bz ej).map bf).length∧∀ y∈(bz ej).map bf,y.length=1:=⟨by rw [List.length_map,outE_len];exact hlt,fun y hy=>by obtain⟨z,_,rfl⟩:=List.mem_map.1 hy;rfl⟩
             have hpk:l.terms[a].var.toNat < ((b5 ej).map cu).length∧∀ y∈(b5 ej).map cu,y.length=1:=⟨by rw [List.length_map,cp];exact hlt,fun y hy=>by obtain⟨z,_,rfl⟩:=List.mem_map.1 hy;rfl⟩
             repeat' (first|refine z0 ?_|apply ag|refine z5 ?_|refine z6 ?_|refine z10 ?_|refine z16 ?_|refine z20 ?_|apply aa|apply aw)
             have o1:=outE_set ej l.terms[a].var.toNat (x.args[a]'hax)
             have o2:=hasE_set ej l.terms[a].var.toNat (x.args[a]'hax)
             exact⟨(a + 1,true,ej.set l.terms[a].var.toNat (some (x.args[a]'hax))),⟨by dsimp only;omega,by dsimp only;rw [List.length_set];exact f2,numE_set f3 (numB_iff.2 hyn),fun _=>hm,fun h=>by cases h⟩,aj id ⟨rfl,rfl,rfl,rfl,rfl,rfl,rfl,rfl,rfl,rfl,rfl,trivial⟩ ⟨by rw [o2,List.map_set];rfl,by rw [o1,List.map_set];rfl,rfl,rfl,rfl,rfl,trivial⟩ rfl rfl rfl rfl rfl rfl,by show l.terms.length - (a + 1) < l.terms.length - a;omega⟩
          ·rw [List.drop_of_length_le (by omega)] at hm
           have hm:cn e1 l.terms x.args=some ej:=hm
           have hg0:gW go l e1 x=go ej:=by unfold gW;rw [if_pos hp,hm]
           rw [hg0] at hstep
           have wr:=hrec ej o2 false (by rw [f2];exact hok) f3 hok1
           repeat' ((fail_if_success (apply cv 27));(first|refine z0 ?_|refine z12 ?_|apply ag|refine z5 ?_|refine z6 ?_|refine z10 ?_|apply ae|refine z16 ?_|refine z20 ?_|apply ah|apply ai|apply aq|refine z18 ?_|refine z19 ?_|apply aa|apply ap|apply aw|refine z17 ?_|refine z1 ?_|refine z3 ?_|(refine z23 ?_ ?_ <;> intro hg)|(apply bu;exact rfl;all_goals intro hg)|((fail_if_success (apply a8;exact rfl));apply a6;exact rfl;exact rfl;exact rfl;all_goals intro hg)))
           all_goals try (exfalso;omega)
           refine ds_ent (cg 189 rfl rfl rfl) ?_
           refine ds_ent (cg 190 rfl rfl rfl) ?_
           (refine bx id (wr) rfl rfl rfl rfl ⟨rfl,rfl,trivial⟩ rfl rfl rfl rfl rfl rfl ?_ ?_)
           ·rintro k2 res H2 ⟨rfl,rfl,rfl⟩;exact⟨rfl,rfl⟩
           rintro k2 res H2 ⟨rfl,rfl,rfl⟩
           change DS _ _ _ _ _ _ _ _
           repeat' (first|refine z0 ?_|apply ag|refine z16 ?_|apply aa|apply aw)
           exact⟨k + 1,hkl,aj (fun j=>match j with|1=>7|j=>j) ⟨rfl,rfl,rfl,rfl,rfl,rfl,trivial⟩ (by rw [hstep];exact⟨rfl,rfl,rfl,trivial⟩) rfl rfl rfl rfl rfl rfl,by omega⟩
        ·have hg0:gW go l e1 x=[]:=by unfold gW;rw [if_neg hp]
         rw [hg0,addW_nil _ hok1] at hstep
         repeat' (first|refine z0 ?_|apply ag|apply ae|refine z16 ?_|apply ai|apply aq|apply aa|apply ap|refine z17 ?_|refine z4 ?_|(refine z23 ?_ ?_ <;> intro hg)|fail)
         all_goals try (exfalso;omega)
         all_goals try (exfalso;exact hg hp)
         exact⟨k + 1,hkl,aj id ⟨rfl,rfl,rfl,rfl,rfl,rfl,trivial⟩ (by rw [hstep];exact⟨rfl,rfl,rfl,trivial⟩) rfl rfl rfl rfl rfl rfl,by omega⟩
       ·rw [hwhole,List.drop_of_length_le (by omega),List.flatMap_nil,addW_nil _ hok1]
        repeat' (first|refine z0 ?_|refine z12 ?_|apply ag|apply ae|refine z16 ?_|apply ah|apply ai|apply aq|refine z18 ?_|refine z19 ?_|apply aa|apply ap|refine z17 ?_|refine z1 ?_|refine z3 ?_|refine z4 ?_|(refine z23 ?_ ?_ <;> intro hg)|((fail_if_success (apply a8;exact rfl));apply a6;exact rfl;exact rfl;exact rfl;all_goals intro hg))
        all_goals try (exfalso;omega)
        all_goals exact⟨.inr rfl,_,rfl,id,2,.tup [],fndH r S o2 false,rfl,⟨rfl,rfl,trivial⟩,rfl,rfl,rfl,rfl,rfl,rfl,rfl,rfl,rfl⟩
     ·have hy:=yesL_skip hj hk
      repeat' (first|refine z0 ?_|refine z12 ?_|apply ag|apply ae|refine z16 ?_|apply ah|apply ai|apply aq|apply ak|refine z19 ?_|apply aa|apply ap|apply av|apply aw|refine z17 ?_|refine z1 ?_|refine z3 ?_|refine z4 ?_|refine z2 ?_|(refine z23 ?_ ?_ <;> intro hg)|((fail_if_success (apply a8;exact rfl));apply a6;exact rfl;exact rfl;exact rfl;all_goals intro hg))
      all_goals try (exfalso;omega)
      exact⟨j + 1,⟨by omega,by omega,g3.trans hy⟩,aj id ⟨rfl,rfl,rfl,rfl,trivial⟩ ⟨rfl,rfl,trivial⟩ rfl rfl rfl rfl rfl rfl,by omega⟩
    ·have hy:=yesL_end (Nat.le_of_not_lt hj)
     have hfm:ysW S r.body e1 (yesL r.body i)=[bz e1]:=by rw [g3,hy];rfl
     rw [hfm]
     have lout:(out.map encW).length=out.length:=List.length_map _
     by_cases h2k:out.length=2000
     ·rw [addW_full _ h2k]
      repeat' (first|refine z0 ?_|refine z12 ?_|apply ag|apply ae|refine z16 ?_|apply ah|apply ai|apply aq|apply ak|refine z19 ?_|apply aa|apply ap|apply av|apply aw|refine z17 ?_|refine z1 ?_|refine z3 ?_|refine z4 ?_|refine z2 ?_|(refine z23 ?_ ?_ <;> intro hg)|((fail_if_success (apply a8;exact rfl));apply a6;exact rfl;exact rfl;exact rfl;all_goals intro hg))
      all_goals try (exfalso;omega)
      exact⟨.inl rfl,_,rfl,id,2,.tup [],fndH r S out true,rfl,⟨rfl,rfl,trivial⟩,rfl,rfl,rfl,rfl,rfl,rfl,rfl,rfl,rfl⟩
     ·rw [addW_one _ (by omega)]
      repeat' (first|refine z0 ?_|refine z12 ?_|apply ag|apply ae|refine z16 ?_|apply ah|apply ai|apply aq|apply ak|refine z19 ?_|apply aa|apply ap|apply av|apply aw|refine z17 ?_|refine z1 ?_|refine z3 ?_|refine z4 ?_|refine z2 ?_|(refine z23 ?_ ?_ <;> intro hg)|((fail_if_success (apply a8;exact rfl));apply a6;exact rfl;exact rfl;exact rfl;all_goals intro hg))
      all_goals try (exfalso;omega)
      exact⟨.inl rfl,_,rfl,fun j=>match j with|1=>2|j=>j,2,.tup [],fndH r S (out++[bz e1]) false,rfl,⟨rfl,by rw [List.map_append];rfl,trivial⟩,rfl,rfl,rfl,rfl,rfl,rfl,rfl,rfl,rfl⟩
theorem from_fn (r:Rul) (S:List Fct) (hS:S.length≤4398046511104):∀ (n i:Nat),r.body.length - i=n→i≤r.body.length→FromOk r S i:=by
 intro n
 induction n using Nat.strongRecOn with
 | ind n ih=>exact fun i hn hi=>from_step r S hS i hi fun j h1 h2=>ih (r.body.length - j) (by omega) j rfl h2
def SortW (l:List (List Int)):Prop:=l.Pairwise fun a b=>ordL a b≤0
theorem ordL_le_trans {a b c:List Int} (h:ordL a b≤0) (g:ordL b c≤0):ordL a c≤0:=by
 by_cases h1:ordL a b=0
 ·rw [ordL_eq0 h1];exact g
 ·by_cases g1:ordL b c=0
  ·rw [← ordL_eq0 g1];exact h
  ·have:=ordL_trans (l:=a) (m:=b) (n:=c) (by omega) (by omega)
   omega
theorem ordL_antisymm {a b:List Int} (h:ordL a b≤0) (g:ordL b a≤0):a=b:=by
 rw [ordL_anti] at g
 exact ordL_eq0 (by omega)
theorem sortW_unique:∀ {a b:List (List Int)},SortW a→SortW b→a.Perm b→a=b
 | [],b,_,_,h=>by rw [List.nil_perm.1 h]
 | x::a,b,ha,hb,h=>by
  match b,h,hb with
  | [],h,_=>simp at h
  | y::b,h,hb =>
   obtain⟨a1,a2⟩:=List.pairwise_cons.1 ha
   obtain⟨b1,b2⟩:=List.pairwise_cons.1 hb
   have hxy:x=y:=by
    rcases List.mem_cons.1 (h.mem_iff.1 List.mem_cons_self) with h1|h1
    ·exact h1
    ·rcases List.mem_cons.1 (h.mem_iff.2 (List.mem_cons_self (a:=y) (l:=b))) with h2|h2
     ·exact h2.symm
     ·exact ordL_antisymm (a1 y h2) (b1 x h1)
   subst hxy
   rw [sortW_unique a2 b2 (List.perm_cons x |>.1 h)]
theorem same_members {a b:List (List Int)} (ha:a.Nodup) (hb:b.Nodup) (h:∀ x,x∈a↔x∈b):a.Perm b:=(List.perm_ext_iff_of_nodup ha hb).2 h
def insOk (o:List (List Int)) (k i:Nat):Prop:=∀ (p q:Nat) (a b:List Int),p < q→q≤i→q≠k→o[p]? = some a→o[q]? = some b→ordL a b≤0
def swapW (o:List (List Int)) (k:Nat) (a b:List Int):List (List Int):=(o.set k a).set (k - 1) b
theorem swapW_get {o:List (List Int)} {k:Nat} {a b:List Int} (hk:0 < k) (hl:k < o.length) (p:Nat):(swapW o k a b)[p]? = if p=k - 1 then some b else if p=k then some a else o[p]?:=by
 unfold swapW
 by_cases h1:p=k - 1
 ·subst h1;rw [if_pos rfl,List.getElem?_set_self (by rw [List.length_set];omega)]
 ·rw [if_neg h1,List.getElem?_set_ne (Ne.symm h1)]
  by_cases h2:p=k
  ·subst h2;rw [if_pos rfl,List.getElem?_set_self hl]
  ·rw [if_neg h2,List.getElem?_set_ne (Ne.symm h2)]
theorem insOk_swap {o:List (List Int)} {k i:Nat} {a b:List Int} (hk:0 < k) (hl:k < o.length) (hki:k≤i) (ha:o[k - 1]? = some a) (hb:o[k]? = some b) (hlt:ordL b a < 0) (h:insOk o k i):insOk (swapW o k a b) (k - 1) i:=by
 intro p q x y hpq hqi hqk hx hy
 rw [swapW_get hk hl] at hx hy
 rw [if_neg hqk] at hy
 by_cases q1:q=k
 ·rw [if_pos q1,Option.some.injEq] at hy
  subst hy
  by_cases p1:p=k - 1
  ·rw [if_pos p1,Option.some.injEq] at hx;subst hx;omega
  ·rw [if_neg p1,if_neg (by omega)] at hx
   exact h p (k - 1) x a (by omega) (by omega) (by omega) hx ha
 ·rw [if_neg q1] at hy
  by_cases p1:p=k - 1
  ·rw [if_pos p1,Option.some.injEq] at hx;subst hx
   exact h k q b y (by omega) hqi (by omega) hb hy
  ·rw [if_neg p1] at hx
   by_cases p2:p=k
   ·rw [if_pos p2,Option.some.injEq] at hx;subst hx
    exact h (k - 1) q a y (by omega) hqi (by omega) ha hy
   ·rw [if_neg p2] at hx
    exact h p q x y hpq hqi (by omega) hx hy
theorem swapW_perm {o:List (List Int)} {k:Nat} {a b:List Int} (hk:0 < k) (ha:o[k - 1]? = some a) (hb:o[k]? = some b):(swapW o k a b).Perm o:=by
 obtain⟨k,rfl⟩:∃ j,k=j + 1:=⟨k - 1,by omega⟩
 simp only [Nat.add_sub_cancel] at ha
 obtain⟨h1,h1'⟩:=List.getElem?_eq_some_iff.1 ha
 obtain⟨h2,h2'⟩:=List.getElem?_eq_some_iff.1 hb
 have ho:o=o.take k++a::b::o.drop (k + 2):=by
  rw [← h1',← h2',← List.drop_eq_getElem_cons h2,← List.drop_eq_getElem_cons h1,List.take_append_drop]
 have hs:swapW o (k + 1) a b=o.take k++b::a::o.drop (k + 2):=by
  apply List.ext_getElem?
  intro p
  rw [swapW_get hk h2]
  have ltk:(o.take k).length=k:=by rw [List.length_take];omega
  rcases Nat.lt_trichotomy p k with h|h|h
  ·rw [if_neg (by omega),if_neg (by omega),List.getElem?_append_left (by omega),List.getElem?_take_of_lt h]
  ·subst h
   rw [if_pos (by omega),List.getElem?_append_right (by omega),ltk,Nat.sub_self];rfl
  ·rw [if_neg (by omega),List.getElem?_append_right (by omega),ltk]
   by_cases hq:p=k + 1
   ·subst hq
    rw [if_pos rfl,show k + 1 - k=1 by omega];rfl
   ·rw [if_neg hq,show p - k=(p - (k + 2)) + 2 by omega]
    simp only [List.getElem?_cons_succ,List.getElem?_drop]
    congr 1;omega
 rw [hs]
 conv=>rhs;rw [ho]
 exact List.Perm.append_left _ (List.Perm.swap _ _ _)
theorem insOk_done {o:List (List Int)} {k i:Nat} (h:insOk o k i) (hk:k=0∨∃ a b,0 < k∧o[k - 1]? = some a∧o[k]? = some b∧¬ ordL b a < 0):∀ (p q:Nat) (a b:List Int),p < q→q≤i→o[p]? = some a→o[q]? = some b→ordL a b≤0:=by
 intro p q x y hpq hqi hx hy
 by_cases hq:q=k
 ·subst hq
  rcases hk with hk|⟨a,b,hk,ha,hb,hn⟩
  ·omega
  ·rw [hb,Option.some.injEq] at hy;subst hy
   have h1:ordL a b≤0:=by rw [ordL_anti];omega
   by_cases hp:p=q - 1
   ·subst hp;rw [ha,Option.some.injEq] at hx;subst hx;exact h1
   ·exact ordL_le_trans (h p (q - 1) x a (by omega) (by omega) (by omega) hx ha) h1
 ·exact h p q x y hpq hqi hq hx hy
def sortedTo (o:List (List Int)) (i:Nat):Prop:=∀ (p q:Nat) (a b:List Int),p < q→q < i→o[p]? = some a→o[q]? = some b→ordL a b≤0
theorem sortedTo_ins {o:List (List Int)} {i:Nat} (h:sortedTo o i):insOk o i i:=fun p q a b h1 h2 h3=>h p q a b h1 (by omega)
theorem sortedTo_all {o:List (List Int)} (h:sortedTo o o.length):SortW o:=by
 unfold SortW
 rw [List.pairwise_iff_getElem]
 intro i j hi hj hij
 exact h i j _ _ hij hj (List.getElem?_eq_getElem hi) (List.getElem?_eq_getElem hj)
def factE (arity:List Int) (x:Fct):Int :=
 if inR x.pred 0 ((arity.length:Int) - 1)=false then 5
 else if (x.args.length:Int)≠arity.getD x.pred.toNat 0 then 1
 else if x.args.any (fun n=>!numB n) then 3
 else 0
structure FctOk (arity:List Int) (x:Fct):Prop where
 pred:0≤x.pred∧x.pred < arity.length
 len:(x.args.length:Int)=arity.getD x.pred.toNat 0
 nums:∀ n∈x.args,-1000000≤n∧n≤1000000
theorem numB_in {n:Int} (h:numB n=true):-1000000≤n∧n≤1000000:=by unfold numB inR at h;simpa using h
theorem factE_ok {arity:List Int} {x:Fct} (h:factE arity x=0):FctOk arity x:=by
 unfold factE at h
 split at h;· cases h
 rename_i h1
 split at h;· cases h
 rename_i h2
 split at h;· cases h
 rename_i h3
 refine⟨by unfold inR at h1;simp at h1;omega,by simpa using h2,fun n hn=>?_⟩
 have h3':x.args.any (fun n=>!numB n)=false:=by simpa using h3
 rw [List.any_eq_false] at h3'
 have:=h3' n hn
 exact numB_in (by simpa using this)
theorem firstL_all0 {α:Type} {f:α→Int}:∀ {l:List α},ce f l=0→∀ x∈l,f x=0
 | [],_,_,h=>by simp at h
 | y::l,h,x,hx=>by
  unfold ce at h
  split at h
  ·rename_i h1;exact absurd h h1
  ·rename_i h1
   rcases List.mem_cons.1 hx with rfl|hx
   ·exact Classical.byContradiction h1
   ·exact firstL_all0 h x hx
theorem firstI_all0 {f:Nat→Int}:∀ {k i:Nat},firstI f i k=0→∀ j,i≤j→j < i + k→f j=0
 | 0,_,_,j,h1,h2=>by omega
 | k + 1,i,h,j,h1,h2=>by
  unfold firstI at h
  split at h
  ·rename_i h3;exact absurd h h3
  ·rename_i h3
   by_cases hj:j=i
   ·subst hj;exact Classical.byContradiction h3
   ·exact firstI_all0 h j (by omega) (by omega)
theorem termE_zero {vars:Int} {t:Trm} (h:termE vars t=0):t.var < vars∧-1≤t.var∧(-1000000≤t.n∧t.n≤1000000):=by
 unfold termE at h
 split at h;· cases h
 rename_i h1
 split at h;· cases h
 rename_i h2
 have h1':inR t.var (-1) (vars - 1)=true:=by simpa using h1
 have h3:numB t.n=true:=by
  cases hn:numB t.n with
  | true=>rfl
  | false=>exact absurd (.inl hn) h2
 unfold inR at h1'
 simp at h1'
 exact⟨by omega,by omega,numB_in h3⟩
structure RulR (arity:List Int) (r:Rul):Prop where
 pred:0≤r.pred∧r.pred < arity.length
 tlen:(r.terms.length:Int)=arity.getD r.pred.toNat 0
 vars:0≤r.vars∧r.vars≤8
 terms:∀ t∈r.terms,t.var < r.vars∧-1≤t.var∧(-1000000≤t.n∧t.n≤1000000)
 fold:0≤r.fold∧r.fold≤4
 folded:r.fold≠0→0 < r.terms.length∧0 < r.body.length
 body:r.body.length≤4
 lits:∀ l∈r.body,litE arity r.vars l=0
 safe:safeB r=true
theorem ruleE_right {arity:List Int} {r:Rul} (h:ruleE arity r=0):RulR arity r:=by
 unfold ruleE at h
 split at h;· cases h
 rename_i h1
 split at h;· cases h
 rename_i h2
 split at h;· cases h
 rename_i h3
 split at h
 ·rename_i h4;exact absurd h h4
 rename_i h4
 split at h;· cases h
 rename_i h5
 split at h;· cases h
 rename_i h6
 split at h;· cases h
 rename_i h7
 split at h
 ·rename_i h8;exact absurd h h8
 rename_i h8
 split at h;· cases h
 rename_i h9
 have h1':inR r.pred 0 ((arity.length:Int) - 1)=true:=by simpa using h1
 have h3':inR r.vars 0 8=true:=by simpa using h3
 have h5':inR r.fold 0 4=true:=by simpa using h5
 unfold inR at h1' h3' h5'
 simp at h1' h3' h5'
 refine⟨by omega,by simpa using h2,by omega,fun t ht=>?_,by omega,fun hf=>?_,by omega,fun l hl=>?_,by simpa using h9⟩
 ·have:ce (termE r.vars) r.terms=0:=by unfold termsE at h4;simpa using h4
  exact termE_zero (firstL_all0 this t ht)
 ·have:¬ (r.terms.length=0∨r.body.length=0):=fun hc=>h6 ⟨hf,hc⟩
  omega
 ·have:ce (litE arity r.vars) r.body=0:=by simpa using h8
  exact firstL_all0 this l hl
theorem progE_rule {nameB:ByteArray→Bool} {p:Prg} (h:progE nameB p=0):(∀ r∈p.rules,RulR p.arity r)∧(∀ i,0≤p.arity.getD i 0∧p.arity.getD i 0≤3)∧p.arity.length≤10∧p.rules.length≤12:=by
 unfold progE at h
 split at h;· cases h
 rename_i h1
 split at h;· cases h
 rename_i h2
 split at h
 ·rename_i h3;exact absurd h h3
 rename_i h3
 refine⟨fun r hr=>ruleE_right (firstL_all0 h r hr),fun i=>?_,by omega,by omega⟩
 by_cases hi:i < p.names.length
 ·have h3':firstI (nameE nameB p) 0 p.names.length=0:=by simpa using h3
  have:=firstI_all0 h3' i (Nat.zero_le _) (by omega)
  unfold nameE at this
  split at this;· cases this
  rename_i h4
  have h4':inR (p.arity.getD i 0) 0 3=true:=by simpa using h4
  unfold inR at h4'
  simp only [Bool.and_eq_true,decide_eq_true_eq] at h4'
  exact h4'
 ·rw [List.getD,List.getElem?_eq_none (by omega)]
  exact⟨by simp,by simp⟩
theorem litE_right {arity:List Int} {vars:Int} {l:Ltl} (h:litE arity vars l=0):(1≤l.kind∧l.kind≤4)∧opB l.kind l.op=true∧((l.kind=1∨l.kind=2)→(0≤l.pred∧l.pred < arity.length)∧(l.terms.length:Int)=arity.getD l.pred.toNat 0)∧(¬ (l.kind=1∨l.kind=2)→l.pred=0∧(l.terms.length:Int)=l.kind - 1)∧∀ t∈l.terms,t.var < vars∧-1≤t.var∧(-1000000≤t.n∧t.n≤1000000):=by
 unfold litE at h
 split at h;· cases h
 rename_i h1
 split at h;· cases h
 rename_i h2
 have h1':inR l.kind 1 4=true:=by simpa using h1
 unfold inR at h1'
 simp at h1'
 have h2':opB l.kind l.op=true:=by simpa using h2
 split at h
 ·rename_i hk
  split at h;· cases h
  rename_i h3
  split at h;· cases h
  rename_i h4
  have h3':inR l.pred 0 ((arity.length:Int) - 1)=true:=by simpa using h3
  unfold inR at h3'
  simp at h3'
  exact⟨by omega,h2',fun _=>⟨by omega,by simpa using h4⟩,fun hn=>absurd hk hn,fun t ht=>termE_zero (firstL_all0 h t ht)⟩
 ·rename_i hk
  split at h;· cases h
  rename_i h3
  refine⟨by omega,h2',fun hc=>absurd hc hk,fun _=>?_,fun t ht=>termE_zero (firstL_all0 h t ht)⟩
  exact⟨Classical.byContradiction fun hc=>h3 (.inl hc),Classical.byContradiction fun hc=>h3 (.inr hc)⟩
theorem lit_okL {arity:List Int} {vars:Int} {l:Ltl} {S:List Fct} (h:litE arity vars l=0) (hv:0≤vars) (hS:∀ x∈S,FctOk arity x):okL S vars.toNat l:=by
 obtain⟨h1,h2,h3,h4,h5⟩:=litE_right h
 refine⟨h1,fun t ht=>?_,fun hk=>?_,fun hk=>?_,fun hk x hx hp=>?_⟩
 ·have:=h5 t ht;unfold okT;omega
 ·have:=h4 (by omega);omega
 ·have:=h4 (by omega);omega
 ·have g1:=(h3 (.inl hk)).2
  have g2:=(hS x hx).len
  rw [hp] at g2;omega
theorem setT_into {bs cs:List Bool} {t:Trm} (h:leB bs cs) (ht:isT cs t=true):leB (setT bs t) cs:=by
 refine⟨(setT_len bs t).trans h.1,fun i hi=>?_⟩
 unfold setT at hi
 split at hi
 ·exact h.2 i hi
 ·rename_i hv
  by_cases hq:t.var.toNat=i
  ·subst hq
   unfold isT at ht
   rw [decide_eq_false hv,Bool.false_or] at ht
   exact ht
  ·rw [List.getD,List.getElem?_set_ne hq,← List.getD] at hi
   exact h.2 i hi
theorem setTs_into {cs:List Bool}:∀ {l:List Trm} {bs:List Bool},leB bs cs→(∀ t∈l,isT cs t=true)→leB (l.foldl setT bs) cs
 | [],_,h,_=>h
 | t::l,_,h,ht=>setTs_into (l:=l) (setT_into h (ht t (List.mem_cons_self ..))) fun x hx=>ht x (List.mem_cons_of_mem _ hx)
theorem bLit_into {body:List Ltl} {bs cs:List Bool} {l:Ltl} (hl:l∈body) (h:leB bs cs) (hc:closedB body cs):leB (bLit bs l) cs:=by
 unfold bLit
 split
 ·rename_i hf;exact setTs_into h (hc l hl (fires_mono h hf))
 ·exact h
theorem bRound_into {body:List Ltl} {cs:List Bool} (hc:closedB body cs):∀ (ls:List Ltl) {bs:List Bool},(∀ l∈ls,l∈body)→leB bs cs→leB (bRound ls bs) cs
 | [],_,_,h=>h
 | l::ls,_,hs,h=>bRound_into hc ls (fun x hx=>hs x (List.mem_cons_of_mem _ hx)) (bLit_into (hs l (List.mem_cons_self ..)) h hc)
theorem bIter_into {body:List Ltl} {cs:List Bool} (hc:closedB body cs):∀ (n:Nat) {bs:List Bool},leB bs cs→leB (bIter body n bs) cs
 | 0,_,h=>h
 | n + 1,_,h=>bIter_into hc n (bRound_into hc body (fun _ hl=>hl) h)
theorem safe_Bd {r:Rul} (h:safeB r=true):Bd r.body (List.replicate r.vars.toNat false):=by
 intro cs h1 h2 v hv
 refine (bIter_into h2 (r.body.length + 1) h1).2 v ?_
 unfold safeB boundL at h
 rw [List.all_eq_true] at h
 have hl:v < (bIter r.body (r.body.length + 1) (List.replicate r.vars.toNat false)).length:=by rw [bIter_len,h1.1];exact hv
 rw [List.getD,List.getElem?_eq_getElem hl]
 exact h _ (List.getElem_mem hl)
abbrev e0 (v:Nat):RE:=List.replicate v none
theorem hasE_e0 (v:Nat):b5 (e0 v)=List.replicate v false:=by unfold b5 e0;rw [List.map_replicate];rfl
theorem outE_e0 (v:Nat):bz (e0 v)=List.replicate v 0:=by unfold bz e0;rw [List.map_replicate];rfl
def yesOf (body:List Ltl):List Ltl:=body.filter fun l=>decide (l.kind=1)
theorem ways_perm {S:List Fct} {v:Nat} {body:List Ltl} (hS:S.Nodup) (hok:∀ l∈body,okL S v l) (hB:Bd body (List.replicate v false)) :
  (findE S body.length body (e0 v)).Perm (fromE S body (yesOf body) (e0 v))∧(fromE S body (yesOf body) (e0 v)).Nodup∧(∀ a,a∈fromE S body (yesOf body) (e0 v)↔a.length=v∧∀ l∈body,holdE S l a=true):=by
 have hl:(e0 v).length=v:=List.length_replicate
 have hok':∀ l∈body,okL S (e0 v).length l:=fun l h=>by rw [hl];exact hok l h
 have hB':Bd body (b5 (e0 v)):=by rw [hasE_e0];exact hB
 obtain⟨g1,g2⟩:=fromE_spec S hS body (yesOf body) (e0 v) (fun l h=>⟨(List.mem_filter.1 h).1,of_decide_eq_true (List.mem_filter.1 h).2⟩) hok' hB' (fun l h h1=>.inl (List.mem_filter.2 ⟨h,decide_eq_true h1⟩))
 have g3:=findE_mem S body.length body (e0 v) (Nat.le_refl _) hok' hB'
 have g4:=findE_nodup S hS body.length body (e0 v) (Nat.le_refl _) hok' hB'
 refine⟨same_members g4 g2 fun a=>(g3 a).trans (g1 a).symm,g2,fun a=>(g1 a).trans (and_congr_left fun _=>?_)⟩
 unfold extE
 rw [hl]
 refine⟨fun h=>h.1,fun h=>⟨h,fun u x hx=>?_⟩⟩
 unfold e0 at hx
 rw [List.getElem?_replicate] at hx
 split at hx <;> simp at hx
def waysL (S:List Fct) (v:Nat) (body:List Ltl):List (List Int):=(fromE S body (yesOf body) (e0 v)).mergeSort fun a b=>decide (ordL a b≤0)
theorem waysL_perm (S:List Fct) (v:Nat) (body:List Ltl):(waysL S v body).Perm (fromE S body (yesOf body) (e0 v)):=List.mergeSort_perm _ _
theorem waysL_sort (S:List Fct) (v:Nat) (body:List Ltl):SortW (waysL S v body):=by
 have:=List.pairwise_mergeSort (le:=fun a b=>decide (ordL a b≤0)) (fun a b c h g=>decide_eq_true (ordL_le_trans (of_decide_eq_true h) (of_decide_eq_true g))) (fun a b=>by
  rw [Bool.or_eq_true,decide_eq_true_eq,decide_eq_true_eq,ordL_anti b a];omega) (fromE S body (yesOf body) (e0 v))
 exact this.imp fun h=>of_decide_eq_true h
theorem waysL_eq {S:List Fct} {v:Nat} {body:List Ltl} {o:List (List Int)} (h:SortW o) (hp:o.Perm (fromE S body (yesOf body) (e0 v))):o=waysL S v body :=
 sortW_unique h (waysL_sort S v body) (hp.trans (waysL_perm S v body).symm)
abbrev pfB (r:Rul) (S:List Fct) (o:Nat):HB:=.blk 133 [.d (.int .i64 r.pred),.d (.slice 2 (r.terms.map bm)),.d (.int .i64 r.fold),.d (.slice 4 (r.body.map bp)),.d (.int .i64 r.vars),.d (.slice 2 (S.map ay)),.row 1,.row 2,.d (.int .i64 2000),.row o]
abbrev pfH (r:Rul) (S:List Fct) (e:RE) (out:List (List Int)):Hp:=[(0,pfB r S 3),(1,.row 3 1 ((bz e).map bf)),(2,.row 4 1 ((b5 e).map cu)),(3,.row 22 1 (out.map encW))]
set_option maxHeartbeats 8000000 in
theorem value_fn (r:Rul) (S:List Fct) (out:List (List Int)) (e:RE) (t:Trm) (ho:okT e.length t) :
  FnOk false Tryz.prog tab b8 163 [.loc 0 0,elTrm t] 4 4 (pfH r S e out) (fun _ res H=>res = .tup [.d (.int .i64 (vA (bz e) t)),.d (.bool (vOf e t).isSome)]∧H=pfH r S e out):=by
 refine cr _ Tryz.func163 rfl rfl (by kernel_rfl) ?_
 intro O w0 E0 β0
 have lo:((bz e).map bf).length=e.length:=by rw [List.length_map,outE_len]
 have lh:((b5 e).map cu).length=e.length:=by rw [List.length_map,cp]
 unfold okT at ho
 by_cases hv:t.var < 0
 ·have h1:vA (bz e) t=t.n:=by unfold vA;rw [if_pos hv]
  have h2:(vOf e t).isSome=true:=by unfold vOf;rw [if_pos hv];rfl
  rw [h1,h2]
  repeat' (first|refine z0 ?_|apply ag|refine z5 ?_|refine z10 ?_|apply ae|refine z16 ?_|refine z20 ?_|apply ai|apply ak|apply aa|apply av|refine z1 ?_|(refine z23 ?_ ?_ <;> intro hg)|fail)
  all_goals try (exfalso;omega)
  exact⟨.inl rfl,_,rfl,id,4,_,pfH r S e out,rfl,⟨rfl,rfl,rfl,rfl,trivial⟩,rfl,rfl,rfl,rfl,rfl,rfl,rfl,rfl⟩
 ·have hlt:t.var.toNat < e.length:=by omega
  have h1:vA (bz e) t=(bz e)[t.var.toNat]'(by rw [outE_len];exact hlt):=by unfold vA;rw [if_neg hv,List.getD,List.getElem?_eq_getElem (by rw [outE_len];exact hlt)];rfl
  have h2:(vOf e t).isSome=(b5 e)[t.var.toNat]'(by rw [cp];exact hlt):=by
   unfold vOf b5;rw [if_neg hv,List.getD,List.getElem?_eq_getElem hlt,List.getElem_map];rfl
  rw [h1,h2]
  repeat' (first|refine z0 ?_|apply ag|refine z5 ?_|refine z10 ?_|apply ae|refine z16 ?_|refine z20 ?_|apply ai|apply ak|apply aa|apply av|refine z1 ?_|(refine z23 ?_ ?_ <;> intro hg)|fail)
  all_goals try (exfalso;omega)
  exact⟨.inl rfl,_,rfl,id,4,_,pfH r S e out,rfl,⟨rfl,rfl,rfl,rfl,trivial⟩,rfl,rfl,rfl,rfl,rfl,rfl,rfl,rfl⟩
set_option maxHeartbeats 8000000 in
theorem values_fn (r:Rul) (S:List Fct) (out:List (List Int)) (e:RE) (l:List Trm) (ho:∀ t∈l,okT e.length t) (hl:l.length≤4398046511104) :
  FnOk false Tryz.prog tab b8 128 [.loc 0 0,.d (.slice 2 (l.map bm))] 4 4 (pfH r S e out)
   (fun _ res H=>res=(if l.all (fun t=>(vOf e t).isSome) then .tup [.d (.slice 1 ((l.map (vA (bz e))).map bf)),.d (.bool true)] else .tup [.d (.slice 1 []),.d (.bool false)])∧H=pfH r S e out):=by
 refine cr _ Tryz.func128 rfl rfl (by kernel_rfl) ?_
 intro O w0 E0 β0
 have ll:(l.map bm).length=l.length:=List.length_map _
 repeat' ((fail_if_success (apply dw_stopR 2));(first|refine z0 ?_|apply ag|apply ae|refine z16 ?_|apply aa))
 refine bl (ent_nilrow (t:=6) 3 1 rfl) ?_
 repeat' (first|refine z0 ?_|apply ag|apply ae|refine z16 ?_|apply ah|apply aa)
 refine bh (ι:=Nat) (fun i=>⟨5,[(0,.loc 0 0),(1,.d (.slice 2 (l.map bm))),(6,.row 4),(11,.d (.slice 2 (l.map bm))),(12,.d (.int .i64 l.length)),(13,.d (.int .i64 i))],(4,.row 3 1 (((l.take i).map (vA (bz e))).map bf))::pfH r S e out⟩)
  (fun i=>i≤l.length∧(l.take i).all (fun t=>(vOf e t).isSome)=true) (fun i=>l.length - i) 0 ⟨Nat.zero_le _,rfl⟩ (aj id ⟨rfl,rfl,rfl,rfl,by rw [← ll];rfl,rfl,trivial⟩ ⟨rfl,rfl,rfl,rfl,rfl,trivial⟩ rfl rfl rfl rfl rfl rfl) ?_
 rintro i ⟨g1,g2⟩
 dsimp only at g1 g2 ⊢
 by_cases hi:i < l.length
 ·have w:=value_fn r S out e l[i] (ho _ (List.getElem_mem hi))
  have ht:l.take (i + 1)=l.take i++[l[i]]:=List.take_succ_eq_append_getElem hi
  repeat' (first|refine z0 ?_|apply ag|apply ae|refine z16 ?_|apply ah|apply ai|apply aq|apply ak|apply aa|apply ap|refine z17 ?_|refine z1 ?_|refine z3 ?_|(refine z23 ?_ ?_ <;> intro hg)|fail)
  all_goals try (exfalso;omega)
  (refine bx id (w) rfl rfl rfl rfl ⟨rfl,rfl,rfl,rfl,trivial⟩ rfl rfl rfl rfl rfl rfl ?_ ?_)
  ·rintro k2 res H2 ⟨rfl,rfl⟩;exact⟨rfl,rfl⟩
  rintro k2 res H2 ⟨rfl,rfl⟩
  change DS _ _ _ _ _ _ _ _
  cases hs:(vOf e l[i]).isSome with
  | false =>
   have hall:l.all (fun t=>(vOf e t).isSome)=false:=by rw [List.all_eq_false];exact⟨_,List.getElem_mem hi,by rw [hs];simp⟩
   rw [hall]
   simp only [Bool.false_eq_true,if_false]
   repeat' (first|refine z0 ?_|apply ag|apply ae|refine z16 ?_|refine z18 ?_|apply aa)
   all_goals try (exfalso;omega)
   refine bl (dc 4 1 rfl) ?_
   repeat' (first|apply ak|apply av|apply bq)
   exact⟨.inl rfl,_,rfl,id,4,_,pfH r S e out,rfl,⟨rfl,rfl,rfl,rfl,trivial⟩,rfl,rfl,rfl,rfl,rfl,rfl,rfl,rfl⟩
  | true =>
   repeat' (first|refine z0 ?_|apply ag|apply ae|refine z16 ?_|apply ai|refine z19 ?_|apply aa|apply aw|refine z4 ?_|refine z2 ?_|fail)
   all_goals try (exfalso;omega)
   exact⟨i + 1,⟨hi,by rw [ht,List.all_append,g2];simp [hs]⟩,aj (fun j=>match j with|4=>6|j=>j) ⟨rfl,rfl,rfl,rfl,rfl,rfl,trivial⟩ ⟨by rw [ht,List.map_append,List.map_append];rfl,rfl,rfl,rfl,rfl,trivial⟩ rfl rfl rfl rfl rfl rfl,by omega⟩
 ·rw [List.take_of_length_le (by omega)] at g2 ⊢
  rw [g2,if_pos rfl]
  repeat' (first|refine z0 ?_|apply ag|apply ae|refine z16 ?_|apply ah|apply ai|apply aq|apply aa|apply ap|refine z17 ?_|refine z1 ?_|refine z3 ?_|(refine z23 ?_ ?_ <;> intro hg)|fail)
  all_goals try (exfalso;omega)
  refine bl (cg 4 rfl rfl rfl) ?_
  repeat' (apply ak)
  exact⟨.inl rfl,_,rfl,id,4,_,pfH r S e out,rfl,⟨rfl,rfl,rfl,rfl,trivial⟩,rfl,rfl,rfl,rfl,rfl,rfl,rfl,rfl⟩
set_option maxHeartbeats 8000000 in
theorem calc_fn (op a b:Int) (ha:-1000000≤a∧a≤1000000) (hb:-1000000≤b∧b≤1000000):Fn 129 [.d (.int .i64 op),.d (.int .i64 a),.d (.int .i64 b)] (fun r=>r = .d (.int .i64 (calcE op a b))):=by
 refine au _ Tryz.func129 rfl rfl (by kernel_rfl) ?_
 intro O w0 E0 β0
 have hm:-1000000000000≤a * b∧a * b≤1000000000000:=by
  have h1:a.natAbs≤1000000:=by omega
  have h2:b.natAbs≤1000000:=by omega
  have h3:(a * b).natAbs≤1000000 * 1000000:=by rw [Int.natAbs_mul];exact Nat.mul_le_mul h1 h2
  omega
 unfold calcE
 by_cases h5:op=5
 ·rw [if_pos h5]
  repeat' (first|refine z0 ?_|apply ag|apply ae|refine z16 ?_|apply ah|apply ai|apply ak|apply aa|apply av|apply aw|apply bq|(refine z23 ?_ ?_ <;> intro hg)|fail)
  all_goals try (exfalso;omega)
  all_goals exact⟨.inl rfl,_,rfl,rfl,rfl⟩
 ·rw [if_neg h5]
  by_cases h6:op=6
  ·rw [if_pos h6]
   repeat' (first|refine z0 ?_|apply ag|apply ae|refine z16 ?_|apply ah|apply ai|apply ak|apply aa|apply av|apply aw|apply bq|(refine z23 ?_ ?_ <;> intro hg)|fail)
   all_goals try (exfalso;omega)
   all_goals exact⟨.inl rfl,_,rfl,rfl,rfl⟩
  ·rw [if_neg h6]
   repeat' (first|refine z0 ?_|apply ag|apply ae|refine z16 ?_|apply ah|apply ai|apply ak|apply aa|apply av|apply aw|apply bq|(refine z23 ?_ ?_ <;> intro hg)|fail)
   all_goals try (exfalso;omega)
   exact⟨.inl rfl,_,rfl,rfl,rfl⟩
set_option maxHeartbeats 8000000 in
theorem test_fn (op a b:Int):Fn 130 [.d (.int .i64 op),.d (.int .i64 a),.d (.int .i64 b)] (fun r=>r = .d (.bool (testE op a b))):=by
 refine au _ Tryz.func130 rfl rfl (by kernel_rfl) ?_
 intro O w0 E0 β0
 unfold testE
 by_cases h1:op=1
 ·rw [if_pos h1]
  repeat' (first|refine z0 ?_|apply ag|apply ae|refine z16 ?_|apply ah|apply ai|apply ak|apply aa|apply av|apply aw|apply bq|(refine z23 ?_ ?_ <;> intro hg)|fail)
  all_goals try (exfalso;omega)
  all_goals exact⟨.inl rfl,_,rfl,rfl,rfl⟩
 ·rw [if_neg h1]
  by_cases h2:op=2
  ·rw [if_pos h2]
   repeat' (first|refine z0 ?_|apply ag|apply ae|refine z16 ?_|apply ah|apply ai|apply ak|apply aa|apply av|apply aw|apply bq|(refine z23 ?_ ?_ <;> intro hg)|fail)
   all_goals try (exfalso;omega)
   all_goals exact⟨.inl rfl,_,rfl,rfl,rfl⟩
  ·rw [if_neg h2]
   by_cases h3:op=3
   ·rw [if_pos h3]
    repeat' (first|refine z0 ?_|apply ag|apply ae|refine z16 ?_|apply ah|apply ai|apply ak|apply aa|apply av|apply aw|apply bq|(refine z23 ?_ ?_ <;> intro hg)|fail)
    all_goals try (exfalso;omega)
    all_goals exact⟨.inl rfl,_,rfl,rfl,rfl⟩
   ·rw [if_neg h3]
    repeat' (first|refine z0 ?_|apply ag|apply ae|refine z16 ?_|apply ah|apply ai|apply ak|apply aa|apply av|apply aw|apply bq|(refine z23 ?_ ?_ <;> intro hg)|fail)
    all_goals try (exfalso;omega)
    exact⟨.inl rfl,_,rfl,rfl,rfl⟩
def unset (e:RE) (vs:List Int):RE:=vs.foldl (fun e v=>e.set v.toNat none) e
theorem unset_len:∀ (vs:List Int) (e:RE),(unset e vs).length=e.length
 | [],_=>rfl
 | v::vs,e=>by
  show (unset (e.set v.toNat none) vs).length=_
  rw [unset_len vs,List.length_set]
theorem unset_set:∀ (vs:List Int) (e:RE) (v:Nat) (y:Option Int),(∀ u∈vs,u.toNat≠v)→unset (e.set v y) vs=(unset e vs).set v y
 | [],_,_,_,_=>rfl
 | u::vs,e,v,y,h=>by
  show unset ((e.set v y).set u.toNat none) vs=(unset (e.set u.toNat none) vs).set v y
  rw [List.set_comm _ _ (Ne.symm (h u (List.mem_cons_self ..)) ),unset_set vs _ v y fun x hx=>h x (List.mem_cons_of_mem _ hx)]
theorem unset_get:∀ (vs:List Int) (e:RE) (v:Nat),(∀ u∈vs,u.toNat≠v)→(unset e vs)[v]? = e[v]?
 | [],_,_,_=>rfl
 | u::vs,e,v,h=>by
  show (unset (e.set u.toNat none) vs)[v]? = _
  rw [unset_get vs _ v fun x hx=>h x (List.mem_cons_of_mem _ hx),List.getElem?_set_ne (h u (List.mem_cons_self ..))]
theorem unset_snoc {e:RE} {vs:List Int} {v:Int} {y:Option Int} (hv:e[v.toNat]? = some none) (h:∀ u∈vs,u.toNat≠v.toNat):unset (e.set v.toNat y) (vs++[v])=unset e vs:=by
 have:unset (e.set v.toNat y) (vs++[v])=(unset (e.set v.toNat y) vs).set v.toNat none:=by unfold unset;rw [List.foldl_append];rfl
 rw [this,unset_set vs e _ _ h,List.set_set]
 have hg:=unset_get vs e v.toNat h
 rw [hv] at hg
 apply List.ext_getElem?
 intro j
 by_cases hj:v.toNat=j
 ·subst hj
  rw [hg,List.getElem?_set_self (List.getElem?_eq_some_iff.1 hg).1]
 ·rw [List.getElem?_set_ne hj]
theorem unset_take {e:RE} {vs:List Int} {k:Nat} (hk:k < vs.length):unset e (vs.take (k + 1))=(unset e (vs.take k)).set vs[k].toNat none:=by
 unfold unset;rw [List.take_succ_eq_append_getElem hk,List.foldl_append];rfl
theorem outE_unset (e:RE) (v:Nat):bz (e.set v none)=(bz e).set v 0:=by unfold bz;rw [List.map_set];rfl
theorem hasE_unset (e:RE) (v:Nat):b5 (e.set v none)=(b5 e).set v false:=by unfold b5;rw [List.map_set];rfl
theorem outE_set' (e:RE) (v:Nat) (x:Int):bz (e.set v (some x))=(bz e).set v x:=by unfold bz;rw [List.map_set];rfl
theorem hasE_set' (e:RE) (v:Nat) (x:Int):b5 (e.set v (some x))=(b5 e).set v true:=by unfold b5;rw [List.map_set];rfl
abbrev goH (r:Rul) (S:List Fct) (rest:List Ltl) (e:RE) (out:List (List Int)):Hp:=[(0,pfB r S 5),(1,.row 3 1 ((bz e).map bf)),(2,.row 4 1 ((b5 e).map cu)),(3,.blk 131 [.loc 0 0]),(4,.blk 34 [.d (.slice 4 (rest.map bp))]),(5,.row 22 1 (out.map encW))]
def putW (w out:List (List Int)):List (List Int):=(out++w).take 2001
def fewW (w out:List (List Int)):Bool:=decide (out.length + w.length≤2000)
theorem putW_nil {out:List (List Int)} (h:out.length≤2000):putW [] out=out:=by unfold putW;rw [List.append_nil,List.take_of_length_le (by omega)]
theorem fewW_nil {out:List (List Int)} (h:out.length≤2000):fewW [] out=true:=by unfold fewW;simp;omega
def matW (W:RE→List (List Int)) (o:Option RE):List (List Int):=match o with|some e'=>W e'|none=>[]
theorem rowOk {α:Type} {f:α→List D} {l:List α} {i:Nat} (h:i < l.length) (hf:∀ x,(f x).length=1):i < (l.map f).length∧∀ y∈l.map f,y.length=1:=⟨by rw [List.length_map];exact h,fun y hy=>by obtain⟨z,_,rfl⟩:=List.mem_map.1 hy;exact hf z⟩
set_option maxHeartbeats 8000000 in
theorem match_fnR (r:Rul) (S:List Fct) (rest:List Ltl) (out:List (List Int)) (e:RE) (l:List Trm) (ns:List Int) (W:RE→List (List Int)) (hl:l.length=ns.length) (hl3:l.length≤1000) (ho:∀ t∈l,okT e.length t) (hout:out.length≤2000)
  (hthen:∀ e',cn e l ns=some e'→FnOk false Tryz.prog tab b8 126 [.loc 3 0,.loc 4 0] 5 6 (goH r S rest e' out) (fun k2 res H=>k2=6∧res = .d (.bool (fewW (W e') out))∧H=goH r S rest e' (putW (W e') out))) :
  FnOk false Tryz.prog tab b8 127 [.loc 0 0,.d (.slice 2 (l.map bm)),.d (.slice 1 (ns.map bf)),.fn 126 [.loc 3 0,.loc 4 0]] 5 6 (goH r S rest e out)
   (fun k2 res H=>k2=6∧res = .d (.bool (fewW (matW W (cn e l ns)) out))∧H=goH r S rest e (putW (matW W (cn e l ns)) out)):=by
 refine cr _ Tryz.func127 rfl rfl (by kernel_rfl) ?_
 intro O w0 E0 β0
 have ll:(l.map bm).length=l.length:=List.length_map _
 have ln:(ns.map bf).length=ns.length:=List.length_map _
 repeat' ((fail_if_success (apply dw_stopR 3));(first|refine z0 ?_|apply ag|apply ae|refine z16 ?_|apply aa))
 refine bl (ent_nilrow (t:=9) 3 1 rfl) ?_
 refine dw_cut (ι:=RE × List Int × Bool) (fun x=>⟨7,[(0,.loc 0 0),(3,.fn 126 [.loc 3 0,.loc 4 0]),(9,.row 6),(10,.d (.bool x.2.2))],(6,.row 3 1 (x.2.1.map bf))::goH r S rest x.1 out⟩)
  (fun x=>x.1.length=e.length∧unset x.1 x.2.1=e∧(∀ u∈x.2.1,0≤u∧∃ y,x.1[u.toNat]? = some (some y))∧(x.2.2=true→cn e l ns=some x.1)∧(x.2.2=false→cn e l ns=none)∧x.2.1.length≤l.length) ?_ ?_
 ·repeat' (first|refine z0 ?_|apply ag|apply ae|refine z16 ?_|apply ah|apply aa)
  refine bh (ι:=Nat × RE × List Int) (fun x=>⟨7,[(0,.loc 0 0),(1,.d (.slice 2 (l.map bm))),(2,.d (.slice 1 (ns.map bf))),(3,.fn 126 [.loc 3 0,.loc 4 0]),(9,.row 6),(10,.d (.bool true)),(18,.d (.slice 2 (l.map bm))),(19,.d (.int .i64 l.length)),(20,.d (.int .i64 x.1))],(6,.row 3 1 (x.2.2.map bf))::goH r S rest x.2.1 out⟩)
   (fun x=>x.1≤l.length∧x.2.1.length=e.length∧cn e l ns=cn x.2.1 (l.drop x.1) (ns.drop x.1)∧unset x.2.1 x.2.2=e∧(∀ u∈x.2.2,0≤u∧∃ y,x.2.1[u.toNat]? = some (some y))∧x.2.2.length≤x.1) (fun x=>l.length - x.1) (0,e,[]) ⟨Nat.zero_le _,rfl,rfl,rfl,fun _ h=>(by simp at h),Nat.le_refl _⟩
   (aj id ⟨rfl,rfl,rfl,rfl,rfl,rfl,rfl,by rw [← ll];rfl,rfl,trivial⟩ ⟨rfl,rfl,rfl,rfl,rfl,rfl,rfl,trivial⟩ rfl rfl rfl rfl rfl rfl) ?_
  rintro⟨i,ei,vs⟩ ⟨g1,g2,g3,g4,g5,g6⟩
  dsimp only at g1 g2 g3 g4 g5 g6 ⊢
  clear hthen
  by_cases hi:i < l.length
  ·have hoi:=ho _ (List.getElem_mem hi)
   rw [← g2] at hoi
   have w:=value_fn r S out ei l[i] hoi
   have hn:i < ns.length:=by omega
   rw [List.drop_eq_getElem_cons hi,List.drop_eq_getElem_cons hn,cn] at g3
   repeat' (first|refine z0 ?_|apply ag|apply ae|refine z16 ?_|apply ah|apply ai|apply aq|apply aa|apply ap|refine z17 ?_|refine z1 ?_|refine z3 ?_|(refine z23 ?_ ?_ <;> intro hg)|fail)
   all_goals try (exfalso;omega)
   refine bx (fun j=>match j with|3=>5|j=>j) w rfl rfl rfl rfl ⟨rfl,rfl,rfl,rfl,trivial⟩ rfl rfl rfl rfl rfl rfl ?_ ?_
   ·rintro k2 res H2 ⟨rfl,rfl⟩;exact⟨rfl,rfl⟩
   rintro k2 res H2 ⟨rfl,rfl⟩
   change DS _ _ _ _ _ _ _ _
   clear w
   cases hv:vOf ei l[i] with
   | some x =>
    have hx:vA (bz ei) l[i]=x:=vOf_out hv
    rw [hv] at g3
    simp only at g3
    rw [hx]
    by_cases hc:x=ns[i]
    ·rw [if_pos hc] at g3
     repeat' (first|refine z0 ?_|apply ag|apply ae|refine z16 ?_|apply ah|apply ai|apply aq|refine z18 ?_|refine z19 ?_|apply aa|apply ap|apply aw|refine z17 ?_|(apply inB_x;exact rfl)|(refine z23 ?_ ?_ <;> intro hg)|fail)
     all_goals try (exfalso;omega)
     exact⟨(i + 1,ei,vs),⟨hi,g2,g3,g4,g5,by dsimp only;omega⟩,aj id ⟨rfl,rfl,rfl,rfl,rfl,rfl,rfl,rfl,rfl,trivial⟩ ⟨rfl,rfl,rfl,rfl,rfl,rfl,rfl,trivial⟩ rfl rfl rfl rfl rfl rfl,by show l.length - (i + 1) < l.length - i;omega⟩
    ·rw [if_neg hc] at g3
     repeat' (first|refine z0 ?_|apply ag|apply ae|refine z16 ?_|apply ah|apply ai|apply aq|refine z18 ?_|refine z19 ?_|apply aa|apply ap|apply aw|refine z17 ?_|(apply inB_x;exact rfl)|(refine z23 ?_ ?_ <;> intro hg)|fail)
     all_goals try (exfalso;omega)
     exact⟨(ei,vs,false),⟨g2,g4,g5,(fun h=>(nomatch h)),fun _=>g3,by dsimp only;omega⟩,aj id ⟨rfl,rfl,rfl,rfl,trivial⟩ ⟨rfl,rfl,rfl,rfl,rfl,rfl,rfl,trivial⟩ rfl rfl rfl rfl rfl rfl⟩
   | none =>
    rw [hv] at g3
    simp only at g3
    have hv0:¬ l[i].var < 0:=fun h=>by unfold vOf at hv;rw [if_pos h] at hv;cases hv
    unfold okT at hoi
    have hlt:l[i].var.toNat < ei.length:=by omega
    have hev:ei[l[i].var.toNat]? = some none:=by
     unfold vOf at hv
     rw [if_neg hv0,List.getD,List.getElem?_eq_getElem hlt] at hv
     rw [List.getElem?_eq_getElem hlt]
     simpa using hv
    have lo:((bz ei).map bf).length=ei.length:=by rw [List.length_map,outE_len]
    have lh:((b5 ei).map cu).length=ei.length:=by rw [List.length_map,cp]
    have hpm:l[i].var.toNat < ((bz ei).map bf).length∧∀ y∈(bz ei).map bf,y.length=1:=rowOk (by rw [outE_len];exact hlt) fun _=>rfl
    have hpk:l[i].var.toNat < ((b5 ei).map cu).length∧∀ y∈(b5 ei).map cu,y.length=1:=rowOk (by rw [cp];exact hlt) fun _=>rfl
    have hne:∀ u∈vs,u.toNat≠l[i].var.toNat:=fun u hu he=>by
     obtain⟨_,y,hy⟩:=g5 u hu
     rw [he,hev] at hy;cases hy
    repeat' (first|refine z0 ?_|refine z12 ?_|apply ag|refine z5 ?_|refine z6 ?_|refine z10 ?_|apply ae|refine z16 ?_|refine z20 ?_|apply ah|apply ai|refine z18 ?_|refine z19 ?_|apply aa|apply aw|refine z4 ?_|refine z2 ?_|fail)
    all_goals try (exfalso;omega)
    have o1:=outE_set' ei l[i].var.toNat ns[i]
    have o2:=hasE_set' ei l[i].var.toNat ns[i]
    refine⟨(i + 1,ei.set l[i].var.toNat (some ns[i]),vs++[l[i].var]),⟨hi,by dsimp only;rw [List.length_set];exact g2,g3,(unset_snoc hev hne).trans g4,fun u hu=>?_,by dsimp only;rw [List.length_append,List.length_singleton];omega⟩,
     aj (fun j=>match j with|6=>8|j=>j) ⟨rfl,rfl,rfl,rfl,rfl,rfl,rfl,rfl,rfl,trivial⟩ ⟨by rw [List.map_append];rfl,rfl,by rw [o1,List.map_set];rfl,by rw [o2,List.map_set];rfl,rfl,rfl,rfl,trivial⟩ rfl rfl rfl rfl rfl rfl,by show l.length - (i + 1) < l.length - i;omega⟩
    rcases List.mem_append.1 hu with hu|hu
    ·obtain⟨q1,y,q2⟩:=g5 u hu
     exact⟨q1,y,by dsimp only;rw [List.getElem?_set_ne (Ne.symm (hne u hu))];exact q2⟩
    ·rw [List.mem_singleton] at hu;subst hu
     exact⟨by omega,ns[i],by dsimp only;rw [List.getElem?_set_self hlt]⟩
  ·rw [List.drop_of_length_le (by omega)] at g3
   have g3:cn e l ns=some ei:=g3
   repeat' (first|refine z0 ?_|apply ag|apply ae|refine z16 ?_|apply ah|apply ai|apply aq|apply aa|apply ap|refine z17 ?_|refine z1 ?_|refine z3 ?_|(refine z23 ?_ ?_ <;> intro hg)|fail)
   all_goals try (exfalso;omega)
   exact⟨(ei,vs,true),⟨g2,g4,g5,fun _=>g3,(fun h=>(nomatch h)),by dsimp only;omega⟩,aj id ⟨rfl,rfl,rfl,rfl,trivial⟩ ⟨rfl,rfl,rfl,rfl,rfl,rfl,rfl,trivial⟩ rfl rfl rfl rfl rfl rfl⟩
 ·rintro⟨ei,vs,ok⟩ ⟨g2,g4,g5,g7,g8,g9⟩
  dsimp only at g2 g4 g5 g7 g8 g9 ⊢
  repeat' ((fail_if_success (apply cv 14));fail)
  refine dw_cut (ι:=Unit) (fun _=>⟨7,[(0,.loc 0 0),(9,.row 6),(15,.d (.bool (fewW (matW W (cn e l ns)) out)))],(6,.row 3 1 (vs.map bf))::goH r S rest ei (putW (matW W (cn e l ns)) out)⟩) (fun _=>True) ?_ ?_
  ·cases ok with
   | false =>
    have hm:=g8 rfl
    rw [hm,show matW W none=[] from rfl,fewW_nil hout,putW_nil hout]
    repeat' (first|refine z0 ?_|refine z12 ?_|apply ag|refine z16 ?_|apply aa)
    all_goals try (exfalso;omega)
    exact⟨(),trivial,aj id ⟨rfl,rfl,rfl,trivial⟩ ⟨rfl,rfl,rfl,rfl,rfl,rfl,rfl,trivial⟩ rfl rfl rfl rfl rfl rfl⟩
   | true =>
    have hm:=g7 rfl
    have w:=hthen ei hm
    rw [hm,show matW W (some ei)=W ei from rfl]
    repeat' (first|refine z0 ?_|refine z16 ?_|fail)
    all_goals try (exfalso;omega)
    (refine ds_callVF id (w) rfl rfl rfl rfl rfl rfl ⟨rfl,rfl,rfl,rfl,rfl,rfl,trivial⟩ rfl rfl rfl rfl rfl rfl ?_ ?_)
    ·rintro k2 res H2 ⟨rfl,rfl,rfl⟩;exact⟨rfl,rfl⟩
    rintro k2 res H2 ⟨rfl,rfl,rfl⟩
    change DS _ _ _ _ _ _ _ _
    repeat' (first|refine z0 ?_|apply ag|apply aa)
    all_goals try (exfalso;omega)
    exact⟨(),trivial,aj (fun j=>match j with|5=>12|j=>j) ⟨rfl,rfl,rfl,trivial⟩ ⟨rfl,rfl,rfl,rfl,rfl,rfl,rfl,trivial⟩ rfl rfl rfl rfl rfl rfl⟩
  ·clear hthen
   rintro _ _
   generalize fewW (matW W (cn e l ns)) out=bb
   generalize putW (matW W (cn e l ns)) out=o2
   have lv:(vs.map bf).length=vs.length:=List.length_map _
   repeat' (first|refine z0 ?_|apply ag|apply ae|refine z16 ?_|apply ah|apply aa)
   all_goals try (exfalso;omega)
   refine bh (ι:=Nat) (fun i=>⟨7,[(0,.loc 0 0),(9,.row 6),(15,.d (.bool bb)),(76,.row 6),(77,.d (.int .i64 vs.length)),(78,.d (.int .i64 i))],(6,.row 3 1 (vs.map bf))::goH r S rest (unset ei (vs.take i)) o2⟩)
    (fun i=>i≤vs.length) (fun i=>vs.length - i) 0 (Nat.zero_le _) (aj id ⟨rfl,rfl,rfl,rfl,by rw [← lv];rfl,rfl,trivial⟩ ⟨rfl,rfl,rfl,rfl,rfl,rfl,rfl,trivial⟩ rfl rfl rfl rfl rfl rfl) ?_
   intro i g1
   by_cases hi:i < vs.length
   ·obtain⟨h0,y,hy⟩:=g5 _ (List.getElem_mem hi)
    have hlt:vs[i].toNat < (unset ei (vs.take i)).length:=by rw [unset_len];exact (List.getElem?_eq_some_iff.1 hy).1
    have ht:=unset_take (e:=ei) hi
    have o1:=outE_unset (unset ei (vs.take i)) vs[i].toNat
    have o2':=hasE_unset (unset ei (vs.take i)) vs[i].toNat
    have lo:((bz (unset ei (vs.take i))).map bf).length=(unset ei (vs.take i)).length:=by rw [List.length_map,outE_len]
    have lh:((b5 (unset ei (vs.take i))).map cu).length=(unset ei (vs.take i)).length:=by rw [List.length_map,cp]
    have hpm:vs[i].toNat < ((bz (unset ei (vs.take i))).map bf).length∧∀ y∈(bz (unset ei (vs.take i))).map bf,y.length=1:=rowOk (by rw [outE_len];exact hlt) fun _=>rfl
    have hpk:vs[i].toNat < ((b5 (unset ei (vs.take i))).map cu).length∧∀ y∈(b5 (unset ei (vs.take i))).map cu,y.length=1:=rowOk (by rw [cp];exact hlt) fun _=>rfl
    repeat' (first|refine z0 ?_|apply ag|refine z5 ?_|refine z6 ?_|refine z10 ?_|apply ae|refine z16 ?_|refine z20 ?_|apply ah|apply ai|apply aq|apply ak|apply aa|apply ap|apply aw|refine z17 ?_|(refine z23 ?_ ?_ <;> intro hg)|fail)
    all_goals try (exfalso;omega)
    exact⟨i + 1,hi,aj id ⟨rfl,rfl,rfl,rfl,rfl,rfl,trivial⟩ ⟨rfl,rfl,by rw [ht,o1,List.map_set];rfl,by rw [ht,o2',List.map_set];rfl,rfl,rfl,rfl,trivial⟩ rfl rfl rfl rfl rfl rfl,by omega⟩
   ·rw [List.take_of_length_le (by omega),g4]
    repeat' (first|refine z0 ?_|apply ag|refine z5 ?_|refine z6 ?_|refine z10 ?_|apply ae|refine z16 ?_|refine z20 ?_|apply ah|apply ai|apply aq|apply ak|apply aa|apply ap|apply aw|refine z17 ?_|(refine z23 ?_ ?_ <;> intro hg)|fail)
    all_goals try (exfalso;omega)
    exact⟨.inl rfl,_,rfl,id,6,_,goH r S rest e o2,rfl,⟨rfl,rfl,rfl,rfl,rfl,rfl,trivial⟩,rfl,rfl,rfl,rfl,rfl,rfl,rfl,rfl,rfl⟩
theorem sum_takeL {α:Type} {ls:List (List α)} {i:Nat} (hi:i < ls.length):((ls.take (i + 1)).map List.length).sum=((ls.take i).map List.length).sum + ls[i].length:=by
 rw [List.take_succ_eq_append_getElem hi,List.map_append,List.sum_append];rfl
theorem sum_leL {α:Type} (ls:List (List α)) (i:Nat):((ls.take i).map List.length).sum≤(ls.map List.length).sum:=by
 have h:(ls.map List.length).sum=((ls.take i).map List.length).sum + ((ls.drop i).map List.length).sum:=by rw [← List.sum_append,← List.map_append,List.take_append_drop]
 omega
end Go.Proofs.YtapciiffpnociacGreat
