/- Several texts in one: ChA VwG VwH VwI GxArg DagZ VwJ DagM DagN VwM ChB ChC ChE VwO VwK VwL VwQ PrgIn. Condition: none. -/
import Derived.Test.YtapciiffpnociaaGreatP24
import Derived.Test.YtapciiffpnociaaGreatP16
import Derived.Test.YtapciiffpnociaaGreatP20
import Derived.Test.YtapciiffpnociaaGreatP03
import Derived.Test.YtapciiffpnociaaGreatP12
import Derived.Test.YtapciiffpnociaaGreatP10
namespace Go.Proofs.YtapciiffpnociaaGreat
open Go Go.RowKit
def encL (l:List Fct):List D:=[.slice 2 (l.map a6)]
abbrev elChg (came went:List Fct):SV:=.agg [.d (.slice 2 (came.map a6)),.d (.slice 2 (went.map a6))]
def l7 (e:Int) (x:List Fct):Int:=if e=0∧60 < x.length then 2 else e
def rightF (arity:List Int) (e:Int) (x:List Fct):Int:=if e=0 then factsE arity x else e
def putE (arity:List Int) (e:Int) (puts takes:List Fct):Int:=[puts,takes].foldl (rightF arity) ([puts,takes].foldl l7 e)
def chgE (arity:List Int) (e:Int) (was m puts takes:List Fct):Int:=if putE arity e puts takes=0∧fx Fct.same was (bq m)=false then 4 else putE arity e puts takes
def givenL (l puts takes:List Fct):List Fct:=bq (bq (eh l takes)++puts)
theorem many_ne {e:Int} (h:e≠0) (x:List Fct):l7 e x=e:=by unfold l7;rw [if_neg (fun hc=>h hc.1)]
theorem right_ne {arity:List Int} {e:Int} (h:e≠0) (x:List Fct):rightF arity e x=e:=by unfold rightF;rw [if_neg h]
theorem putE_ne {arity:List Int} {e:Int} (h:e≠0) (puts takes:List Fct):putE arity e puts takes=e:=by
 unfold putE
 simp only [List.foldl_cons,List.foldl_nil]
 rw [many_ne h,many_ne h,right_ne h,right_ne h]
theorem putE_zero {arity:List Int} {e:Int} {puts takes:List Fct} (h:putE arity e puts takes=0):e=0∧puts.length≤60∧takes.length≤60∧(∀ x∈puts,FctOk arity x)∧∀ x∈takes,FctOk arity x:=by
 have h0:e=0:=Classical.byContradiction fun hn=>hn ((putE_ne hn puts takes).symm.trans h)
 subst h0
 unfold putE at h
 simp only [List.foldl_cons,List.foldl_nil] at h
 by_cases h1:60 < puts.length
 ·exfalso
  rw [show l7 0 puts=2 by unfold l7;rw [if_pos ⟨rfl,h1⟩],many_ne (by simp),right_ne (e:=2) (by simp),right_ne (e:=2) (by simp)] at h
  cases h
 rw [show l7 0 puts=0 by unfold l7;rw [if_neg (fun hc=>h1 hc.2)]] at h
 by_cases h2:60 < takes.length
 ·exfalso
  rw [show l7 0 takes=2 by unfold l7;rw [if_pos ⟨rfl,h2⟩],right_ne (e:=2) (by simp),right_ne (e:=2) (by simp)] at h
  cases h
 rw [show l7 0 takes=0 by unfold l7;rw [if_neg (fun hc=>h2 hc.2)],show rightF arity 0 puts=factsE arity puts by unfold rightF;rw [if_pos rfl]] at h
 by_cases h3:factsE arity puts=0
 ·rw [h3,show rightF arity 0 takes=factsE arity takes by unfold rightF;rw [if_pos rfl]] at h
  exact⟨rfl,by omega,by omega,(factsE_ok h3).2,(factsE_ok h).2⟩
 ·rw [right_ne h3] at h
  exact absurd h h3
theorem fold_tk {α β:Type} (f:β→α→β) (e:β) {l:List α} {i:Nat} (hi:i < l.length):(l.take (i + 1)).foldl f e=f ((l.take i).foldl f e) l[i]:=by
 rw [List.take_succ_eq_append_getElem hi,List.foldl_append];rfl
attribute [local irreducible] DW DS DL DQ Ev FnOk FnP em b9 DT
set_option maxHeartbeats 8000000 in
theorem csame1_fn (a b:Fct):Fn 57 ([ey a,ey b]++[]) (fun r=>r = .d (.bool (Fct.same a b))):=by
 refine ak _ Tryz.func57 rfl rfl (by kernel_rfl) ?_
 intro O w0 E0 β0
 have w1:=orderF_fn a b
 repeat' (first|refine z0 ?_|apply ag|apply ae|refine z16 ?_|apply aj|apply aa|refine z21 ?_ (hc:=by apply w1)|refine z1 ?_|fail)
 exact cm rfl rfl
set_option maxHeartbeats 8000000 in
theorem csame_fn (l m:List Fct):Fn 30 [.d (.slice 2 (l.map a6)),.d (.slice 2 (m.map a6))] (fun r=>r = .d (.bool (fx Fct.same l m))):=by
 refine ak _ Tryz.func30 rfl rfl (by kernel_rfl) ?_
 intro O w0 E0 β0
 have w1:=equalFunc_fn l m csame1_fn
 repeat' (first|refine z0 ?_|apply ag|apply ae|refine z16 ?_|apply aj|apply aa|refine z21 ?_ (hc:=by apply w1)|fail)
 exact cm rfl rfl
set_option maxHeartbeats 8000000 in
theorem between_fn' (m n:List Fct) (hm:m.length≤4398046511104) (hn:n.length≤4398046511104) (ha:∀ x∈m,x.args.length≤17592186044416) (hb:∀ x∈n,x.args.length≤17592186044416) :
  Fn 32 [.d (.slice 2 (m.map a6)),.d (.slice 2 (n.map a6))] (fun r=>r=elChg (bq (eh n m)) (bq (eh m n))):=by
 refine ak _ Tryz.func32 rfl rfl (by kernel_rfl) ?_
 intro O w0 E0 β0
 have w1:=minus_fn n m hn hm hb ha
 have w2:=minus_fn m n hm hn ha hb
 rw [minus_same] at w1 w2
 repeat' (first|refine z0 ?_|apply ag|apply ae|refine z16 ?_|apply aj|apply aa|refine z21 ?_ (hc:=by apply w1)|refine z21 ?_ (hc:=by apply w2)|refine z1 ?_|refine z3 ?_|fail)
 exact⟨.inl rfl,_,rfl,rfl,rfl⟩
set_option maxHeartbeats 8000000 in
theorem apply_fn (p:Prg) (l m puts takes:List Fct) (e e2:Int) (was now:List Fct) (hx:ModelR p l e was) (hy:ModelR p (givenL l puts takes) e2 now) (hm:m.length≤4398046511104) (ha:∀ x∈m,x.args.length≤17592186044416) :
  Fn 17 [jl p,.d (.slice 2 (l.map a6)),.d (.slice 2 (m.map a6)),.d (.slice 2 (puts.map a6)),.d (.slice 2 (takes.map a6))]
   (fun r=>r=if chgE p.arity e was m puts takes=0∧e2=0 then .tup [.d (.slice 2 ((givenL l puts takes).map a6)),.d (.slice 2 (now.map a6)),elChg (bq (eh now was)) (bq (eh was now)),.d (.int .i64 0)]
    else .tup [.d (.slice 2 (([]:List Fct).map a6)),.d (.slice 2 (([]:List Fct).map a6)),elChg [] [],.d (.int .i64 (if chgE p.arity e was m puts takes=0 then e2 else chgE p.arity e was m puts takes))]):=by
 refine ak _ Tryz.func17 rfl rfl (by kernel_rfl) ?_
 intro O w0 E0 β0
 have w1:=model_fn p l e was hx
 have w2:=model_fn p (givenL l puts takes) e2 now hy
 repeat' (first|refine z0 ?_|apply ag|apply ae|refine z16 ?_|apply ah|apply aa|refine z21 ?_ (hc:=by apply w1)|refine z1 ?_|refine z4 ?_|fail)
 obtain⟨xs,hxs⟩:∃ xs,xs=[puts,takes]:=⟨_,rfl⟩
 have hxl:xs.length=2:=by rw [hxs];rfl
 have hxm:(xs.map encL).length=2:=by rw [List.length_map];exact hxl
 refine bh (ι:=Nat) (fun i=>⟨2,[(1,.d (.slice 2 (l.map a6))),(2,.d (.slice 2 (m.map a6))),(3,.d (.slice 2 (puts.map a6))),(4,.d (.slice 2 (takes.map a6))),(5,.loc 0 0),(10,.nils),(11,.nils),(12,.loc 1 0),(14,.d (.slice 2 (was.map a6))),(15,.d (.int .i64 ((xs.take i).foldl l7 e))),(30,.d (.slice 1 (xs.map encL))),(31,.d (.int .i64 2)),(32,.d (.int .i64 i))],
   [(1,.blk 40 [.nils,.nils]),(0,.blk 26 [.d (.slice 1 (p.arity.map bi)),.d (.slice 1 (p.names.map encT)),.d (.slice 5 (p.rules.map dx))])]⟩)
  (fun i=>i≤2) (fun i=>2 - i) 0 (Nat.zero_le _) (ap id ⟨rfl,rfl,rfl,rfl,rfl,rfl,rfl,rfl,rfl,rfl,by rw [hxs];rfl,rfl,rfl,trivial⟩ ⟨rfl,rfl,trivial⟩ rfl rfl rfl rfl rfl rfl) ?_
 intro i g1
 dsimp only at g1 ⊢
 by_cases hi:i < xs.length
 ·have hst:=fold_tk l7 e hi
  have lx:(xs[i].map a6).length=xs[i].length:=List.length_map _
  generalize (xs.take i).foldl l7 e=ei at *
  repeat' (first|refine z0 ?_|refine z12 ?_|apply ag|apply ae|refine z16 ?_|apply ah|apply ai|apply au|refine z19 ?_|apply aa|apply aq|apply bg|refine z17 ?_|refine z4 ?_|(refine z23 ?_ ?_ <;> intro hg)|((fail_if_success (apply bk;exact rfl));apply bl;exact rfl;exact rfl;exact rfl;all_goals intro hg))
  all_goals try (exfalso;omega)
  all_goals refine⟨i + 1,by omega,ap id ⟨rfl,rfl,rfl,rfl,rfl,rfl,rfl,rfl,rfl,by rw [hst];unfold l7;first|(rw [if_pos ⟨by assumption,by omega⟩];rfl)|(rw [if_neg (by omega)];rfl),rfl,rfl,rfl,trivial⟩ ⟨rfl,rfl,trivial⟩ rfl rfl rfl rfl rfl rfl,by omega⟩
 ·rw [List.take_of_length_le (by omega)]
  repeat' (first|refine z0 ?_|refine z12 ?_|apply ag|apply ae|refine z16 ?_|apply ah|apply ai|apply au|refine z19 ?_|apply aa|apply aq|apply bg|refine z17 ?_|refine z4 ?_|(refine z23 ?_ ?_ <;> intro hg)|((fail_if_success (apply bk;exact rfl));apply bl;exact rfl;exact rfl;exact rfl;all_goals intro hg))
  all_goals try (exfalso;omega)
  refine bh (ι:=Nat) (fun i=>⟨2,[(1,.d (.slice 2 (l.map a6))),(2,.d (.slice 2 (m.map a6))),(3,.d (.slice 2 (puts.map a6))),(4,.d (.slice 2 (takes.map a6))),(5,.loc 0 0),(10,.nils),(11,.nils),(12,.loc 1 0),(14,.d (.slice 2 (was.map a6))),(15,.d (.int .i64 ((xs.take i).foldl (rightF p.arity) (xs.foldl l7 e)))),(46,.d (.slice 1 (xs.map encL))),(47,.d (.int .i64 2)),(48,.d (.int .i64 i))],
    [(1,.blk 40 [.nils,.nils]),(0,.blk 26 [.d (.slice 1 (p.arity.map bi)),.d (.slice 1 (p.names.map encT)),.d (.slice 5 (p.rules.map dx))])]⟩)
   (fun i=>i≤2) (fun i=>2 - i) 0 (Nat.zero_le _) (ap id ⟨rfl,rfl,rfl,rfl,rfl,rfl,rfl,rfl,rfl,rfl,by rw [hxs];rfl,rfl,rfl,trivial⟩ ⟨rfl,rfl,trivial⟩ rfl rfl rfl rfl rfl rfl) ?_
  intro i g1
  dsimp only at g1 ⊢
  by_cases hi:i < xs.length
  ·have hst:=fold_tk (rightF p.arity) (xs.foldl l7 e) hi
   have w3:=rights_fn p xs[i]
   generalize (xs.take i).foldl (rightF p.arity) (xs.foldl l7 e)=ei at *
   repeat' (first|refine z0 ?_|refine z12 ?_|apply ag|apply ae|refine z16 ?_|apply ah|apply ai|apply au|apply aj|refine z19 ?_|apply aa|apply aq|apply av|apply bg|refine z17 ?_|refine z21 ?_ (hc:=by apply w3)|refine z3 ?_|(refine z23 ?_ ?_ <;> intro hg)|((fail_if_success (apply bk;exact rfl));apply bl;exact rfl;exact rfl;exact rfl;all_goals intro hg))
   all_goals try (exfalso;omega)
   all_goals refine⟨i + 1,by omega,ap id ⟨rfl,rfl,rfl,rfl,rfl,rfl,rfl,rfl,rfl,by rw [hst];unfold rightF;first|(rw [if_pos (by assumption)];rfl)|(rw [if_neg (by omega)];rfl),rfl,rfl,rfl,trivial⟩ ⟨rfl,rfl,trivial⟩ rfl rfl rfl rfl rfl rfl,by omega⟩
  ·rw [List.take_of_length_le (by omega)]
   have hpe:xs.foldl (rightF p.arity) (xs.foldl l7 e)=putE p.arity e puts takes:=by rw [hxs];rfl
   rw [hpe]
   have w4:=set_fn m hm ha
   have w5:=csame_fn was (bq m)
   by_cases hE:putE p.arity e puts takes=0
   ·obtain⟨he0,p1,p2,p3,p4⟩:=putE_zero hE
    subst he0
    rw [hE]
    have hcc:chgE p.arity 0 was m puts takes=if fx Fct.same was (bq m)=false then 4 else 0:=by unfold chgE;rw [hE];simp
    have ho:=mOk hx.ok0
    have h3:∀ x:Fct,FctOk p.arity x→x.args.length≤17592186044416:=fun x hx=>by have:=fct_len ho.pr hx;omega
    have hll:=ho.len
    have hml:(bq (eh l takes)).length≤60:=Nat.le_trans (jf _) (Nat.le_trans (List.length_filter_le _ _) hll)
    have hma:∀ x∈bq (eh l takes),FctOk p.arity x:=fun x hx=>ho.facts x (List.mem_filter.1 (((bn _).2 x).1 hx)).1
    have w6:=minus_fn l takes (by omega) (by omega) (fun x hx=>h3 x (ho.facts x hx)) (fun x hx=>h3 x (p4 x hx))
    rw [minus_same] at w6
    have w7:=union_fn (bq (eh l takes)) puts (by omega) (fun x hx=>h3 x (hma x hx)) (fun x hx=>h3 x (p3 x hx))
    obtain⟨y1,y2,y3⟩:=hy.strict
    obtain⟨zz1,zz2,zz3⟩:=hx.strict
    have w8:=between_fn' was now (by omega) (by omega) (fun x hx=>h3 x (zz3 x hx)) (fun x hx=>h3 x (y3 x hx))
    cases hs:fx Fct.same was (bq m) with
    | false =>
     rw [hs] at w5
     rw [hs,if_pos rfl] at hcc
     rw [hcc,if_neg (by simp),if_neg (by simp)]
     clear w6 w7 w8
     repeat' (first|refine z0 ?_|apply ag|apply ae|refine z16 ?_|apply ah|apply ai|apply au|refine z18 ?_|apply aa|apply aq|refine z17 ?_|refine z21 ?_ (hc:=by apply w4)|refine z21 ?_ (hc:=by apply w5)|refine z3 ?_|(refine z23 ?_ ?_ <;> intro hg)|fail)
     all_goals try (exfalso;omega)
     refine ba (cr 10 2 rfl) ?_
     refine ba (cr 11 2 rfl) ?_
     refine ba (bp 1 0 2 rfl rfl rfl) ?_
     refine ba (bp 1 1 2 rfl rfl rfl) ?_
     repeat' (first|apply aj|apply av)
     exact⟨.inl rfl,_,rfl,rfl,rfl⟩
    | true =>
     rw [hs] at w5
     rw [hs,if_neg (by simp)] at hcc
     rw [hcc]
     by_cases h2:e2=0
     ·subst h2
      rw [if_pos ⟨rfl,rfl⟩]
      repeat' (first|refine z0 ?_|apply ag|apply ae|refine z16 ?_|apply ah|apply ai|apply au|apply aj|refine z18 ?_|refine z19 ?_|apply aa|apply aq|refine z17 ?_|refine z21 ?_ (hc:=by apply w4)|refine z21 ?_ (hc:=by apply w5)|refine z21 ?_ (hc:=by apply w6)|refine z21 ?_ (hc:=by apply w7)|refine z21 ?_ (hc:=by apply w2)|refine z21 ?_ (hc:=by apply w8)|refine z3 ?_|(refine z23 ?_ ?_ <;> intro hg)|fail)
      all_goals try (exfalso;omega)
      exact⟨.inl rfl,_,rfl,rfl,rfl⟩
     ·rw [if_neg (fun h=>h2 h.2),if_pos rfl]
      clear w8
      repeat' (first|refine z0 ?_|apply ag|apply ae|refine z16 ?_|apply ah|apply ai|apply au|refine z18 ?_|refine z19 ?_|apply aa|apply aq|refine z17 ?_|refine z21 ?_ (hc:=by apply w4)|refine z21 ?_ (hc:=by apply w5)|refine z21 ?_ (hc:=by apply w6)|refine z21 ?_ (hc:=by apply w7)|refine z21 ?_ (hc:=by apply w2)|refine z3 ?_|(refine z23 ?_ ?_ <;> intro hg)|fail)
      all_goals try (exfalso;omega)
      refine ba (cr 10 2 rfl) ?_
      refine ba (cr 11 2 rfl) ?_
      refine ba (bp 1 0 2 rfl rfl rfl) ?_
      refine ba (bp 1 1 2 rfl rfl rfl) ?_
      repeat' (first|apply aj|apply av)
      exact⟨.inl rfl,_,rfl,rfl,rfl⟩
   ·have hcc:chgE p.arity e was m puts takes=putE p.arity e puts takes:=by unfold chgE;rw [if_neg (fun h=>hE h.1)]
    rw [hcc,if_neg (fun h=>hE h.1),if_neg hE]
    generalize putE p.arity e puts takes=e3 at *
    clear w4 w5
    repeat' (first|refine z0 ?_|refine z12 ?_|apply ag|apply ae|refine z16 ?_|apply ah|apply ai|apply au|refine z19 ?_|apply aa|apply aq|apply bg|refine z17 ?_|refine z3 ?_|(refine z23 ?_ ?_ <;> intro hg)|((fail_if_success (apply bk;exact rfl));apply bl;exact rfl;exact rfl;exact rfl;all_goals intro hg))
    all_goals try (exfalso;omega)
    refine ba (cr 10 2 rfl) ?_
    refine ba (cr 11 2 rfl) ?_
    refine ba (bp 1 0 2 rfl rfl rfl) ?_
    refine ba (bp 1 1 2 rfl rfl rfl) ?_
    repeat' (first|apply aj|apply av)
    exact⟨.inl rfl,_,rfl,rfl,rfl⟩
theorem RpGood.put {r r2:Rpl} {u:Upd} (h:RpGood r) (hc:dy u=0) (hn:hasU r.both u.id=false) (hl:r.has.length + r.waits.length < 200) (h2:RplOk (u::r.both) r2):RpGood r2:=by
 have ht:=(ToldOk.self h.ok).step hn h2
 have hlen:=ht.len
 have hb:r2.both.length=r2.has.length + r2.waits.length:=List.length_append
 have hb1:r.both.length=r.has.length + r.waits.length:=List.length_append
 rw [List.length_cons] at hlen
 refine⟨h2.self,by omega,fun v hv=>?_⟩
 rcases List.mem_cons.1 ((h2.all v).2 (List.mem_append.1 hv)) with rfl|hv
 ·exact hc
 ·exact h.each v hv
theorem mdl_small (p:Prg) (l:List Fct):(mdl p l).2.length≤60∧∀ x∈(mdl p l).2,x.args.length≤3:=by
 have h:=mdl_is p l
 obtain⟨_,h1,h2⟩:=h.strict
 refine⟨h1,fun x hx=>?_⟩
 by_cases he:(mdl p l).1=0
 ·rw [he] at h
  exact fct_len (mOk h.ok0).pr (h2 x hx)
 ·rw [mdl_none he] at hx
  cases hx
set_option maxHeartbeats 8000000 in
theorem deliver_fn (p:Prg) (r:Rpl) (m:List Fct) (u:Upd) (hg:RpGood r) (hm:m.length≤60) (ha:∀ x∈m,x.args.length≤3):FnOk false Tryz.prog tab cn 19 [.loc 0 0,jc u] 1 3 (vwH p m r)
  (fun k res H=>k=3∧res = .tup [elChg (stepV p r m u).2.2.1.1 (stepV p r m u).2.2.1.2,.d (.int .i64 (stepV p r m u).2.2.2)]∧H=vwH p (stepV p r m u).2.1 (stepV p r m u).1):=by
 refine co _ Tryz.func19 rfl rfl (by kernel_rfl) ?_
 intro O w0 E0 β0
 have hgl:=hg.len
 have w1:=checkU_fn u
 have hd:stepV p r m u=if dy u≠0 then (r,m,([],[]),dy u)
  else if hasU r.both u.id=true then (r,m,([],[]),0)
  else if 200≤r.both.length then (r,m,([],[]),2)
  else if (mdl p (de p (putR r u))).1≠0 then (putR r u,(mdl p (de p (putR r u))).2,([],[]),(mdl p (de p (putR r u))).1)
  else (putR r u,(mdl p (de p (putR r u))).2,(bq (eh (mdl p (de p (putR r u))).2 m),bq (eh m (mdl p (de p (putR r u))).2)),0):=rfl
 generalize stepV p r m u=s at *
 by_cases hc:dy u=0
 ·rw [if_neg (by simpa using hc)] at hd
  rw [hc] at w1
  have w2:FnOk false Tryz.prog tab cn 34 [.row 0,elId u.id] 1 1 [(0,.row 53 5 (r.has.map a7))] (fun _ res H2=>res = .d (.bool (hasU r.has u.id))∧H2=[(0,.row 53 5 (r.has.map a7))]) :=
   FnP.shownR (dhas_fn r.has u.id (by omega) hg.ok.sh) rfl rfl (by rintro _ rfl;rfl)
  have w3:FnOk false Tryz.prog tab cn 34 [.row 0,elId u.id] 1 1 [(0,.row 53 5 (r.waits.map a7))] (fun _ res H2=>res = .d (.bool (hasU r.waits u.id))∧H2=[(0,.row 53 5 (r.waits.map a7))]) :=
   FnP.shownR (dhas_fn r.waits u.id (by omega) hg.ok.sw) rfl rfl (by rintro _ rfl;rfl)
  have hty:=hasU_app r.has r.waits u.id
  repeat' (first|refine z0 ?_|apply ag|refine z5 ?_|apply ae|refine z16 ?_|refine z20 ?_|apply ai|refine z19 ?_|apply aa|refine z21 ?_ (hc:=by apply w1)|refine z1 ?_|fail)
  all_goals try (exfalso;omega)
  refine dt_callR (fun j=>match j with|0=>1|j=>j) w2 (by rintro _ rfl;exact⟨rfl,rfl⟩) ⟨_,rfl⟩ rfl rfl rfl rfl ⟨rfl,trivial⟩ rfl rfl rfl rfl rfl rfl rfl rfl rfl ?_
  rintro _ rfl
  clear w1 w2
  cases hb1:hasU r.has u.id with
  | true =>
   rw [if_pos (by rw [hb1] at hty;exact hty)] at hd
   subst hd
   repeat' (first|refine z0 ?_|apply ag|refine z5 ?_|refine z14 ?_|refine z10 ?_|apply ae|refine z16 ?_|refine z18 ?_|apply aa|refine z3 ?_|fail)
   all_goals try (exfalso;omega)
   refine ba (bp 4 0 2 rfl rfl rfl) ?_
   refine ba (bp 4 1 2 rfl rfl rfl) ?_
   repeat' (first|apply aj|apply av)
   exact⟨.inl rfl,_,rfl,id,3,.tup [elChg [] [],.d (.int .i64 0)],vwH p m r,rfl,⟨rfl,rfl,rfl,trivial⟩,rfl,rfl,rfl,rfl,rfl,rfl,rfl,rfl,rfl⟩
  | false =>
   repeat' refine z5 ?_
   all_goals try (exfalso;omega)
   refine dt_callR (fun j=>match j with|0=>2|j=>j) w3 (by rintro _ rfl;exact⟨rfl,rfl⟩) ⟨_,rfl⟩ rfl rfl rfl rfl ⟨rfl,trivial⟩ rfl rfl rfl rfl rfl rfl rfl rfl rfl ?_
   rintro _ rfl
   clear w3
   cases hb2:hasU r.waits u.id with
   | true =>
    rw [if_pos (by rw [hb1,hb2] at hty;exact hty)] at hd
    subst hd
    repeat' (first|refine z0 ?_|apply ag|refine z5 ?_|refine z10 ?_|apply ae|refine z16 ?_|refine z18 ?_|apply aa|refine z3 ?_|fail)
    all_goals try (exfalso;omega)
    refine ba (bp 4 0 2 rfl rfl rfl) ?_
    refine ba (bp 4 1 2 rfl rfl rfl) ?_
    repeat' (first|apply aj|apply av)
    exact⟨.inl rfl,_,rfl,id,3,.tup [elChg [] [],.d (.int .i64 0)],vwH p m r,rfl,⟨rfl,rfl,rfl,trivial⟩,rfl,rfl,rfl,rfl,rfl,rfl,rfl,rfl,rfl⟩
   | false =>
    have hno:hasU r.both u.id=false:=by rw [hb1,hb2] at hty;exact hty
    rw [if_neg (by rw [hno];simp)] at hd
    have wp:=putV_fn p m r u hg.ok (by omega) (by omega) (short_of hc) (fun v hv=>short_of (hg.each v (List.mem_append_left _ hv))) (fun v hv=>short_of (hg.each v (List.mem_append_right _ hv)))
    repeat' ((fail_if_success (apply bz 6));(first|refine z5 ?_|refine z10 ?_|apply ae|apply ai|refine z19 ?_|apply aa))
    all_goals try (exfalso;omega)
    refine jq 4 (by kernel_rfl) (by kernel_rfl) (by kernel_rfl) rfl rfl rfl ?_
    repeat' ((fail_if_success (apply bz 6));(first|refine z5 ?_|refine z10 ?_|fail))
    refine b8 id wp rfl rfl rfl rfl ⟨rfl,rfl,rfl,trivial⟩ rfl rfl rfl rfl rfl rfl ?_ ?_
    ·rintro k2 res H2 ⟨rfl,⟨_,rfl,rfl⟩|⟨_,_,_,rfl,rfl⟩|⟨_,_,_,r2,_,rfl,rfl⟩⟩ <;> exact⟨rfl,rfl⟩
    clear wp
    rintro k2 res H2 ⟨rfl,⟨hor,rfl,rfl⟩|⟨_,_,hfull,rfl,rfl⟩|⟨_,_,hroom,r2,hr2,rfl,rfl⟩⟩
    ·exfalso
     rw [hb1,hb2] at hor
     simp at hor
    ·rw [if_pos (by rw [List.length_append];exact hfull)] at hd
     subst hd
     change DS _ _ _ _ _ _ _ _
     repeat' (first|refine z0 ?_|apply ag|apply ae|refine z16 ?_|refine z18 ?_|apply aa|refine z3 ?_|fail)
     all_goals try (exfalso;omega)
     refine ba (bp 4 0 2 rfl rfl rfl) ?_
     refine ba (bp 4 1 2 rfl rfl rfl) ?_
     repeat' (first|apply aj|apply av)
     exact⟨.inl rfl,_,rfl,fun j=>match j with|1=>6|2=>7|j=>j,3,.tup [elChg [] [],.d (.int .i64 2)],vwH p m r,rfl,⟨rfl,rfl,rfl,trivial⟩,rfl,rfl,rfl,rfl,rfl,rfl,rfl,rfl,rfl⟩
    ·rw [if_neg (by rw [List.length_append];omega),putR_is hr2] at hd
     have hg2:=hg.put hc hno hroom hr2
     change DS _ _ _ _ _ _ _ _
     have wl:=look_fn p m r2 hg2
     have hsm:=mdl_small p (de p r2)
     generalize mdl p (de p r2)=x at *
     obtain⟨e,n⟩:=x
     dsimp only at hd wl hsm
     repeat' (first|refine z0 ?_|apply ag|apply ae|refine z16 ?_|apply ai|refine z19 ?_|apply aa)
     all_goals try (exfalso;omega)
     refine b8 (fun j=>match j with|1=>6|2=>7|j=>j) wl rfl rfl rfl rfl ⟨rfl,rfl,rfl,trivial⟩ rfl rfl rfl rfl rfl rfl ?_ ?_
     ·rintro k2 res H2 ⟨rfl,rfl,rfl⟩;exact⟨rfl,rfl⟩
     rintro k2 res H2 ⟨rfl,rfl,rfl⟩
     change DS _ _ _ _ _ _ _ _
     clear wl
     by_cases he:e=0
     ·subst he
      rw [if_neg (by simp)] at hd
      subst hd
      have wb:=between_fn' m n (by omega) (by have:=hsm.1;omega) (fun x hx=>by have:=ha x hx;omega) (fun x hx=>by have:=hsm.2 x hx;omega)
      repeat' (first|refine z0 ?_|apply ag|apply ae|refine z16 ?_|apply ai|apply aj|refine z19 ?_|apply aa|refine z21 ?_ (hc:=by apply wb)|refine z3 ?_|fail)
      all_goals try (exfalso;omega)
      exact⟨.inl rfl,_,rfl,fun j=>match j with|1=>9|2=>10|j=>j,3,.tup [elChg (bq (eh n m)) (bq (eh m n)),.d (.int .i64 0)],vwH p n r2,rfl,⟨rfl,rfl,rfl,trivial⟩,rfl,rfl,rfl,rfl,rfl,rfl,rfl,rfl,rfl⟩
     ·rw [if_pos he] at hd
      subst hd
      repeat' (first|refine z0 ?_|apply ag|apply ae|refine z16 ?_|apply ai|apply aa|refine z3 ?_|(refine z23 ?_ ?_ <;> intro hg)|fail)
      all_goals try (exfalso;omega)
      refine ba (bp 4 0 2 rfl rfl rfl) ?_
      refine ba (bp 4 1 2 rfl rfl rfl) ?_
      repeat' (first|apply aj|apply av)
      exact⟨.inl rfl,_,rfl,fun j=>match j with|1=>9|2=>10|j=>j,3,.tup [elChg [] [],.d (.int .i64 e)],vwH p n r2,rfl,⟨rfl,rfl,rfl,trivial⟩,rfl,rfl,rfl,rfl,rfl,rfl,rfl,rfl,rfl⟩
 ·rw [if_pos hc] at hd
  subst hd
  repeat' (first|refine z0 ?_|apply ag|refine z5 ?_|apply ae|refine z16 ?_|refine z20 ?_|apply ai|apply aa|refine z21 ?_ (hc:=by apply w1)|refine z1 ?_|refine z3 ?_|(refine z23 ?_ ?_ <;> intro hg)|fail)
  all_goals try (exfalso;omega)
  refine ba (bp 4 0 2 rfl rfl rfl) ?_
  refine ba (bp 4 1 2 rfl rfl rfl) ?_
  repeat' (first|apply aj|apply av)
  exact⟨.inl rfl,_,rfl,id,3,.tup [elChg [] [],.d (.int .i64 (dy u))],vwH p m r,rfl,⟨rfl,rfl,rfl,trivial⟩,rfl,rfl,rfl,rfl,rfl,rfl,rfl,rfl,rfl⟩
abbrev encChg (c:Chg):List D:=[.slice 2 (c.1.map a6),.slice 2 (c.2.map a6)]
abbrev SeenS (m:List Fct):Prop:=m.length≤60∧∀ x∈m,x.args.length≤3
theorem stepV_good {p:Prg} {r:Rpl} {m:List Fct} {u:Upd} (hg:RpGood r) (hm:SeenS m):RpGood (stepV p r m u).1∧SeenS (stepV p r m u).2.1:=by
 unfold stepV
 by_cases h1:dy u=0
 ·rw [if_neg (by simpa using h1)]
  by_cases h2:hasU r.both u.id=true
  ·rw [if_pos h2]
   exact⟨hg,hm⟩
  ·rw [if_neg h2]
   have hno:hasU r.both u.id=false:=by simpa using h2
   by_cases h3:200≤r.both.length
   ·rw [if_pos h3]
    exact⟨hg,hm⟩
   ·rw [if_neg h3]
    obtain⟨_,r2,hr2⟩:=hg.ok.add hno
    have hb:r.both.length=r.has.length + r.waits.length:=List.length_append
    have hgp:RpGood (putR r u):=by
     rw [putR_is hr2]
     exact hg.put h1 hno (by omega) hr2
    split
    ·exact⟨hgp,mdl_small _ _⟩
    ·exact⟨hgp,mdl_small _ _⟩
 ·rw [if_pos h1]
  exact⟨hg,hm⟩
set_option maxHeartbeats 8000000 in
theorem vdeliver_fn (p:Prg) (r:Rpl) (l:List Upd) (h1:r.has.length≤4398046511104) (h2:r.waits.length≤4398046511104):Fn 7 [jl p,elRpl r,.d (.slice 5 (l.map a7))]
  (fun res=>res = .tup [elRpl (delivV p r l).1,.d (.slice 2 ((delivV p r l).2.1.map encChg)),.d (.int .i64 (delivV p r l).2.2)]):=by
 refine ak _ Tryz.func7 rfl rfl (by kernel_rfl) ?_
 intro O w0 E0 β0
 have wo:=open_fn p r h1 h2
 have hd:delivV p r l=if (openV p r).2≠0 then (rplO,[],(openV p r).2)
  else if 200 < l.length then (rplO,[],2)
  else if (runV p l r (openV p r).1 []).2.2.2≠0 then (rplO,[],(runV p l r (openV p r).1 []).2.2.2)
  else ((runV p l r (openV p r).1 []).1,(runV p l r (openV p r).1 []).2.2.1,0):=rfl
 have ho:openV p r=if dh du p≠0 then ([],dh du p) else if ez r≠0 then ([],ez r) else ((mdl p (de p r)).2,(mdl p (de p r)).1):=rfl
 generalize delivV p r l=v at *
 have ll:(l.map a7).length=l.length:=List.length_map _
 repeat' (first|refine z0 ?_|apply ag|apply ae|refine z16 ?_|apply aa|refine z1 ?_|fail)
 refine b8 id wo rfl rfl rfl rfl trivial rfl rfl rfl rfl rfl rfl ?_ ?_
 ·rintro k2 res H2 (⟨_,_,rfl,rfl,rfl⟩|⟨_,rfl,rfl,rfl⟩) <;> exact⟨rfl,rfl⟩
 rintro k2 res H2 (⟨hp,hr,rfl,rfl,rfl⟩|⟨hpr,rfl,rfl,rfl⟩)
 ·rw [if_neg (by simpa using hp),if_neg (by simpa using hr)] at ho
  have hsm:=mdl_small p (de p r)
  generalize mdl p (de p r)=x at *
  obtain⟨xe,xs⟩:=x
  rw [ho] at hd
  dsimp only at hd hsm
  clear wo
  change DS _ _ _ _ _ _ _ _
  by_cases he:xe=0
  ·subst he
   rw [if_neg (by simp)] at hd
   by_cases hl:200 < l.length
   ·rw [if_pos hl] at hd
    subst hd
    repeat' (first|refine z0 ?_|apply ag|apply ae|refine z16 ?_|apply ah|apply ai|apply aa|(refine z23 ?_ ?_ <;> intro hg)|fail)
    all_goals try (exfalso;omega)
    refine bh (ι:=Unit) (fun _=>⟨1,[(2,.d (.slice 5 (l.map a7))),(6,.loc 0 0),(10,.d (.int .i64 2)),(11,.nils),(12,.d (.int .i64 0))],[(0,.blk 29 [.nils,.nils])]⟩) (fun _=>True) (fun _=>0) () trivial (ap (fun j=>match j with|0=>2|j=>j) ⟨rfl,rfl,rfl,rfl,rfl,trivial⟩ ⟨rfl,trivial⟩ rfl rfl rfl rfl rfl rfl) ?_
    intro _ _
    repeat' (first|refine z0 ?_|refine z12 ?_|apply ag|apply ae|refine z16 ?_|apply au|refine z18 ?_|refine z19 ?_|apply aa|apply aq|refine z17 ?_|refine z3 ?_|((fail_if_success (apply bk;exact rfl));apply bl;exact rfl;exact rfl;exact rfl;all_goals intro hg))
    all_goals try (exfalso;omega)
    all_goals try (exfalso;first|(exact absurd (by assumption) (show (2:Int)≠0 by decide))|(revert (show (2:Int)≠0 by decide);simp_all;done))
    all_goals
     refine ba (bp 0 0 5 rfl rfl rfl) ?_
     refine ba (bp 0 1 5 rfl rfl rfl) ?_
     refine ba (cr 7 2 rfl) ?_
     repeat' (first|apply aj|apply av)
     exact⟨.inl rfl,_,rfl,rfl,rfl⟩
   ·rw [if_neg hl] at hd
    repeat' (first|refine z0 ?_|apply ag|apply ae|refine z16 ?_|apply ah|apply ai|apply aa|(refine z23 ?_ ?_ <;> intro hg)|fail)
    all_goals try (exfalso;omega)
    refine ba (ea (t:=11) 40 2 rfl) ?_
    generalize hR:runV p l r xs []=R at hd
    refine bh (ι:=Nat × Rpl × List Fct × List Chg × Int) (fun x=>⟨5,[(2,.d (.slice 5 (l.map a7))),(6,.loc 4 0),(9,.loc 0 0),(10,.d (.int .i64 x.2.2.2.2)),(11,.row 3),(12,.d (.int .i64 x.1))],
      [(0,vwB p x.2.2.1),(1,.row 53 5 (x.2.1.has.map a7)),(2,.row 53 5 (x.2.1.waits.map a7)),(3,.row 40 2 (x.2.2.2.1.map encChg)),(4,.blk 29 [.nils,.nils])]⟩)
     (fun x=>x.1≤l.length∧RpGood x.2.1∧SeenS x.2.2.1∧x.2.2.2.1.length=x.1∧((x.2.2.2.2=0∧R=runV p (l.drop x.1) x.2.1 x.2.2.1 x.2.2.2.1)∨(x.2.2.2.2≠0∧R=(x.2.1,x.2.2.1,x.2.2.2.1,x.2.2.2.2)))) (fun x=>l.length - x.1)
     (0,r,xs,[],0) ⟨Nat.zero_le _,RpGood.of hr,hsm,rfl,.inl ⟨rfl,hR.symm⟩⟩ (ap (fun j=>match j with|0=>3|1=>4|2=>5|3=>6|4=>2|j=>j) ⟨rfl,rfl,rfl,rfl,rfl,rfl,trivial⟩ ⟨rfl,rfl,rfl,rfl,rfl,trivial⟩ rfl rfl rfl rfl rfl rfl) ?_
    rintro⟨i,r1,m1,acc,e⟩ ⟨g1,g2,g3,g4,g5⟩
    dsimp only at g1 g2 g3 g4 g5 ⊢
    have la:(acc.map encChg).length=acc.length:=List.length_map _
    by_cases he:e=0
    ·subst he
     have g5:R=runV p (l.drop i) r1 m1 acc:=by
      rcases g5 with ⟨_,h⟩|⟨h,_⟩
      ·exact h
      ·exact absurd rfl h
     by_cases hi:i < l.length
     ·have wd:=deliver_fn p r1 m1 l[i] g2 g3.1 g3.2
      obtain⟨q1,q2⟩:=stepV_good (p:=p) (u:=l[i]) g2 g3
      rw [List.drop_eq_getElem_cons hi,runV] at g5
      generalize stepV p r1 m1 l[i]=t at *
      repeat' (first|refine z0 ?_|refine z12 ?_|apply ag|apply ae|refine z16 ?_|apply ah|apply ai|apply au|refine z18 ?_|refine z19 ?_|apply aa|apply aq|refine z17 ?_|refine z3 ?_|((fail_if_success (apply bk;exact rfl));apply bl;exact rfl;exact rfl;exact rfl;all_goals intro hg))
      all_goals try (exfalso;omega)
      refine b8 id wd rfl rfl rfl rfl ⟨rfl,rfl,rfl,trivial⟩ rfl rfl rfl rfl rfl rfl ?_ ?_
      ·rintro k2 res H2 ⟨rfl,rfl,rfl⟩;exact⟨rfl,rfl⟩
      rintro k2 res H2 ⟨rfl,rfl,rfl⟩
      change DS _ _ _ _ _ _ _ _
      clear wd
      repeat' (first|refine z0 ?_|apply ag|apply ae|refine z16 ?_|apply aa|apply bg|refine z1 ?_|refine z3 ?_|refine z4 ?_|refine z2 ?_|fail)
      all_goals try (exfalso;omega)
      refine⟨(i + 1,t.1,t.2.1,acc++[t.2.2.1],t.2.2.2),⟨hi,q1,q2,by dsimp only;rw [List.length_append,g4];rfl,?_⟩,ap (fun j=>match j with|1=>6|2=>7|3=>9|j=>j) ⟨rfl,rfl,rfl,rfl,rfl,rfl,trivial⟩ ⟨rfl,rfl,rfl,by rw [List.map_append];rfl,rfl,trivial⟩ rfl rfl rfl rfl rfl rfl,by show l.length - (i + 1) < l.length - i;omega⟩
      dsimp only
      by_cases ht:t.2.2.2=0
      ·rw [if_neg (by simpa using ht)] at g5
       exact .inl ⟨ht,g5⟩
      ·rw [if_pos ht] at g5
       exact .inr ⟨ht,g5⟩
     ·have hdr:l.drop i=[]:=List.drop_eq_nil_of_le (by omega)
      rw [hdr,runV] at g5
      subst g5
      rw [if_neg (by simp)] at hd
      subst hd
      repeat' (first|refine z0 ?_|refine z12 ?_|apply ag|apply ae|refine z16 ?_|apply ah|apply ai|apply au|refine z18 ?_|refine z19 ?_|apply aa|apply aq|refine z17 ?_|refine z3 ?_|((fail_if_success (apply bk;exact rfl));apply bl;exact rfl;exact rfl;exact rfl;all_goals intro hg))
      all_goals try (exfalso;omega)
      refine ba (ent_cellseal 4 0 1 rfl rfl rfl rfl rfl) ?_
      refine ba (ent_cellseal 4 1 2 rfl rfl rfl rfl rfl) ?_
      refine ba (dp 7 rfl rfl rfl) ?_
      repeat' (apply aj)
      exact⟨.inl rfl,_,rfl,rfl,rfl⟩
    ·have g5:R=(r1,m1,acc,e):=by
      rcases g5 with ⟨h,_⟩|⟨_,h⟩
      ·exact absurd h he
      ·exact h
     subst g5
     rw [if_pos he] at hd
     subst hd
     repeat' (first|refine z0 ?_|refine z12 ?_|apply ag|apply ae|refine z16 ?_|apply ah|apply ai|apply au|refine z19 ?_|apply aa|apply aq|refine z17 ?_|refine z3 ?_|(refine z23 ?_ ?_ <;> intro hg)|((fail_if_success (apply bk;exact rfl));apply bl;exact rfl;exact rfl;exact rfl;all_goals intro hg))
     all_goals try (exfalso;omega)
     all_goals
      refine ba (bp 4 0 5 rfl rfl rfl) ?_
      refine ba (bp 4 1 5 rfl rfl rfl) ?_
      refine ba (cr 7 2 rfl) ?_
      repeat' (first|apply aj|apply av)
      exact⟨.inl rfl,_,rfl,rfl,rfl⟩
  ·rw [if_pos he] at hd
   subst hd
   repeat' (first|refine z0 ?_|refine z12 ?_|apply ag|apply ae|refine z16 ?_|apply ah|apply ai|refine z19 ?_|apply aa|(refine z23 ?_ ?_ <;> intro hg)|((fail_if_success (apply bk;exact rfl));apply bl;exact rfl;exact rfl;exact rfl;all_goals intro hg))
   all_goals try (exfalso;omega)
   refine bh (ι:=Unit) (fun _=>⟨1,[(2,.d (.slice 5 (l.map a7))),(6,.loc 0 0),(10,.d (.int .i64 xe)),(11,.nils),(12,.d (.int .i64 0))],[(0,.blk 29 [.nils,.nils])]⟩) (fun _=>True) (fun _=>0) () trivial (ap (fun j=>match j with|0=>2|j=>j) ⟨rfl,rfl,rfl,rfl,rfl,trivial⟩ ⟨rfl,trivial⟩ rfl rfl rfl rfl rfl rfl) ?_
   intro _ _
   repeat' (first|refine z0 ?_|refine z12 ?_|apply ag|apply ae|refine z16 ?_|apply ah|apply ai|apply au|refine z19 ?_|apply aa|apply aq|refine z17 ?_|refine z3 ?_|(refine z23 ?_ ?_ <;> intro hg)|((fail_if_success (apply bk;exact rfl));apply bl;exact rfl;exact rfl;exact rfl;all_goals intro hg))
   all_goals try (exfalso;omega)
   all_goals try (exfalso;first|(exact absurd (by assumption) he)|(revert he;simp_all;done))
   all_goals
    refine ba (bp 0 0 5 rfl rfl rfl) ?_
    refine ba (bp 0 1 5 rfl rfl rfl) ?_
    refine ba (cr 7 2 rfl) ?_
    repeat' (first|apply aj|apply av)
    exact⟨.inl rfl,_,rfl,rfl,rfl⟩
 ·clear wo
  change DS _ _ _ _ _ _ _ _
  have hx:(openV p r).2=(if dh du p≠0 then dh du p else ez r)∧(openV p r).2≠0:=by
   rw [ho]
   by_cases hp:dh du p=0
   ·have hr:ez r≠0:=fun h=>hpr ⟨hp,h⟩
    rw [if_neg (by simpa using hp),if_pos hr,if_neg (by simpa using hp)]
    exact⟨rfl,hr⟩
   ·rw [if_pos hp,if_pos hp]
    exact⟨rfl,hp⟩
  obtain⟨he,h0⟩:=hx
  rw [if_pos h0] at hd
  subst hd
  rw [← he]
  generalize (openV p r).2=e at *
  clear ho hpr
  repeat' (first|refine z0 ?_|refine z12 ?_|apply ag|apply ae|refine z16 ?_|apply ah|apply ai|refine z19 ?_|apply aa|(refine z23 ?_ ?_ <;> intro hg)|((fail_if_success (apply bk;exact rfl));apply bl;exact rfl;exact rfl;exact rfl;all_goals intro hg))
  all_goals try (exfalso;omega)
  refine bh (ι:=Unit) (fun _=>⟨1,[(2,.d (.slice 5 (l.map a7))),(6,.loc 0 0),(10,.d (.int .i64 e)),(11,.nils),(12,.d (.int .i64 0))],[(0,.blk 29 [.nils,.nils])]⟩) (fun _=>True) (fun _=>0) () trivial (ap (fun j=>match j with|0=>2|j=>j) ⟨rfl,rfl,rfl,rfl,rfl,trivial⟩ ⟨rfl,trivial⟩ rfl rfl rfl rfl rfl rfl) ?_
  intro _ _
  repeat' (first|refine z0 ?_|refine z12 ?_|apply ag|apply ae|refine z16 ?_|apply ah|apply ai|apply au|refine z19 ?_|apply aa|apply aq|refine z17 ?_|refine z3 ?_|(refine z23 ?_ ?_ <;> intro hg)|((fail_if_success (apply bk;exact rfl));apply bl;exact rfl;exact rfl;exact rfl;all_goals intro hg))
  all_goals try (exfalso;omega)
  all_goals try (exfalso;first|(exact absurd (by assumption) h0)|(revert h0;simp_all;done))
  all_goals
   refine ba (bp 0 0 5 rfl rfl rfl) ?_
   refine ba (bp 0 1 5 rfl rfl rfl) ?_
   refine ba (cr 7 2 rfl) ?_
   repeat' (first|apply aj|apply av)
   exact⟨.inl rfl,_,rfl,rfl,rfl⟩

end Go.Proofs.YtapciiffpnociaaGreat
namespace Go.Proofs.YtapciiffpnociaaGreat
open Go Go.RowKit
theorem FnP.args {dr:Bool} {P:Program} {τ:List (Nat × TI)} {τok:d7 P τ} {f:FuncId} {args args':List SV} {R:SV→Prop} (hc:FnP dr P τ τok f args R) (h:∀ X e w vs,RelL X e w args' vs→RelL X e w args vs):FnP dr P τ τok f args' R :=
 ⟨hc.1,fun O e w vs hH hr=>hc.2 O e w vs hH (h _ _ _ _ hr)⟩
theorem nil_rel {X e w} {es:Nat} {v:Value} (h:Rel X e w .nils v):Rel X e w (.d (.slice es [])) v:=by
 rw [show v = .slice none 0 0 from h]
 exact .nil
theorem agg2_rel {X e w} {p q:Nat} {v:Value} (h:Rel X e w (.agg [.nils,.nils]) v):Rel X e w (.agg [.d (.slice p []),.d (.slice q [])]) v:=by
 obtain⟨us,hv,hr⟩:=h
 match us,hr with
 | [a,b],⟨h1,h2,_⟩=>exact⟨[a,b],hv,nil_rel h1,nil_rel h2,trivial⟩
 | [],h=>exact h.elim
 | [_],⟨_,h⟩=>exact h.elim
 | _::_::_::_,⟨_,_,h⟩=>exact h.elim
attribute [local irreducible] DW DS DL DQ Ev FnOk FnP em b9 DT
theorem openV_good {p:Prg} {r:Rpl} (hp:dh du p=0) (hg:RpGood r):openV p r=((mdl p (de p r)).2,(mdl p (de p r)).1):=by
 unfold openV
 rw [if_neg (by simpa using hp),if_neg (by simpa using hg.check)]

theorem apart_snoc {A:List Upd} {u:Upd} (h:ApartU A) (hu:hasU A u.id=false):ApartU (A++[u]) :=
 List.pairwise_append.2 ⟨h,List.pairwise_singleton _ _,fun a ha b hb he=>by
  rw [List.mem_singleton] at hb
  subst hb
  rw [← Bool.not_eq_true,hasU_iff] at hu
  exact hu ⟨a,ha,he⟩⟩
theorem nodupD_len:∀ {B A:List Upd},B.Nodup→(∀ u∈B,u∈A)→B.length≤A.length
 | [],_,_,_=>Nat.zero_le _
 | x::B,A,hn,hs=>by
  obtain⟨h1,h2⟩:=List.nodup_cons.1 hn
  obtain⟨p,q,rfl⟩:=List.append_of_mem (hs x (List.mem_cons_self ..))
  have h3:=nodupD_len (A:=p++q) h2 fun u hu=>by
   rcases List.mem_append.1 (hs u (List.mem_cons_of_mem _ hu)) with h|h
   ·exact List.mem_append_left _ h
   ·rcases List.mem_cons.1 h with rfl|h
    ·exact absurd hu h1
    ·exact List.mem_append_right _ h
  simp only [List.length_append,List.length_cons] at h3 ⊢
  omega
structure OthOk (A B:List Upd):Prop where
 apart:ApartU B
 sub:∀ u∈B,u∈A
theorem OthOk.put {A B:List Upd} (h:OthOk A B) {u:Upd} (hu:u∈A) (hn:hasU B u.id=false):OthOk A (B++[u]) :=
 ⟨apart_snoc h.apart hn,fun v hv=>by
  rcases List.mem_append.1 hv with hv|hv
  ·exact h.sub v hv
  ·rw [List.mem_singleton] at hv;rw [hv];exact hu⟩
theorem ApartU.nodup {A:List Upd} (h:ApartU A):A.Nodup:=h.imp fun h he=>h (by rw [he])
theorem ApartU.uniq:∀ {A:List Upd},ApartU A→∀ {u v:Upd},u∈A→v∈A→u.id=v.id→u=v
 | [],_,_,_,h,_,_=>by simp at h
 | x::l,hs,u,v,hu,hv,he=>by
  obtain⟨h1,h2⟩:=List.pairwise_cons.1 hs
  rcases List.mem_cons.1 hu with hu'|hu2 <;> rcases List.mem_cons.1 hv with hv'|hv2
  ·rw [hu',hv']
  ·exact absurd (by rw [← hu',he]) (h1 v hv2)
  ·exact absurd (by rw [← hv',he]) (h1 u hu2)
  ·exact ApartU.uniq h2 hu2 hv2 he
theorem OthOk.len {A B:List Upd} (h:OthOk A B):B.length≤A.length :=
 nodupD_len h.apart.nodup h.sub
theorem OthOk.all {A B:List Upd} (h:OthOk A B) (hA:ApartU A) (ha:∀ u∈A,hasU B u.id=true):(∀ u,u∈B↔u∈A)∧B.length=A.length:=by
 have hm:∀ u,u∈B↔u∈A:=fun u=>⟨h.sub u,fun hu=>by
  obtain⟨v,hv,he⟩:=hasU_iff.1 (ha u hu)
  rw [← hA.uniq (h.sub v hv) hu he]
  exact hv⟩
 exact⟨hm,((List.perm_ext_iff_of_nodup h.apart.nodup hA.nodup).2 hm).length_eq⟩
theorem RplOk.both_iff {A:List Upd} {r:Rpl} (h:RplOk A r) (u:Upd):u∈r.both↔u∈A:=List.mem_append.trans (h.all u).symm
theorem stepV_both {p:Prg} {r:Rpl} {m:List Fct} {u:Upd} (hg:RpGood r) (h0:(mdl p (de p r)).1=0) (hs:(stepV p r m u).2.2.2=0) :
  RpGood (stepV p r m u).1∧(mdl p (de p (stepV p r m u).1)).1=0∧((hasU r.both u.id=true∧(stepV p r m u).1=r)∨(hasU r.both u.id=false∧∀ v,v∈(stepV p r m u).1.both↔v=u∨v∈r.both)):=by
 unfold stepV at hs ⊢
 by_cases h1:dy u=0
 ·rw [if_neg (by simpa using h1)] at hs ⊢
  by_cases h2:hasU r.both u.id=true
  ·rw [if_pos h2]
   exact⟨hg,h0,.inl ⟨h2,rfl⟩⟩
  ·rw [if_neg h2] at hs ⊢
   have hno:hasU r.both u.id=false:=by simpa using h2
   by_cases h3:200≤r.both.length
   ·rw [if_pos h3] at hs
    cases hs
   ·rw [if_neg h3] at hs ⊢
    obtain⟨_,r2,hr2⟩:=hg.ok.add hno
    have hb:r.both.length=r.has.length + r.waits.length:=List.length_append
    rw [putR_is hr2] at hs ⊢
    have hgp:=hg.put h1 hno (by omega) hr2
    by_cases h4:(mdl p (de p r2)).1=0
    ·rw [if_neg (by simpa using h4)]
     exact⟨hgp,h4,.inr ⟨hno,fun v=>(hr2.both_iff v).trans List.mem_cons⟩⟩
    ·rw [if_pos h4] at hs
     exact absurd hs h4
 ·rw [if_pos h1] at hs
  exact absurd hs h1
theorem openV_ok {p:Prg} {r:Rpl} (h:(openV p r).2=0):dh du p=0∧ez r=0∧(mdl p (de p r)).1=0:=by
 unfold openV at h
 by_cases hp:dh du p=0
 ·rw [if_neg (by simpa using hp)] at h
  by_cases hr:ez r=0
  ·rw [if_neg (by simpa using hr)] at h
   exact⟨hp,hr,h⟩
  ·rw [if_pos hr] at h
   exact absurd h hr
 ·rw [if_pos hp] at h
  exact absurd h hp
def playL (m came went:List Fct):List Fct:=bq (bq (eh m went)++came)
def oneF:List Fct:=[⟨0,[1,2]⟩]
def oneM:List Fct:=[⟨0,[1,2]⟩,⟨1,[1,2]⟩]
theorem one_err:mErr smallP oneF=0:=by
 unfold mErr
 rw [if_neg (by rw [show dh du smallP=0 by kernel_rfl];simp),if_neg (by rw [small_doc];simp)]
 kernel_rfl
theorem q_one:ed oneF d8=true∧gk oneF d8=[[1,2]]:=one_way (by kernel_rfl) (List.pairwise_singleton _ _) (by simp)
theorem q_oneM:ed oneM d8=true∧gk oneM d8=[[1,2]]:=one_way (by kernel_rfl) (List.pairwise_singleton _ _) (by simp)
theorem r_oneM:ed oneM kh=true∧gk oneM kh=[]:=one_way (by kernel_rfl) .nil (by simp)
theorem one_model:ModelR smallP oneF 0 oneM:=by
 have ho:=mOk one_err
 have hV:=lvV_ok ho.pr ho.fit 0 oneF
 have hset0:bq oneF=oneF:=by kernel_rfl
 have hst0:Strict oneF:=by
  have:=(bn oneF).1
  rw [hset0] at this
  exact this
 have i0:InvM (lvV smallP (eo smallP) 0 oneF) oneF oneF:=kx hst0 ⟨ho.facts,fun _ _=>Iff.rfl⟩ (by decide)
 have hQ:d8∈(lvV smallP (eo smallP) 0 oneF).rs:=List.mem_filter.2 ⟨by rw [d9];simp,by rw [small_lv];decide⟩
 have hq:hdW oneF d8=[⟨1,[1,2]⟩]:=by unfold hdW;rw [q_one.2];kernel_rfl
 have hqf:hdW oneM d8=[⟨1,[1,2]⟩]:=by unfold hdW;rw [q_oneM.2];kernel_rfl
 have hrf:hdW oneM kh=[]:=by unfold hdW;rw [r_oneM.2];kernel_rfl
 have i1:=inv_put hV i0 (H:=[⟨1,[1,2]⟩]) (fun x hx=>⟨d8,hQ,oneF,i0,by show x∈hdW oneF d8;rw [hq];exact hx⟩) (by decide)
 rw [show bq (oneF++[⟨1,[1,2]⟩])=oneM by kernel_rfl] at i1
 have hfit0:Fit (lvV smallP (eo smallP) 0 oneF) oneF oneM:=by
  have key:∀ r∈(lvV smallP (eo smallP) 0 oneF).rs,ed oneM r=true∧∀ x∈hdW oneM r,x∈oneM:=by
   intro r hr'
   have hm:=(List.mem_filter.1 hr').1
   rw [d9] at hm
   simp only [List.mem_cons,List.not_mem_nil,or_false] at hm
   rcases hm with rfl|rfl
   ·refine⟨q_oneM.1,fun x hx=>?_⟩
    rw [hqf] at hx
    simp only [List.mem_cons,List.not_mem_nil,or_false] at hx
    subst hx
    simp [oneM]
   ·refine⟨r_oneM.1,fun x hx=>?_⟩
    rw [hrf] at hx
    simp at hx
  exact fit_done i1 (fun r hr=>(key r hr).1) fun r hr=>(key r hr).2
 have hfit1:Fit (lvV smallP (eo smallP) 1 oneM) oneM oneM:=by
  have hno:∀ r∈(lvV smallP (eo smallP) 1 oneM).rs,False:=by
   intro r hr'
   obtain⟨hm,hl⟩:=List.mem_filter.1 hr'
   rw [d9] at hm
   simp only [List.mem_cons,List.not_mem_nil,or_false] at hm
   rw [small_lv] at hl
   rcases hm with rfl|rfl <;> exact absurd (of_decide_eq_true hl) (by decide)
  exact fit_done (kx i1.strict ⟨i1.a.1,fun _ _=>Iff.rfl⟩ (by decide)) (fun r hr=>(hno r hr).elim) fun r hr=>(hno r hr).elim
 exact .ok oneM one_err ⟨oneM,⟨oneF,hset0.symm,hfit0⟩,hfit1⟩
set_option maxHeartbeats 8000000 in
theorem play_fn (m came went:List Fct) (hm:m.length + came.length≤4398046511104) (hw:went.length≤4398046511104) (ha:∀ x∈m,x.args.length≤17592186044416) (hb:∀ x∈came,x.args.length≤17592186044416) (hc:∀ x∈went,x.args.length≤17592186044416) :
  Fn 8 [.d (.slice 2 (m.map a6)),elChg came went] (fun r=>r = .d (.slice 2 ((playL m came went).map a6))):=by
 refine ak _ Tryz.func8 rfl rfl (by kernel_rfl) ?_
 intro O w0 E0 β0
 have w1:=minus_fn m went (by omega) hw ha hc
 rw [minus_same] at w1
 have hl:(bq (eh m went)).length≤m.length:=Nat.le_trans (jf _) (List.length_filter_le _ _)
 have w2:=union_fn (bq (eh m went)) came (by omega) (fun x hx=>ha x (List.mem_filter.1 (((bn _).2 x).1 hx)).1) hb
 repeat' (first|refine z0 ?_|apply ag|refine z5 ?_|refine z10 ?_|apply ae|refine z16 ?_|refine z20 ?_|apply aj|apply aa|refine z22 ?_ (hc:=by apply w1)|refine z22 ?_ (hc:=by apply w2)|refine z1 ?_|fail)
 exact⟨.inl rfl,_,rfl,rfl,rfl⟩
theorem relL_nil {X e w} {es:Nat}:∀ (a b:List SV) (vs:List Value),RelL X e w (a++.nils::b) vs→RelL X e w (a++.d (.slice es [])::b) vs
 | [],_,[],h=>(show False from h).elim
 | [],_,_::_,⟨h,t⟩=>⟨nil_rel h,t⟩
 | _::_,_,[],h=>(show False from h).elim
 | _::a,b,_::vs,⟨h,t⟩=>⟨h,relL_nil a b vs t⟩
def backF:List Fct:=[⟨0,[2,3]⟩]
def wentF:List Fct:=[⟨0,[2,3]⟩,⟨1,[1,3]⟩,⟨1,[2,3]⟩]
theorem one_given:givenL pairsF [] backF=oneF:=by kernel_rfl
theorem one_chg:chgE smallP.arity 0 fullF fullF [] backF=0:=by kernel_rfl
theorem one_came:bq (eh oneM fullF)=[]:=by kernel_rfl
theorem one_went:bq (eh fullF oneM)=wentF:=by kernel_rfl
theorem one_play:playL fullF [] wentF=oneM:=by kernel_rfl
theorem onePlay_fn:Fn 8 [.d (.slice 2 (fullF.map a6)),.agg [.d (.slice 2 []),.d (.slice 2 (wentF.map a6))]] (fun r=>r = .d (.slice 2 (oneM.map a6))):=by
 have h:=play_fn fullF [] wentF (by decide) (by decide) (by decide) (by simp) (by decide)
 rw [one_play] at h
 exact h
theorem oneApply_fn:Fn 17 [jl smallP,.d (.slice 2 (pairsF.map a6)),.d (.slice 2 (fullF.map a6)),.nils,.d (.slice 2 (backF.map a6))]
  (fun r=>r = .tup [.d (.slice 2 (oneF.map a6)),.d (.slice 2 (oneM.map a6)),.agg [.d (.slice 2 []),.d (.slice 2 (wentF.map a6))],.d (.int .i64 0)]):=by
 have h:=apply_fn smallP pairsF fullF [] backF 0 0 fullF oneM small_model (by rw [one_given];exact one_model) (by decide) (by decide)
 rw [if_pos ⟨one_chg,rfl⟩,one_given,one_came,one_went] at h
 exact h.args fun X e w vs hr=>relL_nil [jl smallP,.d (.slice 2 (pairsF.map a6)),.d (.slice 2 (fullF.map a6))] [.d (.slice 2 (backF.map a6))] vs hr
set_option maxHeartbeats 8000000 in
theorem changeBegun_fn:Fn 6 [] (fun r=>r = .d (.bool true)):=by
 refine ak _ Tryz.func6 rfl rfl (by kernel_rfl) ?_
 intro O w0 E0 β0
 have h1:=lsmall_fn
 have h2:=lpairs_fn
 have h3:=lfull_fn
 have h4:=j8 0 [2,3]
 have h5:=j8 0 [1,2]
 have h6:=j8 1 [1,2]
 have h7:=oneApply_fn
 have h8:=onePlay_fn
 have h9:=jn oneF oneF
 have ha:=jn oneM oneM
 rw [sameF_eq] at h9 ha
 have lw:(wentF.map a6).length=3:=rfl
 have lw2:wentF.length=3:=rfl
 have lp:(pairsF.map a6).length=2:=rfl
 have lp2:pairsF.length=2:=rfl
 repeat' (first|refine z0 ?_|apply ag|refine z5 ?_|refine z10 ?_|apply ae|refine z16 ?_|refine z20 ?_|apply aj|apply aa|refine z21 ?_ (hc:=by apply h1)|refine z21 ?_ (hc:=by apply h2)|refine z22 ?_ (hc:=by apply h2)|refine z21 ?_ (hc:=by apply h3)|refine z22 ?_ (hc:=by apply h3)|refine z21 ?_ (hc:=by apply h4)|refine z22 ?_ (hc:=by apply h5)|refine z22 ?_ (hc:=by apply h6)|refine z21 ?_ (hc:=by apply h7)|refine z22 ?_ (hc:=by apply h8)|refine z22 ?_ (hc:=by apply h9)|refine z22 ?_ (hc:=by apply ha)|refine z1 ?_|refine z3 ?_|refine z4 ?_|fail)
 exact⟨.inl rfl,_,rfl,rfl,rfl⟩
theorem play_forth {was now:List Fct} (h:Strict now):playL was (bq (eh now was)) (bq (eh was now))=now:=by
 refine ir (bn _).1 h fun x=>?_
 unfold playL
 rw [(bn _).2,List.mem_append,(bn _).2,mem_minus,(bn _).2,(bn _).2,mem_minus,mem_minus]
 by_cases h1:x∈was <;> by_cases h2:x∈now <;> simp [h1,h2]
theorem mdl_strict (p:Prg) (l:List Fct):Strict (mdl p l).2:=(mdl_is p l).strict.1
def Leads:List Fct→List Chg→List Fct→Prop
 | m,[],n=>m=n
 | m,c::cs,n=>SeenS m∧SeenS c.1∧SeenS c.2∧Leads (playL m c.1 c.2) cs n
theorem seenS_set {a b:List Fct} (ha:SeenS a):SeenS (bq (eh a b)) :=
 ⟨Nat.le_trans (jf _) (Nat.le_trans (List.length_filter_le _ _) ha.1),fun x hx=>ha.2 x (mem_minus.1 (((bn _).2 x).1 hx)).1⟩
theorem play_none {m:List Fct} (h:Strict m):playL m [] []=m:=by
 refine ir (bn _).1 h fun x=>?_
 unfold playL
 rw [(bn _).2,List.mem_append,(bn _).2,mem_minus]
 simp
theorem stepV_leads {p:Prg} {r:Rpl} {m:List Fct} {u:Upd} (hm:m=(mdl p (de p r)).2) (hs:(stepV p r m u).2.2.2=0) :
  (stepV p r m u).2.1=(mdl p (de p (stepV p r m u).1)).2∧SeenS (stepV p r m u).2.2.1.1∧SeenS (stepV p r m u).2.2.1.2∧playL m (stepV p r m u).2.2.1.1 (stepV p r m u).2.2.1.2=(stepV p r m u).2.1:=by
 have n0:SeenS []:=⟨Nat.zero_le _,fun x hx=>by cases hx⟩
 have hst:Strict m:=by rw [hm];exact mdl_strict _ _
 have hsm:SeenS m:=by rw [hm];exact mdl_small _ _
 unfold stepV at hs ⊢
 by_cases h1:dy u=0
 ·rw [if_neg (by simpa using h1)] at hs ⊢
  by_cases h2:hasU r.both u.id=true
  ·rw [if_pos h2]
   exact⟨hm,n0,n0,play_none hst⟩
  ·rw [if_neg h2] at hs ⊢
   by_cases h3:200≤r.both.length
   ·rw [if_pos h3] at hs
    cases hs
   ·rw [if_neg h3] at hs ⊢
    by_cases h4:(mdl p (de p (putR r u))).1=0
    ·rw [if_neg (by simpa using h4)]
     exact⟨rfl,seenS_set (mdl_small _ _),seenS_set hsm,play_forth (mdl_strict _ _)⟩
    ·rw [if_pos h4] at hs
     exact absurd hs h4
 ·rw [if_pos h1] at hs
  exact absurd hs h1
theorem runV_leads {p:Prg}:∀ {l:List Upd} {r:Rpl} {m:List Fct} {acc:List Chg},RpGood r→(mdl p (de p r)).1=0→m=(mdl p (de p r)).2→(runV p l r m acc).2.2.2=0 →
  RpGood (runV p l r m acc).1∧(mdl p (de p (runV p l r m acc).1)).1=0∧∃ cs,(runV p l r m acc).2.2.1=acc++cs∧Leads m cs (mdl p (de p (runV p l r m acc).1)).2
 | [],r,m,acc,hg,h0,hm,_=>⟨hg,h0,[],by rw [runV,List.append_nil],by rw [runV];exact hm⟩
 | u::l,r,m,acc,hg,h0,hm,hs=>by
  rw [runV] at hs ⊢
  by_cases h1:(stepV p r m u).2.2.2=0
  ·rw [if_neg (by simpa using h1)] at hs ⊢
   obtain⟨q1,q2,_⟩:=stepV_both hg h0 h1
   obtain⟨s1,s2,s3,s4⟩:=stepV_leads hm h1
   obtain⟨k1,k2,cs,k3,k4⟩:=runV_leads (acc:=acc++[(stepV p r m u).2.2.1]) q1 q2 s1 hs
   refine⟨k1,k2,(stepV p r m u).2.2.1::cs,by rw [k3,List.append_assoc];rfl,⟨by rw [hm];exact mdl_small _ _,s2,s3,?_⟩⟩
   rw [s4]
   exact k4
  ·rw [if_pos h1] at hs
   exact absurd hs h1
theorem deliv_leads {p:Prg} {r:Rpl} {l:List Upd} (ho:(openV p r).2=0) (h:(delivV p r l).2.2=0) :
  RpGood (delivV p r l).1∧(openV p (delivV p r l).1).2=0∧Leads (openV p r).1 (delivV p r l).2.1 (openV p (delivV p r l).1).1:=by
 obtain⟨hp,hr,hm⟩:=openV_ok ho
 have hg:=RpGood.of hr
 have ho2:=openV_good hp hg
 unfold delivV at h ⊢
 rw [if_neg (by simpa using ho)] at h ⊢
 by_cases h2:200 < l.length
 ·rw [if_pos h2] at h;cases h
 ·rw [if_neg h2] at h ⊢
  by_cases h3:(runV p l r (openV p r).1 []).2.2.2=0
  ·rw [if_neg (by simpa using h3)]
   obtain⟨k1,k2,cs,k3,k4⟩:=runV_leads hg hm (by rw [ho2]) h3
   dsimp only
   rw [openV_good hp k1,k3]
   exact⟨k1,k2,k4⟩
  ·rw [if_pos h3] at h
   exact absurd h h3
theorem delivV_none {p:Prg} {r:Rpl} {l:List Upd} (h:(delivV p r l).2.2≠0):(delivV p r l).1=rplO:=by
 unfold delivV at h ⊢
 split
 ·rfl
 ·rename_i h1
  rw [if_neg h1] at h
  split
  ·rfl
  ·rename_i h2
   rw [if_neg h2] at h
   split
   ·rfl
   ·rename_i h3
    rw [if_neg h3] at h
    exact absurd rfl h
theorem leads_at {m:List Fct} {cs:List Chg} {n:List Fct} {i:Nat} (h:Leads m (cs.drop i) n) (hi:i < cs.length):SeenS m∧SeenS cs[i].1∧SeenS cs[i].2∧Leads (playL m cs[i].1 cs[i].2) (cs.drop (i + 1)) n:=by
 rw [List.drop_eq_getElem_cons hi] at h
 exact h
theorem small_modelS {l M:List Fct} (he:mErr smallP l=0) (hs:bq l=l) (hsM:bq M=M) (hf:cu (ky smallP.arity) M=0) (hlen:M.length≤60) (i2:InvM (lvV smallP (eo smallP) 0 l) l M)
  (key:∀ r∈smallP.rules,ed M r=true∧∀ x∈hdW M r,x∈M):ModelR smallP l 0 M:=by
 have hst:Strict M:=by
  have:=(bn M).1
  rw [hsM] at this
  exact this
 have hfit0:Fit (lvV smallP (eo smallP) 0 l) l M:=fit_done i2 (fun r hr=>(key r (List.mem_filter.1 hr).1).1) fun r hr=>(key r (List.mem_filter.1 hr).1).2
 have hfit1:Fit (lvV smallP (eo smallP) 1 M) M M:=by
  have hno:∀ r∈(lvV smallP (eo smallP) 1 M).rs,False:=by
   intro r hr'
   obtain⟨hm,hl⟩:=List.mem_filter.1 hr'
   rw [d9] at hm
   simp only [List.mem_cons,List.not_mem_nil,or_false] at hm
   rw [small_lv] at hl
   rcases hm with rfl|rfl <;> exact absurd (of_decide_eq_true hl) (by decide)
  exact fit_done (kx hst ⟨fun x hx=>factE_ok (gv hf x hx),fun _ _=>Iff.rfl⟩ hlen) (fun r hr=>(hno r hr).elim) fun r hr=>(hno r hr).elim
 exact .ok M he ⟨M,⟨l,hs.symm,hfit0⟩,hfit1⟩
theorem small_errS {l:List Fct} (h:factsE smallP.arity l=0):mErr smallP l=0:=by
 unfold mErr
 rw [if_neg (by rw [show dh du smallP=0 by kernel_rfl];simp),if_neg (by rw [small_doc];simp)]
 exact h
abbrev l45:List Fct:=[⟨0,[4,5]⟩]
abbrev m45:List Fct:=[⟨0,[4,5]⟩,⟨1,[4,5]⟩]
theorem no_way {S:List Fct} {r:Rul} (h:ij S r.body (ld r.body) (e0 r.vars.toNat)=[]):ed S r=true∧hdW S r=[]:=by
 obtain⟨h1,h2⟩:=one_way h List.Pairwise.nil (by simp)
 exact⟨h1,by unfold hdW;rw [h2];unfold ma;simp;rfl⟩
theorem model_nil:ModelR smallP [] 0 []:=by
 have he:=small_errS (l:=[]) (by kernel_rfl)
 refine small_modelS he (by kernel_rfl) (by kernel_rfl) (by kernel_rfl) (by decide) (kx .nil ⟨(mOk he).facts,fun _ _=>Iff.rfl⟩ (by decide)) ?_
 intro r hr
 rw [d9] at hr
 simp only [List.mem_cons,List.not_mem_nil,or_false] at hr
 rcases hr with rfl|rfl
 ·obtain⟨h1,h2⟩:=no_way (S:=[]) (r:=d8) (by kernel_rfl)
  exact⟨h1,fun x hx=>by rw [h2] at hx;exact hx⟩
 ·obtain⟨h1,h2⟩:=no_way (S:=[]) (r:=kh) (by kernel_rfl)
  exact⟨h1,fun x hx=>by rw [h2] at hx;exact hx⟩
theorem model_45:ModelR smallP l45 0 m45:=by
 have he:=small_errS (l:=l45) (by kernel_rfl)
 have ho:=mOk he
 have hV:=lvV_ok ho.pr ho.fit 0 l45
 have hst0:Strict l45:=by
  have:=(bn l45).1
  rw [show bq l45=l45 by kernel_rfl] at this
  exact this
 have i0:InvM (lvV smallP (eo smallP) 0 l45) l45 l45:=kx hst0 ⟨ho.facts,fun _ _=>Iff.rfl⟩ (by decide)
 have hQ:d8∈(lvV smallP (eo smallP) 0 l45).rs:=List.mem_filter.2 ⟨by rw [d9];simp,by rw [small_lv];decide⟩
 have q1:ed l45 d8=true∧gk l45 d8=[[4,5]]:=one_way (by kernel_rfl) (List.pairwise_singleton _ _) (by simp)
 have q2:ed m45 d8=true∧gk m45 d8=[[4,5]]:=one_way (by kernel_rfl) (List.pairwise_singleton _ _) (by simp)
 have hq:hdW l45 d8=[⟨1,[4,5]⟩]:=by unfold hdW;rw [q1.2];kernel_rfl
 have hq2:hdW m45 d8=[⟨1,[4,5]⟩]:=by unfold hdW;rw [q2.2];kernel_rfl
 have i1:=inv_put hV i0 (H:=[⟨1,[4,5]⟩]) (fun x hx=>⟨d8,hQ,l45,i0,by show x∈hdW l45 d8;rw [hq];exact hx⟩) (by decide)
 rw [show bq (l45++[⟨1,[4,5]⟩])=m45 by kernel_rfl] at i1
 refine small_modelS he (by kernel_rfl) (by kernel_rfl) (by kernel_rfl) (by decide) i1 ?_
 intro r hr
 rw [d9] at hr
 simp only [List.mem_cons,List.not_mem_nil,or_false] at hr
 rcases hr with rfl|rfl
 ·refine⟨q2.1,fun x hx=>?_⟩
  rw [hq2,List.mem_singleton] at hx
  subst hx
  simp [m45]
 ·obtain⟨h1,h2⟩:=no_way (S:=m45) (r:=kh) (by kernel_rfl)
  exact⟨h1,fun x hx=>by rw [h2] at hx;cases hx⟩
theorem mdl_of {p:Prg} {l m:List Fct} {e:Int} (h:ModelR p l e m):mdl p l=(e,m):=by
 obtain⟨h1,h2⟩:=(mdl_is p l).unique h
 exact Prod.ext h1 h2
theorem small_prog:dh du smallP=0:=by kernel_rfl
theorem open_first:openV smallP ⟨[firstU],[]⟩=(fullF,0):=by
 rw [openV_good small_prog (RpGood.of (by kernel_rfl)),show de smallP ⟨[firstU],[]⟩=pairsF by kernel_rfl,mdl_of small_model]
theorem open_none:openV smallP rplO=([],0):=by
 rw [openV_good small_prog (RpGood.of (by kernel_rfl)),show de smallP rplO=[] by kernel_rfl,mdl_of model_nil]
theorem step_one:stepV smallP rplO [] secondU=(⟨[],[secondU]⟩,[],([],[]),0):=by
 unfold stepV
 rw [if_neg (by rw [show dy secondU=0 by kernel_rfl];simp),if_neg (by rw [show hasU rplO.both secondU.id=false by kernel_rfl];simp),if_neg (by decide),putR_is (r:=rplO) rpl1_ok,show de smallP ⟨[],[secondU]⟩=[] by kernel_rfl,mdl_of model_nil,if_neg (by simp)]
 rfl
theorem step_two:stepV smallP ⟨[],[secondU]⟩ [] firstU=(⟨[firstU,secondU],[]⟩,m45,(m45,[]),0):=by
 unfold stepV
 rw [if_neg (by rw [show dy firstU=0 by kernel_rfl];simp),if_neg (by rw [show hasU (Rpl.both ⟨[],[secondU]⟩) firstU.id=false by kernel_rfl];simp),if_neg (by decide),putR_is (r:=⟨[],[secondU]⟩) rpl2_ok,show de smallP ⟨[firstU,secondU],[]⟩=l45 by kernel_rfl,mdl_of model_45,if_neg (by simp)]
 rw [show bq (eh m45 [])=m45 by kernel_rfl,show bq (eh [] m45)=[] by kernel_rfl]
theorem deliv_two:delivV smallP rplO [secondU,firstU]=(⟨[firstU,secondU],[]⟩,[([],[]),(m45,[])],0):=by
 unfold delivV
 rw [open_none,if_neg (by simp),if_neg (by decide)]
 simp [runV,step_one,step_two]
theorem aggN_rel {X e w} {q:Nat} {a:SV} {v:Value} (h:Rel X e w (.agg [a,.nils]) v):Rel X e w (.agg [a,.d (.slice q [])]) v:=by
 obtain⟨us,hv,hr⟩:=h
 match us,hr with
 | [x,y],⟨h1,h2,_⟩=>exact⟨[x,y],hv,h1,nil_rel h2,trivial⟩
 | [],h=>exact h.elim
 | [_],⟨_,h⟩=>exact h.elim
 | _::_::_::_,⟨_,_,h⟩=>exact h.elim
set_option maxHeartbeats 8000000 in
theorem viewBegun_fn:Fn 5 [] (fun r=>r = .d (.bool true)):=by
 refine ak _ Tryz.func5 rfl rfl (by kernel_rfl) ?_
 intro O w0 E0 β0
 have h1:=lsmall_fn
 have h2:=first_fn
 have h3:=second_fn
 have h4:=lfull_fn
 have h5:=vopen_fn smallP ⟨[firstU],[]⟩ (by decide) (by decide)
 rw [open_first] at h5
 have h6:=vdeliver_fn smallP rplO [secondU,firstU] (by decide) (by decide)
 rw [deliv_two] at h6
 have h5:Fn 4 [jl smallP,.agg [.d (.slice 5 ([firstU].map a7)),.nils]] _:=FnP.args h5 fun _ _ _ vs h=>match vs,h with
  | _::_::_,⟨g1,g2,g3⟩=>⟨g1,aggN_rel g2,g3⟩
  | [_],⟨_,h⟩=>h.elim
  | [],h=>h.elim
 have h6:Fn 7 [jl smallP,.agg [.nils,.nils],.d (.slice 5 ([secondU,firstU].map a7))] _:=FnP.args h6 fun _ _ _ vs h=>match vs,h with
  | _::_::_,⟨g1,g2,g3⟩=>⟨g1,agg2_rel g2,g3⟩
  | [_],⟨_,h⟩=>h.elim
  | [],h=>h.elim
 have h7:=jn fullF fullF
 rw [sameF_eq] at h7
 have h8:=sameUpdates_fn [firstU,secondU] [firstU,secondU]
 rw [kj Upd.same_refl] at h8
 have h9:=fact_fn 0 [4,5]
 have h10:=fact_fn 1 [4,5]
 have h11:=jn m45 m45
 rw [sameF_eq] at h11
 repeat' (first|refine z0 ?_|apply ag|refine z5 ?_|refine z10 ?_|apply ae|refine z16 ?_|refine z20 ?_|apply aj|apply aa|refine z21 ?_ (hc:=by apply h1)|refine z21 ?_ (hc:=by apply h2)|refine z22 ?_ (hc:=by apply h2)|refine z21 ?_ (hc:=by apply h3)|refine z22 ?_ (hc:=by apply h3)|refine z22 ?_ (hc:=by apply h4)|refine z21 ?_ (hc:=by apply h5)|refine z21 ?_ (hc:=by apply h6)|refine z22 ?_ (hc:=by apply h7)|refine z22 ?_ (hc:=by apply h8)|refine z22 ?_ (hc:=by apply h9)|refine z22 ?_ (hc:=by apply h10)|refine z22 ?_ (hc:=by apply h11)|refine z1 ?_|refine z3 ?_|refine z4 ?_|fail)
 exact cm rfl rfl
set_option maxHeartbeats 8000000 in
theorem viewPlays_fn (p:Prg) (r:Rpl) (l:List Upd) (h1:r.has.length≤4398046511104) (h2:r.waits.length≤4398046511104) (wb:Fn 5 [] (fun r=>r = .d (.bool true))) (wc:Fn 6 [] (fun r=>r = .d (.bool true))) :
  Fn 3 [jl p,elRpl r,.d (.slice 5 (l.map a7))] (fun res=>res = .d (.bool true)):=by
 refine ak _ Tryz.func3 rfl rfl (by kernel_rfl) ?_
 intro O w0 E0 β0
 have w1:=vopen_fn p r h1 h2
 have w2:=vdeliver_fn p r l h1 h2
 have hn:=openV_none (p:=p) (r:=r)
 have hl:=deliv_leads (p:=p) (r:=r) (l:=l)
 have hz:=delivV_none (p:=p) (r:=r) (l:=l)
 generalize delivV p r l=D at *
 generalize openV p r=o at *
 obtain⟨s,e⟩:=o
 obtain⟨x,cs,f⟩:=D
 dsimp only at *
 by_cases he:e=0
 ·subst he
  by_cases hf:f=0
  ·subst hf
   obtain⟨q1,q2,q3⟩:=hl rfl rfl
   have hlen:=q1.len
   have w3:=vopen_fn p x (by omega) (by omega)
   rw [q2] at w3
   generalize (openV p x).1=n at *
   have lc:(cs.map encChg).length=cs.length:=List.length_map _
   repeat' (first|refine z0 ?_|apply ag|apply ae|refine z16 ?_|apply ah|apply ai|refine z19 ?_|apply aa|refine z21 ?_ (hc:=by apply w1)|refine z21 ?_ (hc:=by apply w2)|refine z21 ?_ (hc:=by apply wb)|refine z21 ?_ (hc:=by apply wc)|refine z1 ?_|refine z3 ?_|fail)
   all_goals try (exfalso;omega)
   refine cp (t:=10) rfl fun hcb=>?_
   refine bh (ι:=Nat × List Fct) (fun c=>⟨3,[(3,.loc 0 0),(7,.d (.slice 2 (c.2.map a6))),(9,.loc 2 0),(10,.d (.slice 2 (cs.map encChg))),(11,.d (.int .i64 c.1))],
     [(0,.blk 26 [.d (.slice 1 (p.arity.map bi)),.d (.slice 1 (p.names.map encT)),.d (.slice 5 (p.rules.map dx))]),(2,.blk 29 [.d (.slice 5 (x.has.map a7)),.d (.slice 5 (x.waits.map a7))])]⟩)
    (fun c=>c.1≤cs.length∧Leads c.2 (cs.drop c.1) n) (fun c=>cs.length - c.1) (0,s) ⟨Nat.zero_le _,q3⟩ (ap id ⟨rfl,rfl,rfl,rfl,rfl,trivial⟩ ⟨rfl,rfl,trivial⟩ rfl rfl rfl rfl rfl rfl) ?_
   clear w1 w2
   rintro⟨i,m⟩ ⟨g1,g2⟩
   dsimp only at g1 g2 ⊢
   by_cases hi:i < cs.length
   ·obtain⟨⟨a1,a2⟩,⟨b1,b2⟩,⟨c1,c2⟩,g3⟩:=leads_at g2 hi
    have w4:=play_fn m cs[i].1 cs[i].2 (by omega) (by omega) (fun x hx=>by have:=a2 x hx;omega) (fun x hx=>by have:=b2 x hx;omega) (fun x hx=>by have:=c2 x hx;omega)
    repeat' (first|refine z0 ?_|apply ag|apply ae|refine z16 ?_|apply ah|apply ai|apply au|apply aa|apply aq|apply bg|refine z17 ?_|refine z21 ?_ (hc:=by apply w4)|(refine z23 ?_ ?_ <;> intro hg)|fail)
    all_goals try (exfalso;omega)
    exact⟨(i + 1,playL m cs[i].1 cs[i].2),⟨hi,g3⟩,ap id ⟨rfl,rfl,rfl,rfl,rfl,trivial⟩ ⟨rfl,rfl,trivial⟩ rfl rfl rfl rfl rfl rfl,by show cs.length - (i + 1) < cs.length - i;omega⟩
   ·rw [List.drop_eq_nil_of_le (by omega)] at g2
    have g2:m=n:=g2
    subst g2
    have w5:=jn m m
    rw [kj (fun x=>(fsame_iff x x).2 rfl) m] at w5
    repeat' (first|refine z0 ?_|apply ag|apply ae|refine z16 ?_|apply ah|apply ai|apply au|apply aj|apply aa|apply aq|refine z17 ?_|refine z21 ?_ (hc:=by apply w3)|refine z21 ?_ (hc:=by apply w5)|(refine z23 ?_ ?_ <;> intro hg)|fail)
    all_goals try (exfalso;omega)
    all_goals exact cm rfl rfl
  ·have hz:=hz hf
   subst hz
   repeat' (first|refine z0 ?_|apply ag|apply ae|refine z16 ?_|apply ah|apply ai|apply aj|refine z19 ?_|apply aa|apply av|refine z21 ?_ (hc:=by apply w1)|refine z21 ?_ (hc:=by apply w2)|refine z21 ?_ (hc:=by apply wb)|refine z21 ?_ (hc:=by apply wc)|refine z1 ?_|refine z3 ?_|(refine z23 ?_ ?_ <;> intro hg)|fail)
   all_goals try (exfalso;omega)
   all_goals exact cm rfl rfl
 ·have hn:=hn he
  subst hn
  repeat' (first|refine z0 ?_|apply ag|apply ae|refine z16 ?_|apply ah|apply ai|apply aj|refine z19 ?_|apply aa|apply av|refine z21 ?_ (hc:=by apply w1)|refine z21 ?_ (hc:=by apply w2)|refine z21 ?_ (hc:=by apply wb)|refine z21 ?_ (hc:=by apply wc)|refine z1 ?_|refine z3 ?_|(refine z23 ?_ ?_ <;> intro hg)|fail)
  all_goals try (exfalso;omega)
  all_goals exact cm rfl rfl
theorem plistOf {α:Type} {e:RT} {enc:α→List D} (h:∀ x,TyD e x→∃ t,x=enc t):∀ (l:List (List D)),(∀ x∈l,TyD e x)→∃ ts:List α,l=ts.map enc
 | [],_=>⟨[],rfl⟩
 | x::l,hl=>by
  obtain⟨t,rfl⟩:=h x (hl x (List.mem_cons_self ..))
  obtain⟨ts,rfl⟩:=plistOf h l fun y hy=>hl y (List.mem_cons_of_mem _ hy)
  exact⟨t::ts,rfl⟩
theorem psliceOf {α:Type} {c b:Nat} {e:RT} {enc:α→List D} (h:∀ x,TyD e x→∃ t,x=enc t) (x:List D) (hx:TyD (.slice c b e) x):∃ ts:List α,x=[.slice c (ts.map enc)]:=by
 obtain⟨l,_,_,rfl,h3⟩:=hx
 obtain⟨ts,rfl⟩:=plistOf h l h3
 exact⟨ts,rfl⟩
abbrev rtTrm:RT:=.struct [.int .i64,.int .i64]
abbrev rtLtl:RT:=.struct [.int .i64,.int .i64,.int .i64,.slice 2 16 rtTrm]
abbrev rtRul:RT:=.struct [.int .i64,.slice 2 16 rtTrm,.int .i64,.slice 4 48 rtLtl,.int .i64]
abbrev rtPrg:RT:=.struct [.slice 1 8 (.int .i64),.slice 1 16 .str,.slice 5 72 rtRul]
theorem pint_of (x:List D) (h:TyD (.int .i64) x):∃ n:Int,x=bi n:=by
 obtain⟨n,_,rfl⟩:=h
 exact⟨n,rfl⟩
theorem pstr_of (x:List D) (h:TyD .str x):∃ n:ByteArray,x=encT n:=by
 obtain⟨n,_,rfl⟩:=h
 exact⟨n,rfl⟩
theorem trm_of (x:List D) (h:TyD rtTrm x):∃ t:Trm,x=bw t:=by
 obtain⟨a,b,rfl,⟨k,_,rfl⟩,c,d,rfl,⟨p,_,rfl⟩,rfl⟩:=h
 exact⟨⟨k,p⟩,rfl⟩
theorem ltl_of (x:List D) (h:TyD rtLtl x):∃ t:Ltl,x=bt t:=by
 obtain⟨a,b,rfl,⟨k,_,rfl⟩,c,d,rfl,⟨p,_,rfl⟩,e,f,rfl,⟨q,_,rfl⟩,g,i,rfl,h4,rfl⟩:=h
 obtain⟨l,rfl⟩:=psliceOf trm_of g h4
 exact⟨⟨k,p,q,l⟩,rfl⟩
theorem rul_of (x:List D) (h:TyD rtRul x):∃ t:Rul,x=dx t:=by
 obtain⟨a,b,rfl,⟨k,_,rfl⟩,c,d,rfl,h2,e,f,rfl,⟨q,_,rfl⟩,g,i,rfl,h4,j,m,rfl,⟨v,_,rfl⟩,rfl⟩:=h
 obtain⟨l,rfl⟩:=psliceOf trm_of c h2
 obtain⟨n,rfl⟩:=psliceOf ltl_of g h4
 exact⟨⟨k,l,q,n,v⟩,rfl⟩
theorem prg_arg (x:List D) (h:TyD rtPrg x):∃ p:Prg,RT.arg rtPrg x=jl p:=by
 obtain⟨c,d,rfl,h2,e,f,rfl,h3,g,h,rfl,h4,rfl⟩:=h
 obtain⟨l,rfl⟩:=psliceOf pint_of c h2
 obtain⟨m,rfl⟩:=psliceOf pstr_of e h3
 obtain⟨n,rfl⟩:=psliceOf rul_of g h4
 exact⟨⟨l,m,n⟩,rfl⟩
end Go.Proofs.YtapciiffpnociaaGreat
