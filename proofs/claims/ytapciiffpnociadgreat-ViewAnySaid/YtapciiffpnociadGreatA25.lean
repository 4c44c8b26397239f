/- Several texts in one: VwG VwH VwI GxArg DagZ VwJ DagM DagN VwM VwK VwL VwN PrgIn WirIn DagIn. Condition: none. -/
import Derived.Test.YtapciiffpnociadGreatA24
import Derived.Test.YtapciiffpnociadGreatA16
import Derived.Test.YtapciiffpnociadGreatA20
import Derived.Test.YtapciiffpnociadGreatA03
import Derived.Test.YtapciiffpnociadGreatA12
import Derived.Test.YtapciiffpnociadGreatA10
import Derived.Test.YtapciiffpnociadGreatA13
namespace Go.Proofs.YtapciiffpnociadGreat
open Go Go.RowKit
theorem RpGood.put {r r2:Rpl} {u:Upd} (h:RpGood r) (hc:d8 u=0) (hn:hasU r.both u.id=false) (hl:r.has.length + r.waits.length < 200) (h2:RplOk (u::r.both) r2):RpGood r2:=by
 have ht:=(ToldOk.self h.ok).step hn h2
 have hlen:=ht.len
 have hb:r2.both.length=r2.has.length + r2.waits.length:=List.length_append
 have hb1:r.both.length=r.has.length + r.waits.length:=List.length_append
 rw [List.length_cons] at hlen
 refine⟨h2.self,by omega,fun v hv=>?_⟩
 rcases List.mem_cons.1 ((h2.all v).2 (List.mem_append.1 hv)) with rfl|hv
 ·exact hc
 ·exact h.each v hv
theorem mdl_small (p:Prg) (l:List Fct):(mdl p l).2.length≤60∧∀ x∈(mdl p l).2,x.args.length≤3:=by
 have h:=mdl_is p l
 obtain⟨_,h1,h2⟩:=h.strict
 refine⟨h1,fun x hx=>?_⟩
 by_cases he:(mdl p l).1=0
 ·rw [he] at h
  exact fct_len (mOk h.ok0).pr (h2 x hx)
 ·rw [mdl_none he] at hx
  cases hx
attribute [local irreducible] DW DS DL DQ Ev FnOk FnP ej cd DT
set_option maxHeartbeats 8000000 in
theorem deliver_fn (p:Prg) (r:Rpl) (m:List Fct) (u:Upd) (hg:RpGood r) (hm:m.length≤60) (ha:∀ x∈m,x.args.length≤3):FnOk false Tryz.prog tab cn 79 [.loc 0 0,elUpd u] 1 3 (vwH p m r)
  (fun k res H=>k=3∧res = .tup [elChg (stepV p r m u).2.2.1.1 (stepV p r m u).2.2.1.2,.d (.int .i64 (stepV p r m u).2.2.2)]∧H=vwH p (stepV p r m u).2.1 (stepV p r m u).1):=by
 refine co _ Tryz.func79 rfl rfl (by kernel_rfl) ?_
 intro O w0 E0 β0
 have hgl:=hg.len
 have w1:=checkU_fn u
 have hd:stepV p r m u=if d8 u≠0 then (r,m,([],[]),d8 u)
  else if hasU r.both u.id=true then (r,m,([],[]),0)
  else if 200≤r.both.length then (r,m,([],[]),2)
  else if (mdl p (dp p (putR r u))).1≠0 then (putR r u,(mdl p (dp p (putR r u))).2,([],[]),(mdl p (dp p (putR r u))).1)
  else (putR r u,(mdl p (dp p (putR r u))).2,(ck (minusL (mdl p (dp p (putR r u))).2 m),ck (minusL m (mdl p (dp p (putR r u))).2)),0):=rfl
 generalize stepV p r m u=s at *
 by_cases hc:d8 u=0
 ·rw [if_neg (by simpa using hc)] at hd
  rw [hc] at w1
  have w2:FnOk false Tryz.prog tab cn 140 [.row 0,elId u.id] 1 1 [(0,.row 82 5 (r.has.map a6))] (fun _ res H2=>res = .d (.bool (hasU r.has u.id))∧H2=[(0,.row 82 5 (r.has.map a6))]) :=
   FnP.shownR (dhas_fn r.has u.id (by omega) hg.ok.sh) rfl rfl (by rintro _ rfl;rfl)
  have w3:FnOk false Tryz.prog tab cn 140 [.row 0,elId u.id] 1 1 [(0,.row 82 5 (r.waits.map a6))] (fun _ res H2=>res = .d (.bool (hasU r.waits u.id))∧H2=[(0,.row 82 5 (r.waits.map a6))]) :=
   FnP.shownR (dhas_fn r.waits u.id (by omega) hg.ok.sw) rfl rfl (by rintro _ rfl;rfl)
  have hty:=hasU_app r.has r.waits u.id
  repeat' (first|refine z0 ?_|apply ag|refine z5 ?_|apply ae|refine z16 ?_|refine z20 ?_|apply ai|refine z19 ?_|apply aa|refine z21 ?_ (hc:=by apply w1)|refine z1 ?_|fail)
  all_goals try (exfalso;omega)
  refine dt_callR (fun j=>match j with|0=>1|j=>j) w2 (by rintro _ rfl;exact⟨rfl,rfl⟩) ⟨_,rfl⟩ rfl rfl rfl rfl ⟨rfl,trivial⟩ rfl rfl rfl rfl rfl rfl rfl rfl rfl ?_
  rintro _ rfl
  clear w1 w2
  cases hb1:hasU r.has u.id with
  | true =>
   rw [if_pos (by rw [hb1] at hty;exact hty)] at hd
   subst hd
   repeat' (first|refine z0 ?_|apply ag|refine z5 ?_|refine z14 ?_|refine z10 ?_|apply ae|refine z16 ?_|refine z18 ?_|apply aa|refine z3 ?_|fail)
   all_goals try (exfalso;omega)
   refine bg (bu 4 0 2 rfl rfl rfl) ?_
   refine bg (bu 4 1 2 rfl rfl rfl) ?_
   repeat' (first|apply aj|apply av)
   exact⟨.inl rfl,_,rfl,id,3,.tup [elChg [] [],.d (.int .i64 0)],vwH p m r,rfl,⟨rfl,rfl,rfl,trivial⟩,rfl,rfl,rfl,rfl,rfl,rfl,rfl,rfl,rfl⟩
  | false =>
   repeat' refine z5 ?_
   all_goals try (exfalso;omega)
   refine dt_callR (fun j=>match j with|0=>2|j=>j) w3 (by rintro _ rfl;exact⟨rfl,rfl⟩) ⟨_,rfl⟩ rfl rfl rfl rfl ⟨rfl,trivial⟩ rfl rfl rfl rfl rfl rfl rfl rfl rfl ?_
   rintro _ rfl
   clear w3
   cases hb2:hasU r.waits u.id with
   | true =>
    rw [if_pos (by rw [hb1,hb2] at hty;exact hty)] at hd
    subst hd
    repeat' (first|refine z0 ?_|apply ag|refine z5 ?_|refine z10 ?_|apply ae|refine z16 ?_|refine z18 ?_|apply aa|refine z3 ?_|fail)
    all_goals try (exfalso;omega)
    refine bg (bu 4 0 2 rfl rfl rfl) ?_
    refine bg (bu 4 1 2 rfl rfl rfl) ?_
    repeat' (first|apply aj|apply av)
    exact⟨.inl rfl,_,rfl,id,3,.tup [elChg [] [],.d (.int .i64 0)],vwH p m r,rfl,⟨rfl,rfl,rfl,trivial⟩,rfl,rfl,rfl,rfl,rfl,rfl,rfl,rfl,rfl⟩
   | false =>
    have hno:hasU r.both u.id=false:=by rw [hb1,hb2] at hty;exact hty
    rw [if_neg (by rw [hno];simp)] at hd
    have wp:=putV_fn p m r u hg.ok (by omega) (by omega) (short_of hc) (fun v hv=>short_of (hg.each v (List.mem_append_left _ hv))) (fun v hv=>short_of (hg.each v (List.mem_append_right _ hv)))
    repeat' ((fail_if_success (apply bw 6));(first|refine z5 ?_|refine z10 ?_|apply ae|apply ai|refine z19 ?_|apply aa))
    all_goals try (exfalso;omega)
    refine dw_tail 4 (by kernel_rfl) (by kernel_rfl) (by kernel_rfl) rfl rfl rfl ?_
    repeat' ((fail_if_success (apply bw 6));(first|refine z5 ?_|refine z10 ?_|fail))
    refine bx id wp rfl rfl rfl rfl ⟨rfl,rfl,rfl,trivial⟩ rfl rfl rfl rfl rfl rfl ?_ ?_
    ·rintro k2 res H2 ⟨rfl,⟨_,rfl,rfl⟩|⟨_,_,_,rfl,rfl⟩|⟨_,_,_,r2,_,rfl,rfl⟩⟩ <;> exact⟨rfl,rfl⟩
    clear wp
    rintro k2 res H2 ⟨rfl,⟨hor,rfl,rfl⟩|⟨_,_,hfull,rfl,rfl⟩|⟨_,_,hroom,r2,hr2,rfl,rfl⟩⟩
    ·exfalso
     rw [hb1,hb2] at hor
     simp at hor
    ·rw [if_pos (by rw [List.length_append];exact hfull)] at hd
     subst hd
     change DS _ _ _ _ _ _ _ _
     repeat' (first|refine z0 ?_|apply ag|apply ae|refine z16 ?_|refine z18 ?_|apply aa|refine z3 ?_|fail)
     all_goals try (exfalso;omega)
     refine bg (bu 4 0 2 rfl rfl rfl) ?_
     refine bg (bu 4 1 2 rfl rfl rfl) ?_
     repeat' (first|apply aj|apply av)
     exact⟨.inl rfl,_,rfl,fun j=>match j with|1=>6|2=>7|j=>j,3,.tup [elChg [] [],.d (.int .i64 2)],vwH p m r,rfl,⟨rfl,rfl,rfl,trivial⟩,rfl,rfl,rfl,rfl,rfl,rfl,rfl,rfl,rfl⟩
    ·rw [if_neg (by rw [List.length_append];omega),putR_is hr2] at hd
     have hg2:=hg.put hc hno hroom hr2
     change DS _ _ _ _ _ _ _ _
     have wl:=look_fn p m r2 hg2
     have hsm:=mdl_small p (dp p r2)
     generalize mdl p (dp p r2)=x at *
     obtain⟨e,n⟩:=x
     dsimp only at hd wl hsm
     repeat' (first|refine z0 ?_|apply ag|apply ae|refine z16 ?_|apply ai|refine z19 ?_|apply aa)
     all_goals try (exfalso;omega)
     refine bx (fun j=>match j with|1=>6|2=>7|j=>j) wl rfl rfl rfl rfl ⟨rfl,rfl,rfl,trivial⟩ rfl rfl rfl rfl rfl rfl ?_ ?_
     ·rintro k2 res H2 ⟨rfl,rfl,rfl⟩;exact⟨rfl,rfl⟩
     rintro k2 res H2 ⟨rfl,rfl,rfl⟩
     change DS _ _ _ _ _ _ _ _
     clear wl
     by_cases he:e=0
     ·subst he
      rw [if_neg (by simp)] at hd
      subst hd
      have wb:=between_fn' m n (by omega) (by have:=hsm.1;omega) (fun x hx=>by have:=ha x hx;omega) (fun x hx=>by have:=hsm.2 x hx;omega)
      repeat' (first|refine z0 ?_|apply ag|apply ae|refine z16 ?_|apply ai|apply aj|refine z19 ?_|apply aa|refine z21 ?_ (hc:=by apply wb)|refine z3 ?_|fail)
      all_goals try (exfalso;omega)
      exact⟨.inl rfl,_,rfl,fun j=>match j with|1=>9|2=>10|j=>j,3,.tup [elChg (ck (minusL n m)) (ck (minusL m n)),.d (.int .i64 0)],vwH p n r2,rfl,⟨rfl,rfl,rfl,trivial⟩,rfl,rfl,rfl,rfl,rfl,rfl,rfl,rfl,rfl⟩
     ·rw [if_pos he] at hd
      subst hd
      repeat' (first|refine z0 ?_|apply ag|apply ae|refine z16 ?_|apply ai|apply aa|refine z3 ?_|(refine z23 ?_ ?_ <;> intro hg)|fail)
      all_goals try (exfalso;omega)
      refine bg (bu 4 0 2 rfl rfl rfl) ?_
      refine bg (bu 4 1 2 rfl rfl rfl) ?_
      repeat' (first|apply aj|apply av)
      exact⟨.inl rfl,_,rfl,fun j=>match j with|1=>9|2=>10|j=>j,3,.tup [elChg [] [],.d (.int .i64 e)],vwH p n r2,rfl,⟨rfl,rfl,rfl,trivial⟩,rfl,rfl,rfl,rfl,rfl,rfl,rfl,rfl,rfl⟩
 ·rw [if_pos hc] at hd
  subst hd
  repeat' (first|refine z0 ?_|apply ag|refine z5 ?_|apply ae|refine z16 ?_|refine z20 ?_|apply ai|apply aa|refine z21 ?_ (hc:=by apply w1)|refine z1 ?_|refine z3 ?_|(refine z23 ?_ ?_ <;> intro hg)|fail)
  all_goals try (exfalso;omega)
  refine bg (bu 4 0 2 rfl rfl rfl) ?_
  refine bg (bu 4 1 2 rfl rfl rfl) ?_
  repeat' (first|apply aj|apply av)
  exact⟨.inl rfl,_,rfl,id,3,.tup [elChg [] [],.d (.int .i64 (d8 u))],vwH p m r,rfl,⟨rfl,rfl,rfl,trivial⟩,rfl,rfl,rfl,rfl,rfl,rfl,rfl,rfl,rfl⟩
abbrev encChg (c:Chg):List D:=[.slice 2 (c.1.map ba),.slice 2 (c.2.map ba)]
abbrev SeenS (m:List Fct):Prop:=m.length≤60∧∀ x∈m,x.args.length≤3
theorem stepV_good {p:Prg} {r:Rpl} {m:List Fct} {u:Upd} (hg:RpGood r) (hm:SeenS m):RpGood (stepV p r m u).1∧SeenS (stepV p r m u).2.1:=by
 unfold stepV
 by_cases h1:d8 u=0
 ·rw [if_neg (by simpa using h1)]
  by_cases h2:hasU r.both u.id=true
  ·rw [if_pos h2]
   exact⟨hg,hm⟩
  ·rw [if_neg h2]
   have hno:hasU r.both u.id=false:=by simpa using h2
   by_cases h3:200≤r.both.length
   ·rw [if_pos h3]
    exact⟨hg,hm⟩
   ·rw [if_neg h3]
    obtain⟨_,r2,hr2⟩:=hg.ok.add hno
    have hb:r.both.length=r.has.length + r.waits.length:=List.length_append
    have hgp:RpGood (putR r u):=by
     rw [putR_is hr2]
     exact hg.put h1 hno (by omega) hr2
    split
    ·exact⟨hgp,mdl_small _ _⟩
    ·exact⟨hgp,mdl_small _ _⟩
 ·rw [if_pos h1]
  exact⟨hg,hm⟩
set_option maxHeartbeats 8000000 in
theorem vdeliver_fn (p:Prg) (r:Rpl) (l:List Upd) (h1:r.has.length≤4398046511104) (h2:r.waits.length≤4398046511104):Fn 32 [elPrg p,elRpl r,.d (.slice 5 (l.map a6))]
  (fun res=>res = .tup [elRpl (delivV p r l).1,.d (.slice 2 ((delivV p r l).2.1.map encChg)),.d (.int .i64 (delivV p r l).2.2)]):=by
 refine ak _ Tryz.func32 rfl rfl (by kernel_rfl) ?_
 intro O w0 E0 β0
 have wo:=open_fn p r h1 h2
 have hd:delivV p r l=if (openV p r).2≠0 then (rplO,[],(openV p r).2)
  else if 200 < l.length then (rplO,[],2)
  else if (runV p l r (openV p r).1 []).2.2.2≠0 then (rplO,[],(runV p l r (openV p r).1 []).2.2.2)
  else ((runV p l r (openV p r).1 []).1,(runV p l r (openV p r).1 []).2.2.1,0):=rfl
 have ho:openV p r=if dh dw p≠0 then ([],dh dw p) else if eo r≠0 then ([],eo r) else ((mdl p (dp p r)).2,(mdl p (dp p r)).1):=rfl
 generalize delivV p r l=v at *
 have ll:(l.map a6).length=l.length:=List.length_map _
 repeat' (first|refine z0 ?_|apply ag|apply ae|refine z16 ?_|apply aa|refine z1 ?_|fail)
 refine bx id wo rfl rfl rfl rfl trivial rfl rfl rfl rfl rfl rfl ?_ ?_
 ·rintro k2 res H2 (⟨_,_,rfl,rfl,rfl⟩|⟨_,rfl,rfl,rfl⟩) <;> exact⟨rfl,rfl⟩
 rintro k2 res H2 (⟨hp,hr,rfl,rfl,rfl⟩|⟨hpr,rfl,rfl,rfl⟩)
 ·rw [if_neg (by simpa using hp),if_neg (by simpa using hr)] at ho
  have hsm:=mdl_small p (dp p r)
  generalize mdl p (dp p r)=x at *
  obtain⟨xe,xs⟩:=x
  rw [ho] at hd
  dsimp only at hd hsm
  clear wo
  change DS _ _ _ _ _ _ _ _
  by_cases he:xe=0
  ·subst he
   rw [if_neg (by simp)] at hd
   by_cases hl:200 < l.length
   ·rw [if_pos hl] at hd
    subst hd
    repeat' (first|refine z0 ?_|apply ag|apply ae|refine z16 ?_|apply ah|apply ai|apply aa|(refine z23 ?_ ?_ <;> intro hg)|fail)
    all_goals try (exfalso;omega)
    refine bh (ι:=Unit) (fun _=>⟨1,[(2,.d (.slice 5 (l.map a6))),(6,.loc 0 0),(10,.d (.int .i64 2)),(11,.nils),(12,.d (.int .i64 0))],[(0,.blk 72 [.nils,.nils])]⟩) (fun _=>True) (fun _=>0) () trivial (ap (fun j=>match j with|0=>2|j=>j) ⟨rfl,rfl,rfl,rfl,rfl,trivial⟩ ⟨rfl,trivial⟩ rfl rfl rfl rfl rfl rfl) ?_
    intro _ _
    repeat' (first|refine z0 ?_|refine z12 ?_|apply ag|apply ae|refine z16 ?_|apply au|refine z18 ?_|refine z19 ?_|apply aa|apply aq|refine z17 ?_|refine z3 ?_|((fail_if_success (apply bk;exact rfl));apply bm;exact rfl;exact rfl;exact rfl;all_goals intro hg))
    all_goals try (exfalso;omega)
    all_goals try (exfalso;first|(exact absurd (by assumption) (show (2:Int)≠0 by decide))|(revert (show (2:Int)≠0 by decide);simp_all;done))
    all_goals
     refine bg (bu 0 0 5 rfl rfl rfl) ?_
     refine bg (bu 0 1 5 rfl rfl rfl) ?_
     refine bg (df 7 2 rfl) ?_
     repeat' (first|apply aj|apply av)
     exact⟨.inl rfl,_,rfl,rfl,rfl⟩
   ·rw [if_neg hl] at hd
    repeat' (first|refine z0 ?_|apply ag|apply ae|refine z16 ?_|apply ah|apply ai|apply aa|(refine z23 ?_ ?_ <;> intro hg)|fail)
    all_goals try (exfalso;omega)
    refine bg (dv (t:=11) 49 2 rfl) ?_
    generalize hR:runV p l r xs []=R at hd
    refine bh (ι:=Nat × Rpl × List Fct × List Chg × Int) (fun x=>⟨5,[(2,.d (.slice 5 (l.map a6))),(6,.loc 4 0),(9,.loc 0 0),(10,.d (.int .i64 x.2.2.2.2)),(11,.row 3),(12,.d (.int .i64 x.1))],
      [(0,vwB p x.2.2.1),(1,.row 82 5 (x.2.1.has.map a6)),(2,.row 82 5 (x.2.1.waits.map a6)),(3,.row 49 2 (x.2.2.2.1.map encChg)),(4,.blk 72 [.nils,.nils])]⟩)
     (fun x=>x.1≤l.length∧RpGood x.2.1∧SeenS x.2.2.1∧x.2.2.2.1.length=x.1∧((x.2.2.2.2=0∧R=runV p (l.drop x.1) x.2.1 x.2.2.1 x.2.2.2.1)∨(x.2.2.2.2≠0∧R=(x.2.1,x.2.2.1,x.2.2.2.1,x.2.2.2.2)))) (fun x=>l.length - x.1)
     (0,r,xs,[],0) ⟨Nat.zero_le _,RpGood.of hr,hsm,rfl,.inl ⟨rfl,hR.symm⟩⟩ (ap (fun j=>match j with|0=>3|1=>4|2=>5|3=>6|4=>2|j=>j) ⟨rfl,rfl,rfl,rfl,rfl,rfl,trivial⟩ ⟨rfl,rfl,rfl,rfl,rfl,trivial⟩ rfl rfl rfl rfl rfl rfl) ?_
    rintro⟨i,r1,m1,acc,e⟩ ⟨g1,g2,g3,g4,g5⟩
    dsimp only at g1 g2 g3 g4 g5 ⊢
    have la:(acc.map encChg).length=acc.length:=List.length_map _
    by_cases he:e=0
    ·subst he
     have g5:R=runV p (l.drop i) r1 m1 acc:=by
      rcases g5 with ⟨_,h⟩|⟨h,_⟩
      ·exact h
      ·exact absurd rfl h
     by_cases hi:i < l.length
     ·have wd:=deliver_fn p r1 m1 l[i] g2 g3.1 g3.2
      obtain⟨q1,q2⟩:=stepV_good (p:=p) (u:=l[i]) g2 g3
      rw [List.drop_eq_getElem_cons hi,runV] at g5
      generalize stepV p r1 m1 l[i]=t at *
      repeat' (first|refine z0 ?_|refine z12 ?_|apply ag|apply ae|refine z16 ?_|apply ah|apply ai|apply au|refine z18 ?_|refine z19 ?_|apply aa|apply aq|refine z17 ?_|refine z3 ?_|((fail_if_success (apply bk;exact rfl));apply bm;exact rfl;exact rfl;exact rfl;all_goals intro hg))
      all_goals try (exfalso;omega)
      refine bx id wd rfl rfl rfl rfl ⟨rfl,rfl,rfl,trivial⟩ rfl rfl rfl rfl rfl rfl ?_ ?_
      ·rintro k2 res H2 ⟨rfl,rfl,rfl⟩;exact⟨rfl,rfl⟩
      rintro k2 res H2 ⟨rfl,rfl,rfl⟩
      change DS _ _ _ _ _ _ _ _
      clear wd
      repeat' (first|refine z0 ?_|apply ag|apply ae|refine z16 ?_|apply aa|apply bf|refine z1 ?_|refine z3 ?_|refine z4 ?_|refine z2 ?_|fail)
      all_goals try (exfalso;omega)
      refine⟨(i + 1,t.1,t.2.1,acc++[t.2.2.1],t.2.2.2),⟨hi,q1,q2,by dsimp only;rw [List.length_append,g4];rfl,?_⟩,ap (fun j=>match j with|1=>6|2=>7|3=>9|j=>j) ⟨rfl,rfl,rfl,rfl,rfl,rfl,trivial⟩ ⟨rfl,rfl,rfl,by rw [List.map_append];rfl,rfl,trivial⟩ rfl rfl rfl rfl rfl rfl,by show l.length - (i + 1) < l.length - i;omega⟩
      dsimp only
      by_cases ht:t.2.2.2=0
      ·rw [if_neg (by simpa using ht)] at g5
       exact .inl ⟨ht,g5⟩
      ·rw [if_pos ht] at g5
       exact .inr ⟨ht,g5⟩
     ·have hdr:l.drop i=[]:=List.drop_eq_nil_of_le (by omega)
      rw [hdr,runV] at g5
      subst g5
      rw [if_neg (by simp)] at hd
      subst hd
      repeat' (first|refine z0 ?_|refine z12 ?_|apply ag|apply ae|refine z16 ?_|apply ah|apply ai|apply au|refine z18 ?_|refine z19 ?_|apply aa|apply aq|refine z17 ?_|refine z3 ?_|((fail_if_success (apply bk;exact rfl));apply bm;exact rfl;exact rfl;exact rfl;all_goals intro hg))
      all_goals try (exfalso;omega)
      refine bg (ent_cellseal 4 0 1 rfl rfl rfl rfl rfl) ?_
      refine bg (ent_cellseal 4 1 2 rfl rfl rfl rfl rfl) ?_
      refine bg (di 7 rfl rfl rfl) ?_
      repeat' (apply aj)
      exact⟨.inl rfl,_,rfl,rfl,rfl⟩
    ·have g5:R=(r1,m1,acc,e):=by
      rcases g5 with ⟨h,_⟩|⟨_,h⟩
      ·exact absurd h he
      ·exact h
     subst g5
     rw [if_pos he] at hd
     subst hd
     repeat' (first|refine z0 ?_|refine z12 ?_|apply ag|apply ae|refine z16 ?_|apply ah|apply ai|apply au|refine z19 ?_|apply aa|apply aq|refine z17 ?_|refine z3 ?_|(refine z23 ?_ ?_ <;> intro hg)|((fail_if_success (apply bk;exact rfl));apply bm;exact rfl;exact rfl;exact rfl;all_goals intro hg))
     all_goals try (exfalso;omega)
     all_goals
      refine bg (bu 4 0 5 rfl rfl rfl) ?_
      refine bg (bu 4 1 5 rfl rfl rfl) ?_
      refine bg (df 7 2 rfl) ?_
      repeat' (first|apply aj|apply av)
      exact⟨.inl rfl,_,rfl,rfl,rfl⟩
  ·rw [if_pos he] at hd
   subst hd
   repeat' (first|refine z0 ?_|refine z12 ?_|apply ag|apply ae|refine z16 ?_|apply ah|apply ai|refine z19 ?_|apply aa|(refine z23 ?_ ?_ <;> intro hg)|((fail_if_success (apply bk;exact rfl));apply bm;exact rfl;exact rfl;exact rfl;all_goals intro hg))
   all_goals try (exfalso;omega)
   refine bh (ι:=Unit) (fun _=>⟨1,[(2,.d (.slice 5 (l.map a6))),(6,.loc 0 0),(10,.d (.int .i64 xe)),(11,.nils),(12,.d (.int .i64 0))],[(0,.blk 72 [.nils,.nils])]⟩) (fun _=>True) (fun _=>0) () trivial (ap (fun j=>match j with|0=>2|j=>j) ⟨rfl,rfl,rfl,rfl,rfl,trivial⟩ ⟨rfl,trivial⟩ rfl rfl rfl rfl rfl rfl) ?_
   intro _ _
   repeat' (first|refine z0 ?_|refine z12 ?_|apply ag|apply ae|refine z16 ?_|apply ah|apply ai|apply au|refine z19 ?_|apply aa|apply aq|refine z17 ?_|refine z3 ?_|(refine z23 ?_ ?_ <;> intro hg)|((fail_if_success (apply bk;exact rfl));apply bm;exact rfl;exact rfl;exact rfl;all_goals intro hg))
   all_goals try (exfalso;omega)
   all_goals try (exfalso;first|(exact absurd (by assumption) he)|(revert he;simp_all;done))
   all_goals
    refine bg (bu 0 0 5 rfl rfl rfl) ?_
    refine bg (bu 0 1 5 rfl rfl rfl) ?_
    refine bg (df 7 2 rfl) ?_
    repeat' (first|apply aj|apply av)
    exact⟨.inl rfl,_,rfl,rfl,rfl⟩
 ·clear wo
  change DS _ _ _ _ _ _ _ _
  have hx:(openV p r).2=(if dh dw p≠0 then dh dw p else eo r)∧(openV p r).2≠0:=by
   rw [ho]
   by_cases hp:dh dw p=0
   ·have hr:eo r≠0:=fun h=>hpr ⟨hp,h⟩
    rw [if_neg (by simpa using hp),if_pos hr,if_neg (by simpa using hp)]
    exact⟨rfl,hr⟩
   ·rw [if_pos hp,if_pos hp]
    exact⟨rfl,hp⟩
  obtain⟨he,h0⟩:=hx
  rw [if_pos h0] at hd
  subst hd
  rw [← he]
  generalize (openV p r).2=e at *
  clear ho hpr
  repeat' (first|refine z0 ?_|refine z12 ?_|apply ag|apply ae|refine z16 ?_|apply ah|apply ai|refine z19 ?_|apply aa|(refine z23 ?_ ?_ <;> intro hg)|((fail_if_success (apply bk;exact rfl));apply bm;exact rfl;exact rfl;exact rfl;all_goals intro hg))
  all_goals try (exfalso;omega)
  refine bh (ι:=Unit) (fun _=>⟨1,[(2,.d (.slice 5 (l.map a6))),(6,.loc 0 0),(10,.d (.int .i64 e)),(11,.nils),(12,.d (.int .i64 0))],[(0,.blk 72 [.nils,.nils])]⟩) (fun _=>True) (fun _=>0) () trivial (ap (fun j=>match j with|0=>2|j=>j) ⟨rfl,rfl,rfl,rfl,rfl,trivial⟩ ⟨rfl,trivial⟩ rfl rfl rfl rfl rfl rfl) ?_
  intro _ _
  repeat' (first|refine z0 ?_|refine z12 ?_|apply ag|apply ae|refine z16 ?_|apply ah|apply ai|apply au|refine z19 ?_|apply aa|apply aq|refine z17 ?_|refine z3 ?_|(refine z23 ?_ ?_ <;> intro hg)|((fail_if_success (apply bk;exact rfl));apply bm;exact rfl;exact rfl;exact rfl;all_goals intro hg))
  all_goals try (exfalso;omega)
  all_goals try (exfalso;first|(exact absurd (by assumption) h0)|(revert h0;simp_all;done))
  all_goals
   refine bg (bu 0 0 5 rfl rfl rfl) ?_
   refine bg (bu 0 1 5 rfl rfl rfl) ?_
   refine bg (df 7 2 rfl) ?_
   repeat' (first|apply aj|apply av)
   exact⟨.inl rfl,_,rfl,rfl,rfl⟩

end Go.Proofs.YtapciiffpnociadGreat
namespace Go.Proofs.YtapciiffpnociadGreat
open Go Go.RowKit
theorem FnP.args {dr:Bool} {P:Program} {τ:List (Nat × TI)} {τok:d7 P τ} {f:FuncId} {args args':List SV} {R:SV→Prop} (hc:FnP dr P τ τok f args R) (h:∀ X e w vs,RelL X e w args' vs→RelL X e w args vs):FnP dr P τ τok f args' R :=
 ⟨hc.1,fun O e w vs hH hr=>hc.2 O e w vs hH (h _ _ _ _ hr)⟩
theorem nil_rel {X e w} {es:Nat} {v:Value} (h:Rel X e w .nils v):Rel X e w (.d (.slice es [])) v:=by
 rw [show v = .slice none 0 0 from h]
 exact .nil
theorem agg2_rel {X e w} {p q:Nat} {v:Value} (h:Rel X e w (.agg [.nils,.nils]) v):Rel X e w (.agg [.d (.slice p []),.d (.slice q [])]) v:=by
 obtain⟨us,hv,hr⟩:=h
 match us,hr with
 | [a,b],⟨h1,h2,_⟩=>exact⟨[a,b],hv,nil_rel h1,nil_rel h2,trivial⟩
 | [],h=>exact h.elim
 | [_],⟨_,h⟩=>exact h.elim
 | _::_::_::_,⟨_,_,h⟩=>exact h.elim
attribute [local irreducible] DW DS DL DQ Ev FnOk FnP ej cd DT
theorem openV_good {p:Prg} {r:Rpl} (hp:dh dw p=0) (hg:RpGood r):openV p r=((mdl p (dp p r)).2,(mdl p (dp p r)).1):=by
 unfold openV
 rw [if_neg (by simpa using hp),if_neg (by simpa using hg.check)]

theorem apart_snoc {A:List Upd} {u:Upd} (h:ApartU A) (hu:hasU A u.id=false):ApartU (A++[u]) :=
 List.pairwise_append.2 ⟨h,List.pairwise_singleton _ _,fun a ha b hb he=>by
  rw [List.mem_singleton] at hb
  subst hb
  rw [← Bool.not_eq_true,hasU_iff] at hu
  exact hu ⟨a,ha,he⟩⟩
theorem nodupD_len:∀ {B A:List Upd},B.Nodup→(∀ u∈B,u∈A)→B.length≤A.length
 | [],_,_,_=>Nat.zero_le _
 | x::B,A,hn,hs=>by
  obtain⟨h1,h2⟩:=List.nodup_cons.1 hn
  obtain⟨p,q,rfl⟩:=List.append_of_mem (hs x (List.mem_cons_self ..))
  have h3:=nodupD_len (A:=p++q) h2 fun u hu=>by
   rcases List.mem_append.1 (hs u (List.mem_cons_of_mem _ hu)) with h|h
   ·exact List.mem_append_left _ h
   ·rcases List.mem_cons.1 h with rfl|h
    ·exact absurd hu h1
    ·exact List.mem_append_right _ h
  simp only [List.length_append,List.length_cons] at h3 ⊢
  omega
structure OthOk (A B:List Upd):Prop where
 apart:ApartU B
 sub:∀ u∈B,u∈A
theorem OthOk.put {A B:List Upd} (h:OthOk A B) {u:Upd} (hu:u∈A) (hn:hasU B u.id=false):OthOk A (B++[u]) :=
 ⟨apart_snoc h.apart hn,fun v hv=>by
  rcases List.mem_append.1 hv with hv|hv
  ·exact h.sub v hv
  ·rw [List.mem_singleton] at hv;rw [hv];exact hu⟩
theorem ApartU.nodup {A:List Upd} (h:ApartU A):A.Nodup:=h.imp fun h he=>h (by rw [he])
theorem ApartU.uniq:∀ {A:List Upd},ApartU A→∀ {u v:Upd},u∈A→v∈A→u.id=v.id→u=v
 | [],_,_,_,h,_,_=>by simp at h
 | x::l,hs,u,v,hu,hv,he=>by
  obtain⟨h1,h2⟩:=List.pairwise_cons.1 hs
  rcases List.mem_cons.1 hu with hu'|hu2 <;> rcases List.mem_cons.1 hv with hv'|hv2
  ·rw [hu',hv']
  ·exact absurd (by rw [← hu',he]) (h1 v hv2)
  ·exact absurd (by rw [← hv',he]) (h1 u hu2)
  ·exact ApartU.uniq h2 hu2 hv2 he
theorem OthOk.len {A B:List Upd} (h:OthOk A B):B.length≤A.length :=
 nodupD_len h.apart.nodup h.sub
theorem OthOk.all {A B:List Upd} (h:OthOk A B) (hA:ApartU A) (ha:∀ u∈A,hasU B u.id=true):(∀ u,u∈B↔u∈A)∧B.length=A.length:=by
 have hm:∀ u,u∈B↔u∈A:=fun u=>⟨h.sub u,fun hu=>by
  obtain⟨v,hv,he⟩:=hasU_iff.1 (ha u hu)
  rw [← hA.uniq (h.sub v hv) hu he]
  exact hv⟩
 exact⟨hm,((List.perm_ext_iff_of_nodup h.apart.nodup hA.nodup).2 hm).length_eq⟩
theorem RplOk.both_iff {A:List Upd} {r:Rpl} (h:RplOk A r) (u:Upd):u∈r.both↔u∈A:=List.mem_append.trans (h.all u).symm
theorem stepV_both {p:Prg} {r:Rpl} {m:List Fct} {u:Upd} (hg:RpGood r) (h0:(mdl p (dp p r)).1=0) (hs:(stepV p r m u).2.2.2=0) :
  RpGood (stepV p r m u).1∧(mdl p (dp p (stepV p r m u).1)).1=0∧((hasU r.both u.id=true∧(stepV p r m u).1=r)∨(hasU r.both u.id=false∧∀ v,v∈(stepV p r m u).1.both↔v=u∨v∈r.both)):=by
 unfold stepV at hs ⊢
 by_cases h1:d8 u=0
 ·rw [if_neg (by simpa using h1)] at hs ⊢
  by_cases h2:hasU r.both u.id=true
  ·rw [if_pos h2]
   exact⟨hg,h0,.inl ⟨h2,rfl⟩⟩
  ·rw [if_neg h2] at hs ⊢
   have hno:hasU r.both u.id=false:=by simpa using h2
   by_cases h3:200≤r.both.length
   ·rw [if_pos h3] at hs
    cases hs
   ·rw [if_neg h3] at hs ⊢
    obtain⟨_,r2,hr2⟩:=hg.ok.add hno
    have hb:r.both.length=r.has.length + r.waits.length:=List.length_append
    rw [putR_is hr2] at hs ⊢
    have hgp:=hg.put h1 hno (by omega) hr2
    by_cases h4:(mdl p (dp p r2)).1=0
    ·rw [if_neg (by simpa using h4)]
     exact⟨hgp,h4,.inr ⟨hno,fun v=>(hr2.both_iff v).trans List.mem_cons⟩⟩
    ·rw [if_pos h4] at hs
     exact absurd hs h4
 ·rw [if_pos h1] at hs
  exact absurd hs h1
theorem runV_both {p:Prg}:∀ {l:List Upd} {r:Rpl} {m:List Fct} {acc:List Chg},ApartU l→(∀ u∈l,hasU r.both u.id=false)→RpGood r→(mdl p (dp p r)).1=0→(runV p l r m acc).2.2.2=0 →
  RpGood (runV p l r m acc).1∧(mdl p (dp p (runV p l r m acc).1)).1=0∧∀ v,v∈(runV p l r m acc).1.both↔v∈l∨v∈r.both
 | [],r,m,acc,_,_,hg,h0,_=>⟨hg,h0,fun v=>by rw [runV];simp⟩
 | u::l,r,m,acc,ha,hn,hg,h0,hs=>by
  rw [runV] at hs ⊢
  by_cases h1:(stepV p r m u).2.2.2=0
  ·rw [if_neg (by simpa using h1)] at hs ⊢
   obtain⟨q1,q2,q3⟩:=stepV_both hg h0 h1
   have hu:=hn u (List.mem_cons_self ..)
   have q3:∀ v,v∈(stepV p r m u).1.both↔v=u∨v∈r.both:=by
    rcases q3 with ⟨h,_⟩|⟨_,h⟩
    ·rw [hu] at h;cases h
    ·exact h
   obtain⟨a1,a2⟩:=List.pairwise_cons.1 ha
   obtain⟨k1,k2,k3⟩:=runV_both (m:=(stepV p r m u).2.1) (acc:=acc++[(stepV p r m u).2.2.1]) a2 (fun v hv=>by
    rw [← Bool.not_eq_true,hasU_iff]
    rintro⟨x,hx,he⟩
    rcases (q3 x).1 hx with rfl|hx
    ·exact a1 v hv he
    ·have:=hn v (List.mem_cons_of_mem _ hv)
     rw [hasU_iff.2 ⟨x,hx,he⟩] at this
     cases this) q1 q2 hs
   refine⟨k1,k2,fun v=>(k3 v).trans ?_⟩
   rw [q3,List.mem_cons]
   constructor
   ·rintro (h|h|h)
    ·exact .inl (.inr h)
    ·exact .inl (.inl h)
    ·exact .inr h
   ·rintro ((h|h)|h)
    ·exact .inr (.inl h)
    ·exact .inl h
    ·exact .inr (.inr h)
  ·rw [if_pos h1] at hs
   exact absurd hs h1
theorem openV_ok {p:Prg} {r:Rpl} (h:(openV p r).2=0):dh dw p=0∧eo r=0∧(mdl p (dp p r)).1=0:=by
 unfold openV at h
 by_cases hp:dh dw p=0
 ·rw [if_neg (by simpa using hp)] at h
  by_cases hr:eo r=0
  ·rw [if_neg (by simpa using hr)] at h
   exact⟨hp,hr,h⟩
  ·rw [if_pos hr] at h
   exact absurd h hr
 ·rw [if_pos hp] at h
  exact absurd h hp
theorem deliv_all {p:Prg} {l:List Upd} (ha:ApartU l) (h:(delivV p rplO l).2.2=0):RpGood (delivV p rplO l).1∧(openV p (delivV p rplO l).1).2=0∧∀ v,v∈(delivV p rplO l).1.both↔v∈l:=by
 unfold delivV at h ⊢
 by_cases h1:(openV p rplO).2=0
 ·rw [if_neg (by simpa using h1)] at h ⊢
  obtain⟨hp,hr,hm⟩:=openV_ok h1
  by_cases h2:200 < l.length
  ·rw [if_pos h2] at h;cases h
  ·rw [if_neg h2] at h ⊢
   by_cases h3:(runV p l rplO (openV p rplO).1 []).2.2.2=0
   ·rw [if_neg (by simpa using h3)]
    obtain⟨k1,k2,k3⟩:=runV_both ha (fun u _=>rfl) (RpGood.of hr) hm h3
    refine⟨k1,?_,fun v=>(k3 v).trans ?_⟩
    ·rw [openV_good hp k1];exact k2
    ·show v∈l∨v∈([]:List Upd)↔_
     simp
   ·rw [if_pos h3] at h
    exact absurd h h3
 ·rw [if_pos h1] at h
  exact absurd h h1
theorem deliv_any {p:Prg} {l k:List Upd} (hl:ApartU l) (hk:ApartU k) (hm:∀ v,v∈k↔v∈l) (h:(delivV p rplO l).2.2=0) (g:(delivV p rplO k).2.2=0):(delivV p rplO l).1=(delivV p rplO k).1:=by
 obtain⟨a1,_,a3⟩:=deliv_all hl h
 obtain⟨b1,_,b3⟩:=deliv_all hk g
 exact a1.ok.unique (b1.ok.congr fun u=>by rw [b3,a3,hm])
theorem apart_rev {l:List Upd} (h:ApartU l):ApartU l.reverse:=by
 unfold ApartU at *
 rw [List.pairwise_reverse]
 exact h.imp fun h e=>h e.symm
theorem small_modelS {l M:List Fct} (he:mErr smallP l=0) (hs:ck l=l) (hsM:ck M=M) (hf:cr (factE smallP.arity) M=0) (hlen:M.length≤60) (i2:InvM (lvV smallP (docLv smallP) 0 l) l M)
  (key:∀ r∈smallP.rules,ey M r=true∧∀ x∈hdW M r,x∈M):ModelR smallP l 0 M:=by
 have hst:Strict M:=by
  have:=(b8 M).1
  rw [hsM] at this
  exact this
 have hfit0:Fit (lvV smallP (docLv smallP) 0 l) l M:=fit_done i2 (fun r hr=>(key r (List.mem_filter.1 hr).1).1) fun r hr=>(key r (List.mem_filter.1 hr).1).2
 have hfit1:Fit (lvV smallP (docLv smallP) 1 M) M M:=by
  have hno:∀ r∈(lvV smallP (docLv smallP) 1 M).rs,False:=by
   intro r hr'
   obtain⟨hm,hl⟩:=List.mem_filter.1 hr'
   rw [smallP_rules] at hm
   simp only [List.mem_cons,List.not_mem_nil,or_false] at hm
   rw [small_lv] at hl
   rcases hm with rfl|rfl <;> exact absurd (of_decide_eq_true hl) (by decide)
  exact fit_done (inv_first hst ⟨fun x hx=>factE_ok (firstL_all0 hf x hx),fun _ _=>Iff.rfl⟩ hlen) (fun r hr=>(hno r hr).elim) fun r hr=>(hno r hr).elim
 exact .ok M he ⟨M,⟨l,hs.symm,hfit0⟩,hfit1⟩
theorem small_errS {l:List Fct} (h:factsE smallP.arity l=0):mErr smallP l=0:=by
 unfold mErr
 rw [if_neg (by rw [show dh dw smallP=0 by kernel_rfl];simp),if_neg (by rw [small_doc];simp)]
 exact h
abbrev l45:List Fct:=[⟨0,[4,5]⟩]
abbrev m45:List Fct:=[⟨0,[4,5]⟩,⟨1,[4,5]⟩]
theorem no_way {S:List Fct} {r:Rul} (h:fromE S r.body (yesOf r.body) (e0 r.vars.toNat)=[]):ey S r=true∧hdW S r=[]:=by
 obtain⟨h1,h2⟩:=one_way h List.Pairwise.nil (by simp)
 exact⟨h1,by unfold hdW;rw [h2];unfold headsD;simp;rfl⟩
theorem model_nil:ModelR smallP [] 0 []:=by
 have he:=small_errS (l:=[]) (by kernel_rfl)
 refine small_modelS he (by kernel_rfl) (by kernel_rfl) (by kernel_rfl) (by decide) (inv_first .nil ⟨(mOk he).facts,fun _ _=>Iff.rfl⟩ (by decide)) ?_
 intro r hr
 rw [smallP_rules] at hr
 simp only [List.mem_cons,List.not_mem_nil,or_false] at hr
 rcases hr with rfl|rfl
 ·obtain⟨h1,h2⟩:=no_way (S:=[]) (r:=smallQ) (by kernel_rfl)
  exact⟨h1,fun x hx=>by rw [h2] at hx;exact hx⟩
 ·obtain⟨h1,h2⟩:=no_way (S:=[]) (r:=smallR) (by kernel_rfl)
  exact⟨h1,fun x hx=>by rw [h2] at hx;exact hx⟩
theorem model_45:ModelR smallP l45 0 m45:=by
 have he:=small_errS (l:=l45) (by kernel_rfl)
 have ho:=mOk he
 have hV:=lvV_ok ho.pr ho.fit 0 l45
 have hst0:Strict l45:=by
  have:=(b8 l45).1
  rw [show ck l45=l45 by kernel_rfl] at this
  exact this
 have i0:InvM (lvV smallP (docLv smallP) 0 l45) l45 l45:=inv_first hst0 ⟨ho.facts,fun _ _=>Iff.rfl⟩ (by decide)
 have hQ:smallQ∈(lvV smallP (docLv smallP) 0 l45).rs:=List.mem_filter.2 ⟨by rw [smallP_rules];simp,by rw [small_lv];decide⟩
 have q1:ey l45 smallQ=true∧rawW l45 smallQ=[[4,5]]:=one_way (by kernel_rfl) (List.pairwise_singleton _ _) (by simp)
 have q2:ey m45 smallQ=true∧rawW m45 smallQ=[[4,5]]:=one_way (by kernel_rfl) (List.pairwise_singleton _ _) (by simp)
 have hq:hdW l45 smallQ=[⟨1,[4,5]⟩]:=by unfold hdW;rw [q1.2];kernel_rfl
 have hq2:hdW m45 smallQ=[⟨1,[4,5]⟩]:=by unfold hdW;rw [q2.2];kernel_rfl
 have i1:=inv_put hV i0 (H:=[⟨1,[4,5]⟩]) (fun x hx=>⟨smallQ,hQ,l45,i0,by show x∈hdW l45 smallQ;rw [hq];exact hx⟩) (by decide)
 rw [show ck (l45++[⟨1,[4,5]⟩])=m45 by kernel_rfl] at i1
 refine small_modelS he (by kernel_rfl) (by kernel_rfl) (by kernel_rfl) (by decide) i1 ?_
 intro r hr
 rw [smallP_rules] at hr
 simp only [List.mem_cons,List.not_mem_nil,or_false] at hr
 rcases hr with rfl|rfl
 ·refine⟨q2.1,fun x hx=>?_⟩
  rw [hq2,List.mem_singleton] at hx
  subst hx
  simp [m45]
 ·obtain⟨h1,h2⟩:=no_way (S:=m45) (r:=smallR) (by kernel_rfl)
  exact⟨h1,fun x hx=>by rw [h2] at hx;cases hx⟩
theorem mdl_of {p:Prg} {l m:List Fct} {e:Int} (h:ModelR p l e m):mdl p l=(e,m):=by
 obtain⟨h1,h2⟩:=(mdl_is p l).unique h
 exact Prod.ext h1 h2
theorem small_prog:dh dw smallP=0:=by kernel_rfl
theorem open_first:openV smallP ⟨[firstU],[]⟩=(fullF,0):=by
 rw [openV_good small_prog (RpGood.of (by kernel_rfl)),show dp smallP ⟨[firstU],[]⟩=e6 by kernel_rfl,mdl_of small_model]
theorem open_none:openV smallP rplO=([],0):=by
 rw [openV_good small_prog (RpGood.of (by kernel_rfl)),show dp smallP rplO=[] by kernel_rfl,mdl_of model_nil]
theorem step_one:stepV smallP rplO [] secondU=(⟨[],[secondU]⟩,[],([],[]),0):=by
 unfold stepV
 rw [if_neg (by rw [show d8 secondU=0 by kernel_rfl];simp),if_neg (by rw [show hasU rplO.both secondU.id=false by kernel_rfl];simp),if_neg (by decide),putR_is (r:=rplO) rpl1_ok,show dp smallP ⟨[],[secondU]⟩=[] by kernel_rfl,mdl_of model_nil,if_neg (by simp)]
 rfl
theorem step_two:stepV smallP ⟨[],[secondU]⟩ [] firstU=(⟨[firstU,secondU],[]⟩,m45,(m45,[]),0):=by
 unfold stepV
 rw [if_neg (by rw [show d8 firstU=0 by kernel_rfl];simp),if_neg (by rw [show hasU (Rpl.both ⟨[],[secondU]⟩) firstU.id=false by kernel_rfl];simp),if_neg (by decide),putR_is (r:=⟨[],[secondU]⟩) rpl2_ok,show dp smallP ⟨[firstU,secondU],[]⟩=l45 by kernel_rfl,mdl_of model_45,if_neg (by simp)]
 rw [show ck (minusL m45 [])=m45 by kernel_rfl,show ck (minusL [] m45)=[] by kernel_rfl]
theorem deliv_two:delivV smallP rplO [secondU,firstU]=(⟨[firstU,secondU],[]⟩,[([],[]),(m45,[])],0):=by
 unfold delivV
 rw [open_none,if_neg (by simp),if_neg (by decide)]
 simp [runV,step_one,step_two]
theorem aggN_rel {X e w} {q:Nat} {a:SV} {v:Value} (h:Rel X e w (.agg [a,.nils]) v):Rel X e w (.agg [a,.d (.slice q [])]) v:=by
 obtain⟨us,hv,hr⟩:=h
 match us,hr with
 | [x,y],⟨h1,h2,_⟩=>exact⟨[x,y],hv,h1,nil_rel h2,trivial⟩
 | [],h=>exact h.elim
 | [_],⟨_,h⟩=>exact h.elim
 | _::_::_::_,⟨_,_,h⟩=>exact h.elim
set_option maxHeartbeats 8000000 in
theorem viewBegun_fn:Fn 37 [] (fun r=>r = .d (.bool true)):=by
 refine ak _ Tryz.func37 rfl rfl (by kernel_rfl) ?_
 intro O w0 E0 β0
 have h1:=lsmall_fn
 have h2:=first_fn
 have h3:=second_fn
 have h4:=lfull_fn
 have h5:=vopen_fn smallP ⟨[firstU],[]⟩ (by decide) (by decide)
 rw [open_first] at h5
 have h6:=vdeliver_fn smallP rplO [secondU,firstU] (by decide) (by decide)
 rw [deliv_two] at h6
 have h5:Fn 31 [elPrg smallP,.agg [.d (.slice 5 ([firstU].map a6)),.nils]] _:=FnP.args h5 fun _ _ _ vs h=>match vs,h with
  | _::_::_,⟨g1,g2,g3⟩=>⟨g1,aggN_rel g2,g3⟩
  | [_],⟨_,h⟩=>h.elim
  | [],h=>h.elim
 have h6:Fn 32 [elPrg smallP,.agg [.nils,.nils],.d (.slice 5 ([secondU,firstU].map a6))] _:=FnP.args h6 fun _ _ _ vs h=>match vs,h with
  | _::_::_,⟨g1,g2,g3⟩=>⟨g1,agg2_rel g2,g3⟩
  | [_],⟨_,h⟩=>h.elim
  | [],h=>h.elim
 have h7:=sameFacts_fn fullF fullF
 rw [sameF_eq] at h7
 have h8:=sameUpdates_fn [firstU,secondU] [firstU,secondU]
 rw [sameL_refl Upd.same_refl] at h8
 have h9:=fact_fn 0 [4,5]
 have h10:=fact_fn 1 [4,5]
 have h11:=sameFacts_fn m45 m45
 rw [sameF_eq] at h11
 repeat' (first|refine z0 ?_|apply ag|refine z5 ?_|refine z10 ?_|apply ae|refine z16 ?_|refine z20 ?_|apply aj|apply aa|refine z21 ?_ (hc:=by apply h1)|refine z21 ?_ (hc:=by apply h2)|refine z22 ?_ (hc:=by apply h2)|refine z21 ?_ (hc:=by apply h3)|refine z22 ?_ (hc:=by apply h3)|refine z22 ?_ (hc:=by apply h4)|refine z21 ?_ (hc:=by apply h5)|refine z21 ?_ (hc:=by apply h6)|refine z22 ?_ (hc:=by apply h7)|refine z22 ?_ (hc:=by apply h8)|refine z22 ?_ (hc:=by apply h9)|refine z22 ?_ (hc:=by apply h10)|refine z22 ?_ (hc:=by apply h11)|refine z1 ?_|refine z3 ?_|refine z4 ?_|fail)
 exact cm rfl rfl
theorem apart_cons {u:Upd} {l:List Upd} (hl:ApartU l) (h:hasU l.reverse u.id=false):ApartU (u::l):=by
 refine List.pairwise_cons.2 ⟨fun v hv he=>?_,hl⟩
 rw [hasU_iff.2 ⟨v,List.mem_reverse.2 hv,he.symm⟩] at h
 cases h
set_option maxHeartbeats 8000000 in
theorem viewAny_fn (p:Prg) (l:List Upd) (h3:l.length≤1599289640400) (wb:Fn 37 [] (fun r=>r = .d (.bool true))) :
  Fn 6 [elPrg p,.d (.slice 5 (l.map a6))] (fun res=>res = .d (.bool true)):=by
 refine ak _ Tryz.func6 rfl rfl (by kernel_rfl) ?_
 intro O w0 E0 β0
 have ll:(l.map a6).length=l.length:=List.length_map _
 repeat' (first|refine z0 ?_|apply ag|apply ae|refine z16 ?_|apply ah|apply ai|refine z19 ?_|apply aa|refine z21 ?_ (hc:=by apply wb)|refine z1 ?_|fail)
 all_goals try (exfalso;omega)
 refine bg (dv (t:=5) 82 5 rfl) ?_
 repeat' fail
 refine bh (ι:=Nat) (fun j=>⟨2,[(1,.d (.slice 5 (l.map a6))),(2,.loc 0 0),(5,.row 1),(6,.d (.int .i64 ((j:Int) - 1)))],[(0,.blk 26 [.d (.slice 1 (p.arity.map bi)),.d (.slice 1 (p.names.map encT)),.d (.slice 5 (p.rules.map eb))]),(1,.row 82 5 ((l.drop j).reverse.map a6))]⟩)
  (fun j=>j≤l.length∧ApartU (l.drop j)) (fun j=>j) l.length ⟨Nat.le_refl _,by rw [List.drop_length];exact .nil⟩ (ap id ⟨rfl,rfl,rfl,by rw [← ll];rfl,trivial⟩ ⟨rfl,by rw [List.drop_length];rfl,trivial⟩ rfl rfl rfl rfl rfl rfl) ?_
 rintro j ⟨g1,g2⟩
 dsimp only at g1 g2 ⊢
 cases j with
 | succ i =>
  have hi:i < l.length:=by omega
  obtain⟨A,hA⟩:∃ A,A=(l.drop (i + 1)).reverse:=⟨_,rfl⟩
  have lA:A.length + 1≤l.length:=by rw [hA,List.length_reverse,List.length_drop];omega
  have w3:=placeOf_fn A l[i].id (by omega)
  have hd:=hasU_idx A l[i].id
  have lB:(A.map a6).length=A.length:=List.length_map _
  rw [← hA]
  repeat' (first|refine z0 ?_|apply ag|apply ae|refine z16 ?_|apply ah|apply ai|apply au|apply aa|apply aq|refine z17 ?_|(refine z23 ?_ ?_ <;> intro hg)|fail)
  all_goals try (exfalso;omega)
  refine ds_callS 1 w3 rfl rfl (by rintro _ rfl;rfl) rfl rfl rfl rfl ?_
  rintro _ rfl
  cases hb:hasU A l[i].id with
  | true =>
   rw [hb] at hd
   have hd:=of_decide_eq_false hd
   repeat' (first|refine z0 ?_|apply ag|apply ae|refine z16 ?_|apply ai|apply aj|apply aa|apply av|apply bf|apply bn|refine z4 ?_|refine z2 ?_|(refine z23 ?_ ?_ <;> intro hg)|fail)
   all_goals try (exfalso;omega)
   all_goals exact cm rfl rfl
  | false =>
   rw [hb] at hd
   have hd:=of_decide_eq_true hd
   have hdr:l.drop i=l[i]::l.drop (i + 1):=List.drop_eq_getElem_cons hi
   repeat' (first|refine z0 ?_|apply ag|apply ae|refine z16 ?_|apply ai|apply aa|apply bf|refine z4 ?_|refine z2 ?_|(refine z23 ?_ ?_ <;> intro hg)|fail)
   all_goals try (exfalso;omega)
   exact⟨i,⟨by omega,by rw [hdr];exact apart_cons g2 (by rw [← hA];exact hb)⟩,ap (fun j=>match j with|1=>2|j=>j) ⟨rfl,rfl,rfl,congrArg (fun z:Int=>SV.d (.int .i64 z)) (by omega),trivial⟩ ⟨rfl,by rw [hdr,List.reverse_cons,← hA,List.map_append];rfl,trivial⟩ rfl rfl rfl rfl rfl rfl,by show i < i + 1;omega⟩
 | zero =>
  rw [List.drop_zero] at g2
  rw [List.drop_zero]
  have g3:=apart_rev g2
  have hm:∀ v,v∈l.reverse↔v∈l:=fun v=>List.mem_reverse
  generalize l.reverse=k at *
  repeat' ((fail_if_success (apply dw_stopS 10));(first|refine z0 ?_|apply ag|apply ae|refine z16 ?_|apply au|refine z19 ?_|apply aa|apply aq|refine z17 ?_|fail))
  all_goals try (exfalso;omega)
  refine bg (di 5 rfl rfl rfl) ?_
  have v1:=FnP.args (vdeliver_fn p rplO l (Nat.zero_le _) (Nat.zero_le _)) (args':=[elPrg p,.agg [.nils,.nils],.d (.slice 5 (l.map a6))]) fun _ _ _ vs h=>match vs,h with
   | _::_::_,⟨g1,g2,g3⟩=>⟨g1,agg2_rel g2,g3⟩
   | [_],⟨_,h⟩=>h.elim
   | [],h=>h.elim
  have v2:=FnP.args (vdeliver_fn p rplO k (Nat.zero_le _) (Nat.zero_le _)) (args':=[elPrg p,.agg [.nils,.nils],.d (.slice 5 (k.map a6))]) fun _ _ _ vs h=>match vs,h with
   | _::_::_,⟨g1,g2,g3⟩=>⟨g1,agg2_rel g2,g3⟩
   | [_],⟨_,h⟩=>h.elim
   | [],h=>h.elim
  have q1:=deliv_all (p:=p) g2
  have q2:=deliv_any (p:=p) g2 g3 hm
  generalize delivV p rplO l=x at *
  generalize delivV p rplO k=y at *
  by_cases hx:x.2.2=0
  ·by_cases hy:y.2.2=0
   ·have q2:=q2 hx hy
    obtain⟨q3,q4,_⟩:=q1 hx
    rw [← q2] at v2
    have hlen:=q3.len
    have v3:=vopen_fn p x.1 (by omega) (by omega)
    rw [q4] at v3
    have v4:=sameReplica_fn x.1 x.1
    rw [sameL_refl Upd.same_refl,sameL_refl Upd.same_refl] at v4
    generalize (openV p x.1).1=s at *
    have v5:=sameFacts_fn s s
    rw [sameL_refl (fun x=>(fsame_iff x x).2 rfl) s] at v5
    rw [hx] at v1
    rw [hy] at v2
    clear hm q1 q2 q3
    repeat' (first|refine z0 ?_|apply ag|apply ae|refine z16 ?_|apply ai|apply aj|refine z19 ?_|apply aa|refine z21 ?_ (hc:=by apply v1)|refine z21 ?_ (hc:=by apply v2)|refine z21 ?_ (hc:=by apply v3)|refine z21 ?_ (hc:=by apply v4)|refine z21 ?_ (hc:=by apply v5)|refine z1 ?_|refine z3 ?_|fail)
    all_goals try (exfalso;omega)
    all_goals exact cm rfl rfl
   ·repeat' (first|refine z0 ?_|refine z12 ?_|apply ag|apply ae|refine z16 ?_|apply ai|apply aj|refine z18 ?_|apply aa|apply av|refine z21 ?_ (hc:=by apply v1)|refine z21 ?_ (hc:=by apply v2)|refine z1 ?_|refine z3 ?_|(refine z23 ?_ ?_ <;> intro hg)|((fail_if_success (apply bk;exact rfl));apply bm;exact rfl;exact rfl;exact rfl;all_goals intro hg))
    all_goals try (exfalso;omega)
    all_goals exact cm rfl rfl
  ·repeat' (first|refine z0 ?_|refine z12 ?_|apply ag|apply ae|refine z16 ?_|apply ai|apply aj|refine z18 ?_|apply aa|apply av|refine z21 ?_ (hc:=by apply v1)|refine z21 ?_ (hc:=by apply v2)|refine z1 ?_|refine z3 ?_|(refine z23 ?_ ?_ <;> intro hg)|((fail_if_success (apply bk;exact rfl));apply bm;exact rfl;exact rfl;exact rfl;all_goals intro hg))
   all_goals try (exfalso;omega)
   all_goals exact cm rfl rfl
theorem plistOf {α:Type} {e:RT} {enc:α→List D} (h:∀ x,TyD e x→∃ t,x=enc t):∀ (l:List (List D)),(∀ x∈l,TyD e x)→∃ ts:List α,l=ts.map enc
 | [],_=>⟨[],rfl⟩
 | x::l,hl=>by
  obtain⟨t,rfl⟩:=h x (hl x (List.mem_cons_self ..))
  obtain⟨ts,rfl⟩:=plistOf h l fun y hy=>hl y (List.mem_cons_of_mem _ hy)
  exact⟨t::ts,rfl⟩
theorem psliceOf {α:Type} {c b:Nat} {e:RT} {enc:α→List D} (h:∀ x,TyD e x→∃ t,x=enc t) (x:List D) (hx:TyD (.slice c b e) x):∃ ts:List α,x=[.slice c (ts.map enc)]:=by
 obtain⟨l,_,_,rfl,h3⟩:=hx
 obtain⟨ts,rfl⟩:=plistOf h l h3
 exact⟨ts,rfl⟩
abbrev rtTrm:RT:=.struct [.int .i64,.int .i64]
abbrev rtLtl:RT:=.struct [.int .i64,.int .i64,.int .i64,.slice 2 16 rtTrm]
abbrev rtRul:RT:=.struct [.int .i64,.slice 2 16 rtTrm,.int .i64,.slice 4 48 rtLtl,.int .i64]
abbrev rtPrg:RT:=.struct [.slice 1 8 (.int .i64),.slice 1 16 .str,.slice 5 72 rtRul]
theorem pint_of (x:List D) (h:TyD (.int .i64) x):∃ n:Int,x=bi n:=by
 obtain⟨n,_,rfl⟩:=h
 exact⟨n,rfl⟩
theorem pstr_of (x:List D) (h:TyD .str x):∃ n:ByteArray,x=encT n:=by
 obtain⟨n,_,rfl⟩:=h
 exact⟨n,rfl⟩
theorem trm_of (x:List D) (h:TyD rtTrm x):∃ t:Trm,x=br t:=by
 obtain⟨a,b,rfl,⟨k,_,rfl⟩,c,d,rfl,⟨p,_,rfl⟩,rfl⟩:=h
 exact⟨⟨k,p⟩,rfl⟩
theorem ltl_of (x:List D) (h:TyD rtLtl x):∃ t:Ltl,x=bp t:=by
 obtain⟨a,b,rfl,⟨k,_,rfl⟩,c,d,rfl,⟨p,_,rfl⟩,e,f,rfl,⟨q,_,rfl⟩,g,i,rfl,h4,rfl⟩:=h
 obtain⟨l,rfl⟩:=psliceOf trm_of g h4
 exact⟨⟨k,p,q,l⟩,rfl⟩
theorem rul_of (x:List D) (h:TyD rtRul x):∃ t:Rul,x=eb t:=by
 obtain⟨a,b,rfl,⟨k,_,rfl⟩,c,d,rfl,h2,e,f,rfl,⟨q,_,rfl⟩,g,i,rfl,h4,j,m,rfl,⟨v,_,rfl⟩,rfl⟩:=h
 obtain⟨l,rfl⟩:=psliceOf trm_of c h2
 obtain⟨n,rfl⟩:=psliceOf ltl_of g h4
 exact⟨⟨k,l,q,n,v⟩,rfl⟩
theorem prg_arg (x:List D) (h:TyD rtPrg x):∃ p:Prg,RT.arg rtPrg x=elPrg p:=by
 obtain⟨c,d,rfl,h2,e,f,rfl,h3,g,h,rfl,h4,rfl⟩:=h
 obtain⟨l,rfl⟩:=psliceOf pint_of c h2
 obtain⟨m,rfl⟩:=psliceOf pstr_of e h3
 obtain⟨n,rfl⟩:=psliceOf rul_of g h4
 exact⟨⟨l,m,n⟩,rfl⟩
theorem listOf {α:Type} {e:RT} {enc:α→List D} (h:∀ x,TyD e x→∃ t,x=enc t):∀ (l:List (List D)),(∀ x∈l,TyD e x)→∃ ts:List α,l=ts.map enc
 | [],_=>⟨[],rfl⟩
 | x::l,hl=>by
  obtain⟨t,rfl⟩:=h x (hl x (List.mem_cons_self ..))
  obtain⟨ts,rfl⟩:=listOf h l fun y hy=>hl y (List.mem_cons_of_mem _ hy)
  exact⟨t::ts,rfl⟩
theorem sliceOf {α:Type} {c b:Nat} {e:RT} {enc:α→List D} (h:∀ x,TyD e x→∃ t,x=enc t) (x:List D) (hx:TyD (.slice c b e) x):∃ ts:List α,x=[.slice c (ts.map enc)]:=by
 obtain⟨l,_,_,rfl,h3⟩:=hx
 obtain⟨ts,rfl⟩:=listOf h l h3
 exact⟨ts,rfl⟩
abbrev rtId:RT:=.struct [.int .i64,.int .i64]
abbrev rtFctW:RT:=.struct [.int .i64,.slice 1 8 (.int .i64)]
abbrev rtUpd:RT:=.struct [rtId,.slice 2 16 rtId,.slice 2 32 rtFctW,.slice 2 16 rtId]
theorem int_of (x:List D) (h:TyD (.int .i64) x):∃ n:Int,x=bi n:=by
 obtain⟨n,_,rfl⟩:=h
 exact⟨n,rfl⟩
theorem id_of (x:List D) (h:TyD rtId x):∃ t:UId,x=dj t:=by
 obtain⟨a,b,rfl,⟨k,_,rfl⟩,c,d,rfl,⟨p,_,rfl⟩,rfl⟩:=h
 exact⟨⟨k,p⟩,rfl⟩
theorem fctW_of (x:List D) (h:TyD rtFctW x):∃ t:Fct,x=ba t:=by
 obtain⟨a,b,rfl,⟨k,_,rfl⟩,c,d,rfl,h2,rfl⟩:=h
 obtain⟨l,rfl⟩:=sliceOf int_of c h2
 exact⟨⟨k,l⟩,rfl⟩
theorem upd_of (x:List D) (h:TyD rtUpd x):∃ u:Upd,x=a6 u:=by
 obtain⟨a,b,rfl,h1,c,d,rfl,h2,e,f,rfl,h3,g,h,rfl,h4,rfl⟩:=h
 obtain⟨i,rfl⟩:=id_of a h1
 obtain⟨l,rfl⟩:=sliceOf id_of c h2
 obtain⟨m,rfl⟩:=sliceOf fctW_of e h3
 obtain⟨n,rfl⟩:=sliceOf id_of g h4
 exact⟨⟨i,l,m,n⟩,rfl⟩
abbrev rtUpds:RT:=.slice 5 88 rtUpd
theorem sliceOfB {R:Nat} {α:Type} {c b:Nat} {e:RT} {enc:α→List D} (h:∀ x,TyDR R e x→∃ t,x=enc t) (x:List D) (hx:TyDR R (.slice c b e) x):∃ ts:List α,x=[.slice c (ts.map enc)]∧ts.length * b≤R:=by
 obtain⟨l,h1,_,rfl,h3⟩:=hx
 have key:∀ l:List (List D),(∀ x∈l,TyDR R e x)→∃ ts:List α,l=ts.map enc:=by
  intro l
  induction l with
  | nil=>exact fun _=>⟨[],rfl⟩
  | cons x l ih =>
   intro hl
   obtain⟨t,rfl⟩:=h x (hl x (List.mem_cons_self ..))
   obtain⟨ts,rfl⟩:=ih fun y hy=>hl y (List.mem_cons_of_mem _ hy)
   exact⟨t::ts,rfl⟩
 obtain⟨ts,rfl⟩:=key l h3
 exact⟨ts,rfl,by rw [← List.length_map (f:=enc)];exact h1⟩
end Go.Proofs.YtapciiffpnociadGreat
