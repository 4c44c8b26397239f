/- Several texts in one: TrePo GxArg ShwH ShwM GxRow GxLaw TokIn TreIn GxTie. Condition: none. -/
import Derived.Test.YtapciiffpnociabGreatDoorS14
import Derived.Test.YtapciiffpnociabGreatDoorS13
import Derived.Test.YtapciiffpnociabGreatDoorS09
import Derived.Test.YtapciiffpnociabGreatDoorS02
import Derived.Test.YtapciiffpnociabGreatDoorS12
import Derived.Test.YtapciiffpnociabGreatDoorS10
import Derived.Test.YtapciiffpnociabGreatDoorS08
import Derived.ProofKit
import Derived.SizedLaws
import Derived.Carry
import Derived.ChangeSame
import Derived.JoinedCond
import Derived.Deep.DeepWitnessRowRef
import Derived.LaidMore
import Derived.MakeChecks
import Derived.Lib.LaidTab
import Derived.Lib.ItoaNum
namespace Go.Proofs.YtapciiffpnociabGreatDoor
open Go Go.RowKit
theorem terms_fold {l:List Tok} {i j:Nat} {head:Bool} {x:List TTm × Int} (h:termsT l i head = .ok (x,j)):0≤x.2:=by
 have f0:∀ k,0≤foldT l head k 0:=fun k=>by
  cases head with
  | false=>exact Int.le_refl _
  | true=>rw [foldS_is];exact (foldS_low _ _).1
 have go:∀ (n i:Nat) (acc:List TTm) {x:List TTm × Int} {j:Nat},termsGo l head n i acc = .ok (x,j)→0≤x.2:=by
  intro n
  induction n with
  | zero=>intro i acc x j h;cases h
  | succ n ih =>
   intro i acc x j h
   rw [termsGo_succ] at h
   split at h
   ·cases h
   ·split at h
    ·split at h
     ·injection h with h;injection h with h _;rw [← h];exact f0 i
     ·cases h
    ·exact ih _ _ h
 unfold termsT at h
 split at h
 ·split at h
  ·injection h with h;injection h with h _;rw [← h];exact Int.le_refl _
  ·exact go _ _ _ h
 ·cases h
theorem litT_err {l:List Tok} {e:Int} {i k:Nat} (hi:i≤l.length) (h:litT l e i = .error k):k≤l.length:=by
 unfold litT at h
 split at h
 ·rename_i hn
  have:=seesT_lt hn
  split at h
  ·rename_i k' h1;injection h with h;subst h;exact nameT_err (by omega) h1
  ·rename_i s k' h1
   have:=(nameT_lt h1).2
   split at h
   ·rename_i m h2;injection h with h;subst h;exact termsT_err this h2
   ·cases h
 ·split at h
  ·split at h
   ·rename_i k' h1
    injection h with h;subst h
    unfold testT at h1
    split at h1
    ·rename_i q h2;injection h1 with h1;subst h1;exact termT_err hi h2
    ·rename_i a q h2
     have hq:=(termT_lt h2).2
     split at h1
     ·injection h1 with h1;omega
     ·rename_i hz
      have hql:q < l.length:=by
       refine Classical.byContradiction fun hn=>hz ?_
       have:textT l q false=⟨#[]⟩:=by unfold textT;rw [List.getElem?_eq_none (by omega)]
       rw [foldO_is,this,foldO_none]
      split at h1
      ·rename_i m h3;injection h1 with h1;subst h1;exact termT_err hql h3
      ·rename_i b m h3
       have hm:=(termT_lt h3).2
       split at h1
       ·cases h1
       ·split at h1
        ·rename_i h5
         have:=seesT_lt h5
         split at h1
         ·rename_i r h4;injection h1 with h1;subst h1;exact termT_err this h4
         ·cases h1
        ·injection h1 with h1;omega
   ·cases h
  ·split at h
   ·rename_i k' h1;injection h with h;subst h;exact nameT_err hi h1
   ·rename_i s k' h1
    have:=(nameT_lt h1).2
    split at h
    ·rename_i m h2;injection h with h;subst h;exact termsT_err this h2
    ·cases h
theorem lit_le {l:List Tok} {e:Int} {i k:Nat} {t:TLt} {f g:Bool} (hi:i≤l.length) (h:rdIs (rdP f i (litT l e i)) t k g):k≤l.length:=rdIs_lt hi (fun _ _ h=>(litT_lt h).2) (fun _ h=>litT_err hi h) h
theorem rule_dot {l:List Tok} {e:Int} {i k m:Nat} {s:ByteArray} {x:List TTm × Int} {g g2:Bool} (h1:rdIs (rdP false i (nameT l i)) s k g) (h2:rdIs (rdP g k (termsT l k true)) x m g2) (hx:x.2=0) (hd:textT l m g2=⟨#[46]⟩) {m5:Nat} {g5:Bool}
  (h5:rdIs (rdP g2 m (if seesT l m ⟨#[46]⟩=true then .ok ((),m + 1) else .error m)) () m5 g5):rdIs (ruleT l e i) (⟨hereT l e i,s,x.1,x.2,[]⟩:TRu) m5 g5:=by
 obtain⟨rfl,hs⟩:=(text_is (by decide)).1 hd
 cases g with
 | true=>exact absurd (rdIs_true h2).1 (by decide)
 | false =>
  obtain⟨ts,f⟩:=x
  have hx:f=0:=hx
  subst hx
  unfold ruleT
  rw [show nameT l i = .ok (s,k) from h1]
  dsimp only
  rw [show termsT l k true = .ok ((ts,0),m) from h2]
  dsimp only
  have h5:rdIs (if seesT l m ⟨#[46]⟩=true then .ok ((),m + 1) else .error m:PR Unit) () m5 g5:=h5
  rw [if_pos hs] at h5
  rw [if_pos ⟨rfl,hs⟩]
  cases g5 with
  | true=>cases h5
  | false =>
   injection (show Except.ok ((),m + 1)=Except.ok ((),m5) from h5) with h
   injection h with _ h
   subst h
   rfl
theorem rule_body {l:List Tok} {e:Int} {i k m m3 m4 m5:Nat} {s:ByteArray} {x:List TTm × Int} {b:List TLt} {g g2 g3 g4 g5:Bool} (h1:rdIs (rdP false i (nameT l i)) s k g) (h2:rdIs (rdP g k (termsT l k true)) x m g2) (hx:¬ (¬ 0 < x.2∧textT l m g2=⟨#[46]⟩))
  (h3:rdIs (rdP g2 m (if seesT l m ⟨#[58,45]⟩=true then .ok ((),m + 1) else .error m)) () m3 g3) (h4:rdIs (rdP g3 m3 (litsGo l e (l.length + 1) m3 [])) b m4 g4)
  (h5:rdIs (rdP g4 m4 (if seesT l m4 ⟨#[46]⟩=true then .ok ((),m4 + 1) else .error m4)) () m5 g5):rdIs (ruleT l e i) (⟨hereT l e i,s,x.1,x.2,b⟩:TRu) m5 g5:=by
 obtain⟨ts,f⟩:=x
 unfold ruleT
 cases g with
 | true =>
  obtain⟨rfl,rfl⟩:=rdIs_true h2
  obtain⟨rfl,rfl⟩:=rdIs_true h3
  obtain⟨rfl,rfl⟩:=rdIs_true h4
  obtain⟨rfl,rfl⟩:=rdIs_true h5
  rw [show nameT l i = .error m5 from h1]
  rfl
 | false =>
  rw [show nameT l i = .ok (s,k) from h1]
  dsimp only
  cases g2 with
  | true =>
   obtain⟨rfl,rfl⟩:=rdIs_true h3
   obtain⟨rfl,rfl⟩:=rdIs_true h4
   obtain⟨rfl,rfl⟩:=rdIs_true h5
   rw [show termsT l k true = .error m5 from h2]
   rfl
  | false =>
   have hf:=terms_fold (show termsT l k true = .ok ((ts,f),m) from h2)
   rw [show termsT l k true = .ok ((ts,f),m) from h2]
   dsimp only at hf hx ⊢
   rw [if_neg (show ¬(f=0∧seesT l m ⟨#[46]⟩=true) from fun h=>hx ⟨by omega,(text_is (by decide)).2 ⟨rfl,h.2⟩⟩)]
   have h3:rdIs (if seesT l m ⟨#[58,45]⟩=true then .ok ((),m + 1) else .error m:PR Unit) () m3 g3:=h3
   by_cases hs:seesT l m ⟨#[58,45]⟩=true
   ·rw [if_pos hs] at h3
    rw [if_pos hs]
    cases g3 with
    | true=>cases h3
    | false =>
     injection (show Except.ok ((),m + 1)=Except.ok ((),m3) from h3) with h
     injection h with _ h
     subst h
     cases g4 with
     | true =>
      obtain⟨rfl,rfl⟩:=rdIs_true h5
      rw [show litsGo l e (l.length + 1) (m + 1) [] = .error m5 from h4]
      rfl
     | false =>
      rw [show litsGo l e (l.length + 1) (m + 1) [] = .ok (b,m4) from h4]
      dsimp only
      have h5:rdIs (if seesT l m4 ⟨#[46]⟩=true then .ok ((),m4 + 1) else .error m4:PR Unit) () m5 g5:=h5
      by_cases hp:seesT l m4 ⟨#[46]⟩=true
      ·rw [if_pos hp] at h5
       rw [if_pos hp]
       cases g5 with
       | true=>cases h5
       | false =>
        injection (show Except.ok ((),m4 + 1)=Except.ok ((),m5) from h5) with h
        injection h with _ h
        subst h
        rfl
      ·rw [if_neg hp] at h5
       rw [if_neg hp]
       cases g5 with
       | false=>cases h5
       | true =>
        injection (show Except.error m4=Except.error m5 from h5) with h
        subst h
        rfl
   ·rw [if_neg hs] at h3
    rw [if_neg hs]
    cases g3 with
    | false=>cases h3
    | true =>
     injection (show Except.error m=Except.error m3 from h3) with h
     subst h
     obtain⟨rfl,rfl⟩:=rdIs_true h4
     obtain⟨rfl,rfl⟩:=rdIs_true h5
     rfl
def lsInv (l:List Tok) (e:Int) (p:PR (List TLt)) (m:Nat) (b:List TLt) (more fl:Bool) (n:Nat):Prop:=m≤l.length∧match fl,more with
 | true,_=>p = .error m
 | false,true=>p=litsGo l e n m b∧l.length < n + m∧b.length≤m
 | false,false=>p = .ok (b,m)
def rsInv (l:List Tok) (e:Int) (j:Nat) (acc:List TRu) (fl:Bool) (n:Nat):Prop:=j≤l.length∧match fl with
 | true=>rulesGo l e (l.length + 1) 0 [] = .error j
 | false=>rulesGo l e (l.length + 1) 0 []=rulesGo l e n j acc∧l.length < n + j∧acc.length≤j
def rsM:Bool→Nat→Nat
 | true,_=>0
 | false,n=>n + 1
attribute [local irreducible] DW DS DL DQ Ev FnOk FnP FnOkE thenD inBlockD
abbrev ruB (at_:Int) (s:ByteArray) (ts:List TTm) (f:Int) (body:SV):HB:=.blk 47 [.d (.int .i64 at_),.d (.str s),.d (.slice 2 (ts.map encTTm)),.d (.int .i64 f),body]
set_option maxHeartbeats 8000000 in
theorem parseOf_fn (s:ByteArray):Fn 13 [.d (.str s)] (fun r=>r=encParse (parseS s)):=by
 refine fnp_enter' _ Tryz.func13 rfl rfl (by kernel_rfl) ?_
 intro O w0 E0 β0
 have w1:=scanOf_fn s
 unfold encScan at w1
 obtain⟨⟨l,p,er⟩,hq⟩:∃ q,q=scanS s:=⟨_,rfl⟩
 unfold parseS
 rw [← hq] at w1 ⊢
 dsimp only at w1 ⊢
 unfold encParse
 by_cases he:er=0
 ·subst he
  obtain⟨hc,hs,hp⟩:=scanS_chain s l p hq.symm
  have hok:=scanS_all hq.symm
  have hlen:=chain_lenT l 0 hc (Nat.zero_le _)
  obtain⟨e,hee⟩:∃ e:Int,e=s.size:=⟨_,rfl⟩
  rw [if_neg (by simp)]
  rw [← hee]
  repeat' (first|refine z0 ?_|apply ds_nil|apply dw_seq2|refine z16 ?_|apply dw_block|apply dw_skip|refine z19 ?_|apply thenD_n|refine z21 ?_ (hc:=by apply w1)|refine z1 ?_|refine z3 ?_|fail)
  all_goals try (exfalso;omega)
  refine dw_ent (ent_cellrow 2 0 47 5 rfl rfl rfl) ?_
  have htot:∀ j,(Lit.int .i64 (hereT l e j)).wf=true:=fun j=>by
   have hat:=chain_atT l 0 hc
   unfold hereT
   by_cases hj:j < l.length
   ·rw [List.getElem?_eq_getElem hj]
    have:=hat _ (List.getElem_mem hj)
    exact i64_wf (by dsimp only;omega) (by dsimp only;omega)
   ·rw [List.getElem?_eq_none (by omega)]
    exact i64_wf (by dsimp only;omega) (by dsimp only;omega)
  refine ds_loop (ι:=Nat × List TRu × Bool × Nat) (fun x=>⟨4,[(2,.loc 1 0),(3,.d (.int .i64 0)),(4,.d (.int .i64 0)),(5,.d (.slice 3 (l.map encTok))),(8,.loc 0 0),(9,.loc 2 0)],[(0,rdB l x.1 e x.2.2.1),(1,.blk 24 [.nils]),(2,.blk 24 [.row 3]),(3,.row 47 5 (x.2.1.map encTRu))]⟩)
   (fun x=>rsInv l e x.1 x.2.1 x.2.2.1 x.2.2.2) (fun x=>rsM x.2.2.1 x.2.2.2) (0,[],false,l.length + 1) ⟨Nat.zero_le _,rfl,Nat.lt_succ_self _,Nat.le_refl _⟩
   (ent_ren (fun x=>match x with|0=>1|1=>0|x=>x) ⟨rfl,rfl,rfl,rfl,rfl,rfl,trivial⟩ ⟨by rw [hee];rfl,rfl,rfl,rfl,trivial⟩ rfl rfl rfl rfl rfl rfl) ?_
  clear w1 hq hc
  rintro⟨j,acc,fl,n⟩ ⟨hj,hinv⟩
  dsimp only at hj hinv ⊢
  have ll:(l.map encTok).length=l.length:=List.length_map _
  cases fl with
  | true =>
   have hinv:rulesGo l e (l.length + 1) 0 [] = .error j:=hinv
   rw [hinv]
   dsimp only
   have w2:=rhere_fn l j e true
   repeat' (first|refine z0 ?_|refine z12 ?_|apply ds_nil|apply dw_seq2|refine z16 ?_|apply dw_exit|refine z18 ?_|refine z19 ?_|apply thenD_n|apply thenD_e|refine z17 ?_|fail)
   all_goals try (exfalso;omega)
   (refine ds_callF id (w2) rfl rfl rfl rfl ⟨rfl,trivial⟩ rfl rfl rfl rfl rfl rfl ?_ ?_)
   ·rintro k2 res H2 ⟨rfl,rfl,rfl⟩;exact⟨rfl,rfl⟩
   rintro k2 res H2 ⟨rfl,rfl,rfl⟩
   change DS _ _ _ _ _ _ _ _
   clear w2
   repeat' (first|refine z0 ?_|apply ds_nil|apply thenD_n|refine z3 ?_|fail)
   refine dw_ent (ent_cellnil 1 0 5 rfl rfl rfl) ?_
   repeat' (first|apply dw_ret|apply thenD_r)
   exact⟨.inl rfl,_,rfl,rfl,rfl⟩
  | false =>
   obtain⟨hgo,hn,ha⟩:rulesGo l e (l.length + 1) 0 []=rulesGo l e n j acc∧l.length < n + j∧acc.length≤j:=hinv
   obtain⟨n,rfl⟩:∃ m,n=m + 1:=⟨n - 1,by omega⟩
   rw [rulesGo_succ l e n j acc] at hgo
   by_cases hjl:j < l.length
   ·rw [if_pos hjl] at hgo
    have w2:=rhere_fn l j e false
    have w3:=rname_out l j e false (by omega)
    repeat' (first|refine z0 ?_|apply ds_nil|apply dw_seq2|refine z16 ?_|apply dw_block|apply dw_skip|apply dw_exit|refine z19 ?_|apply thenD_n|apply thenD_e|refine z17 ?_|(refine z23 ?_ ?_ <;> intro hg)|fail)
    all_goals try (exfalso;omega)
    (refine ds_callF id (w2) rfl rfl rfl rfl ⟨rfl,trivial⟩ rfl rfl rfl rfl rfl rfl ?_ ?_)
    ·rintro k2 res H2 ⟨rfl,rfl,rfl⟩;exact⟨rfl,rfl⟩
    rintro k2 res H2 ⟨rfl,rfl,rfl⟩
    change DS _ _ _ _ _ _ _ _
    clear w2
    repeat' (first|refine z0 ?_|apply ds_nil|apply dw_seq2|refine z16 ?_|apply thenD_n|refine z1 ?_|refine z3 ?_|fail)
    (refine ds_callF id (w3) rfl rfl rfl rfl ⟨rfl,trivial⟩ rfl rfl rfl rfl rfl rfl ?_ ?_)
    ·rintro k2 res H2 ⟨rfl,s1,k,g,rfl,rfl,_⟩;exact⟨rfl,rfl⟩
    rintro k2 res H2 ⟨rfl,s1,k,g,rfl,rfl,h1⟩
    change DS _ _ _ _ _ _ _ _
    clear w3
    have hk:=name_le hj h1
    have w4:=rterms_out l k e g true hk (by omega) hok
    repeat' (first|refine z0 ?_|apply ds_nil|apply dw_seq2|refine z16 ?_|apply thenD_n|refine z3 ?_|fail)
    (refine ds_callF id (w4) rfl rfl rfl rfl ⟨rfl,trivial⟩ rfl rfl rfl rfl rfl rfl ?_ ?_)
    ·rintro k2 res H2 ⟨rfl,x,m,g2,rfl,rfl,_⟩;exact⟨rfl,rfl⟩
    rintro k2 res H2 ⟨rfl,x,m,g2,rfl,rfl,h2⟩
    change DS _ _ _ _ _ _ _ _
    clear w4
    have hm:=terms_le hk h2
    repeat' ((fail_if_success (apply dw_stopR 10));(first|refine z0 ?_|apply ds_nil|apply thenD_n|refine z3 ?_|fail))
    refine dw_cut (ι:=List TLt × Nat × Bool) (fun y=>⟨5,[(2,.loc 1 0),(3,.d (.int .i64 0)),(4,.d (.int .i64 0)),(5,.d (.slice 3 (l.map encTok))),(8,.loc 0 0),(9,.loc 2 0),(10,.loc 4 0)],[(0,rdB l y.2.1 e y.2.2),(1,.blk 24 [.nils]),(2,.blk 24 [.row 3]),(3,.row 47 5 (acc.map encTRu)),(4,ruB (hereT l e j) s1 x.1 x.2 (.d (.slice 5 (y.1.map encTLt))))]⟩)
     (fun y=>y.2.1≤l.length∧∀ m5 g5,rdIs (rdP y.2.2 y.2.1 (if seesT l y.2.1 ⟨#[46]⟩=true then .ok ((),y.2.1 + 1) else .error y.2.1)) () m5 g5→rdIs (ruleT l e j) (⟨hereT l e j,s1,x.1,x.2,y.1⟩:TRu) m5 g5) ?_ ?_
    ·refine dw_cut (ι:=Bool) (fun b=>⟨5,[(2,.loc 1 0),(3,.d (.int .i64 0)),(4,.d (.int .i64 0)),(5,.d (.slice 3 (l.map encTok))),(8,.loc 0 0),(9,.loc 2 0),(10,.loc 4 0),(53,.d (.bool b))],[(0,rdB l m e g2),(1,.blk 24 [.nils]),(2,.blk 24 [.row 3]),(3,.row 47 5 (acc.map encTRu)),(4,ruB (hereT l e j) s1 x.1 x.2 .nils)]⟩) (fun b=>b=(decide (0 < x.2) || decide (textT l m g2≠⟨#[46]⟩))) ?_ ?_
     ·have w5:=rtext_fn l m e g2
      clear hgo h1 h2
      by_cases hx0:0 < x.2
      ·repeat' (first|refine z0 ?_|refine z12 ?_|apply ds_nil|refine z16 ?_|apply thenD_n|((fail_if_success (apply ds_known;exact rfl));apply ds_guardP;exact rfl;exact rfl;exact rfl;all_goals intro hg))
       all_goals try (exfalso;omega)
       exact⟨true,by rw [decide_eq_true hx0];rfl,ent_ren id ⟨rfl,rfl,rfl,rfl,rfl,rfl,rfl,rfl,trivial⟩ ⟨rfl,rfl,rfl,rfl,rfl,trivial⟩ rfl rfl rfl rfl rfl rfl⟩
      ·repeat' (first|refine z0 ?_|refine z12 ?_|apply ds_nil|refine z16 ?_|apply thenD_n|((fail_if_success (apply ds_known;exact rfl));apply ds_guardP;exact rfl;exact rfl;exact rfl;all_goals intro hg))
       all_goals try (exfalso;omega)
       (refine ds_callF id (w5) rfl rfl rfl rfl ⟨rfl,trivial⟩ rfl rfl rfl rfl rfl rfl ?_ ?_)
       ·rintro k2 res H2 ⟨rfl,rfl,rfl⟩;exact⟨rfl,rfl⟩
       rintro k2 res H2 ⟨rfl,rfl,rfl⟩
       change DS _ _ _ _ _ _ _ _
       clear w5
       repeat' (first|refine z0 ?_|apply ds_nil|apply thenD_n)
       exact⟨decide (textT l m g2≠⟨#[46]⟩),by rw [decide_eq_false hx0];rfl,ent_ren id ⟨rfl,rfl,rfl,rfl,rfl,rfl,rfl,rfl,trivial⟩ ⟨rfl,rfl,rfl,rfl,rfl,trivial⟩ rfl rfl rfl rfl rfl rfl⟩
     ·intro bb hbb
      dsimp only
      cases bb with
      | false =>
       have hbb:=hbb.symm
       rw [Bool.or_eq_false_iff,decide_eq_false_iff_not,decide_eq_false_iff_not,Classical.not_not] at hbb
       obtain⟨hx0,hdt⟩:=hbb
       obtain⟨rfl,hsd⟩:=(text_is (by decide)).1 hdt
       have hx2:x.2=0:=by
        cases g with
        | true=>exact absurd (rdIs_true h2).1 (by decide)
        | false=>have:=terms_fold (show termsT l k true = .ok (x,m) from h2);omega
       have hfin:∀ m5 g5,rdIs (rdP false m (if seesT l m ⟨#[46]⟩=true then .ok ((),m + 1) else .error m)) () m5 g5→rdIs (ruleT l e j) (⟨hereT l e j,s1,x.1,x.2,[]⟩:TRu) m5 g5:=fun m5 g5 h=>rule_dot h1 h2 hx2 hdt h
       clear hgo h1 h2 hdt hsd hx2
       repeat' (first|apply dw_skip|refine z19 ?_|apply thenD_n)
       exact⟨([],m,false),⟨hm,hfin⟩,ent_trans (ent_cellnil 4 4 5 rfl rfl rfl) (ent_ren id ⟨rfl,rfl,rfl,rfl,rfl,rfl,rfl,trivial⟩ ⟨rfl,rfl,rfl,rfl,rfl,trivial⟩ rfl rfl rfl rfl rfl rfl)⟩
      | true =>
       have hx:¬ (¬ 0 < x.2∧textT l m g2=⟨#[46]⟩):=by
        rintro⟨q1,q2⟩
        rw [decide_eq_false q1,decide_eq_false (fun h=>h q2)] at hbb
        cases hbb
       clear hbb
       obtain⟨m3,g3,w5,hd3⟩:=rneed_c l m e g2 ⟨#[58,45]⟩ (by decide) (by omega)
       have h3:=need_is hd3
       have hm3:=need_lt hm hd3
       clear hd3
       refine dw_ent (ent_cellrow 4 4 51 5 rfl rfl rfl) ?_
       repeat' (first|apply dw_seq2|refine z16 ?_|refine z18 ?_|fail)
       (refine ds_callF id (w5) rfl rfl rfl rfl ⟨rfl,trivial⟩ rfl rfl rfl rfl rfl rfl ?_ ?_)
       ·rintro k2 res H2 ⟨rfl,rfl,rfl⟩;exact⟨rfl,rfl⟩
       rintro k2 res H2 ⟨rfl,rfl,rfl⟩
       change DS _ _ _ _ _ _ _ _
       clear w5
       repeat' (first|refine z0 ?_|apply ds_nil|apply dw_seq2|refine z16 ?_|apply dw_block|apply thenD_n)
       have hfin:∀ b m4 g4,rdIs (rdP g3 m3 (litsGo l e (l.length + 1) m3 [])) b m4 g4→∀ m5 g5,rdIs (rdP g4 m4 (if seesT l m4 ⟨#[46]⟩=true then .ok ((),m4 + 1) else .error m4)) () m5 g5→rdIs (ruleT l e j) (⟨hereT l e j,s1,x.1,x.2,b⟩:TRu) m5 g5:=fun b m4 g4 h4 m5 g5 h5=>rule_body h1 h2 hx h3 h4 h5
       obtain⟨pl,hpl⟩:∃ pl,pl=rdP g3 m3 (litsGo l e (l.length + 1) m3 []):=⟨_,rfl⟩
       rw [← hpl] at hfin
       refine ds_loop (ι:=Nat × List TLt × Bool × Bool × Nat) (fun y=>⟨6,[(2,.loc 1 0),(3,.d (.int .i64 0)),(4,.d (.int .i64 0)),(5,.d (.slice 3 (l.map encTok))),(8,.loc 0 0),(9,.loc 2 0),(10,.loc 4 0),(11,.d (.bool y.2.2.1))],[(0,rdB l y.1 e y.2.2.2.1),(1,.blk 24 [.nils]),(2,.blk 24 [.row 3]),(3,.row 47 5 (acc.map encTRu)),(4,ruB (hereT l e j) s1 x.1 x.2 (.row 5)),(5,.row 51 5 (y.2.1.map encTLt))]⟩)
        (fun y=>lsInv l e pl y.1 y.2.1 y.2.2.1 y.2.2.2.1 y.2.2.2.2) (fun y=>tlM y.2.2.2.1 y.2.2.1 y.2.2.2.2) (m3,[],true,g3,l.length + 1) ?_ (ent_ren id ⟨rfl,rfl,rfl,rfl,rfl,rfl,rfl,rfl,trivial⟩ ⟨rfl,rfl,rfl,rfl,rfl,rfl,trivial⟩ rfl rfl rfl rfl rfl rfl) ?_
       ·refine⟨hm3,?_⟩
        cases g3 with
        | true=>exact hpl
        | false=>exact⟨hpl,by show l.length < l.length + 1 + m3;omega,Nat.zero_le _⟩
       clear hpl h1 h2 hgo h3 hx
       rintro⟨q,b,more,fl,n2⟩ ⟨hq,hinv⟩
       dsimp only at hq hinv ⊢
       cases fl with
       | true =>
        have hinv:rdIs pl b q true:=hinv
        cases more with
        | true =>
         repeat' (first|refine z0 ?_|apply ds_nil|apply dw_seq2|refine z16 ?_|apply dw_exit|refine z19 ?_|apply thenD_n|apply thenD_e|refine z17 ?_|fail)
         exact⟨(b,q,true),⟨hq,hfin _ _ _ hinv⟩,ent_trans (ent_cellseal 4 4 5 rfl rfl rfl rfl rfl) (ent_ren id ⟨rfl,rfl,rfl,rfl,rfl,rfl,rfl,trivial⟩ ⟨rfl,rfl,rfl,rfl,rfl,trivial⟩ rfl rfl rfl rfl rfl rfl)⟩
        | false =>
         repeat' (first|refine z0 ?_|refine z12 ?_|apply ds_nil|apply dw_seq2|refine z16 ?_|apply dw_exit|refine z19 ?_|apply thenD_n|apply thenD_e|refine z17 ?_|fail)
         exact⟨(b,q,true),⟨hq,hfin _ _ _ hinv⟩,ent_trans (ent_cellseal 4 4 5 rfl rfl rfl rfl rfl) (ent_ren id ⟨rfl,rfl,rfl,rfl,rfl,rfl,rfl,trivial⟩ ⟨rfl,rfl,rfl,rfl,rfl,trivial⟩ rfl rfl rfl rfl rfl rfl)⟩
       | false=>cases more with
        | false =>
         have hinv:rdIs pl b q false:=hinv
         repeat' (first|refine z0 ?_|refine z12 ?_|apply ds_nil|apply dw_seq2|refine z16 ?_|apply dw_exit|refine z19 ?_|apply thenD_n|apply thenD_e|refine z17 ?_|fail)
         exact⟨(b,q,false),⟨hq,hfin _ _ _ hinv⟩,ent_trans (ent_cellseal 4 4 5 rfl rfl rfl rfl rfl) (ent_ren id ⟨rfl,rfl,rfl,rfl,rfl,rfl,rfl,trivial⟩ ⟨rfl,rfl,rfl,rfl,rfl,trivial⟩ rfl rfl rfl rfl rfl rfl)⟩
        | true =>
         clear hfin
         obtain⟨hli,hn2,hb⟩:pl=litsGo l e n2 q b∧l.length < n2 + q∧b.length≤q:=hinv
         obtain⟨n2,rfl⟩:∃ m,n2=m + 1:=⟨n2 - 1,by omega⟩
         rw [litsGo_succ] at hli
         have wl:=rdBl (rlit_out l q e false hq (by omega) hok) (fun _=>rfl)
         have hne:=rdIs_ex (rdP false q (litT l e q)) (⟨0,0,0,⟨#[]⟩,[]⟩:TLt)
         repeat' (first|refine z0 ?_|apply ds_nil|refine z5 ?_|apply dw_seq2|refine z16 ?_|refine z20 ?_|apply dw_block|apply dw_skip|refine z18 ?_|apply thenD_n)
         refine dt_callB 0 wl rfl rfl rfl rfl rfl rfl rfl rfl (by obtain⟨x,k,g,h⟩:=hne;exact⟨_,_,x,k,g,rfl,rfl,h⟩) ?_
         rintro _ _ ⟨y,r,g5,rfl,rfl,hl⟩
         clear wl hne
         have hr:=lit_le hq hl
         have hr1:g5=false→q < r:=fun h=>by subst h;exact (litT_lt (show litT l e q = .ok (y,r) from hl)).1
         have lb:(b.map encTLt).length=b.length:=List.length_map _
         have hap:(b++[y]).map encTLt=b.map encTLt++[encTLt y]:=List.map_append
         have w6:=rtext_fn l r e g5
         repeat' (first|refine z5 ?_|refine z6 ?_|refine z9 ?_|refine z11 ?_|apply dw_seq2|refine z16 ?_|apply thenD_n)
         (refine ds_callF id (w6) rfl rfl rfl rfl ⟨rfl,trivial⟩ rfl rfl rfl rfl rfl rfl ?_ ?_)
         ·rintro k2 res H2 ⟨rfl,rfl,rfl⟩;exact⟨rfl,rfl⟩
         rintro k2 res H2 ⟨rfl,rfl,rfl⟩
         change DS _ _ _ _ _ _ _ _
         clear w6
         have hli2:textT l r g5≠⟨#[44]⟩→rdIs pl (b++[y]) r g5:=fun h=>by
          cases g5 with
          | true=>rw [show litT l e q = .error r from hl] at hli;exact hli
          | false =>
           rw [show litT l e q = .ok (y,r) from hl] at hli
           dsimp only at hli
           rw [if_neg (fun h2=>h ((text_is (by decide)).2 ⟨rfl,h2⟩))] at hli
           exact hli
         by_cases hsk:textT l r g5=⟨#[44]⟩
         ·obtain⟨rfl,hsk'⟩:=(text_is (by decide)).1 hsk
          clear hli2
          rw [show litT l e q = .ok (y,r) from hl] at hli
          dsimp only at hli
          rw [if_pos hsk'] at hli
          have:=seesT_lt hsk'
          have:=hr1 rfl
          have w7:=rneed_s l r e ⟨#[44]⟩ (by omega) hsk
          rw [hsk]
          clear hl
          repeat' (first|refine z0 ?_|apply ds_nil|apply dw_seq2|refine z16 ?_|refine z18 ?_|apply thenD_n)
          all_goals try (exfalso;omega)
          (refine ds_callF id (w7) rfl rfl rfl rfl ⟨rfl,trivial⟩ rfl rfl rfl rfl rfl rfl ?_ ?_)
          ·rintro k2 res H2 ⟨rfl,rfl,rfl⟩;exact⟨rfl,rfl⟩
          rintro k2 res H2 ⟨rfl,rfl,rfl⟩
          change DS _ _ _ _ _ _ _ _
          clear w7
          repeat' (first|apply ds_nil|apply thenD_n|apply inB_n)
          exact⟨(r + 1,b++[y],true,false,n2),⟨by show r + 1≤l.length;omega,hli,by show l.length < n2 + (r + 1);omega,by show (b++[y]).length≤r + 1;rw [List.length_append];simp;omega⟩,ent_ren (fun x=>match x with|0=>0|1=>1|2=>2|3=>3|4=>4|_=>_) ⟨rfl,rfl,rfl,rfl,rfl,rfl,rfl,rfl,trivial⟩ ⟨rfl,rfl,rfl,rfl,rfl,by dsimp only;rw [hap];rfl,trivial⟩ rfl rfl rfl rfl rfl rfl,Nat.lt_succ_self _⟩
         ·have hinv2:=hli2 hsk
          clear hli2 hli hl
          generalize textT l r g5=t1 at hsk
          repeat' (first|refine z0 ?_|apply ds_nil|apply dw_seq2|refine z16 ?_|apply dw_skip|apply thenD_n|apply inB_n|(refine z23 ?_ ?_ <;> intro hg)|fail)
          all_goals try (exfalso;first|omega|exact absurd (by assumption) hsk)
          exact⟨(r,b++[y],false,g5,n2),⟨hr,by cases g5 <;> exact hinv2⟩,ent_ren (fun x=>match x with|0=>0|1=>1|2=>2|3=>3|4=>4|_=>_) ⟨rfl,rfl,rfl,rfl,rfl,rfl,rfl,congrArg (fun z=>SV.d (D.bool z)) (decide_eq_false hsk),trivial⟩ ⟨rfl,rfl,rfl,rfl,rfl,by dsimp only;rw [hap];rfl,trivial⟩ rfl rfl rfl rfl rfl rfl,by cases g5 <;> exact Nat.succ_pos _⟩
    ·rintro⟨b,m4,g4⟩ ⟨hm4,hy⟩
     dsimp only at hm4 hy ⊢
     obtain⟨m5,g5,w5,hd5⟩:=rneed_c l m4 e g4 ⟨#[46]⟩ (by decide) (by omega)
     have hr:=hy m5 g5 (need_is hd5)
     have hm5:=need_lt hm4 hd5
     clear hd5 hy h1 h2
     have la:(acc.map encTRu).length=acc.length:=List.length_map _
     repeat' (first|apply dw_seq2|refine z16 ?_|fail)
     (refine ds_callF id (w5) rfl rfl rfl rfl ⟨rfl,trivial⟩ rfl rfl rfl rfl rfl rfl ?_ ?_)
     ·rintro k2 res H2 ⟨rfl,rfl,rfl⟩;exact⟨rfl,rfl⟩
     rintro k2 res H2 ⟨rfl,rfl,rfl⟩
     change DS _ _ _ _ _ _ _ _
     clear w5
     repeat' (first|refine z0 ?_|apply ds_nil|refine z16 ?_|apply thenD_n|apply inB_n|refine z3 ?_|refine z4 ?_|refine z2 ?_|fail)
     obtain⟨z,hz⟩:∃ z:TRu,z=⟨hereT l e j,s1,x.1,x.2,b⟩:=⟨_,rfl⟩
     have hap:(acc++[z]).map encTRu=acc.map encTRu++[encTRu ⟨hereT l e j,s1,x.1,x.2,b⟩]:=by rw [← hz];exact List.map_append
     rw [← hz] at hr
     refine⟨(m5,acc++[z],g5,n),⟨hm5,?_⟩,ent_ren (fun x=>match x with|0=>0|1=>1|2=>2|_=>_) ⟨rfl,rfl,rfl,rfl,rfl,rfl,trivial⟩ ⟨rfl,rfl,rfl,by dsimp only;rw [hap];rfl,trivial⟩ rfl rfl rfl rfl rfl rfl,by cases g5 <;> first|exact Nat.lt_succ_self _|exact Nat.succ_pos _⟩
     cases g5 with
     | true=>rw [show ruleT l e j = .error m5 from hr] at hgo;exact hgo
     | false =>
      rw [show ruleT l e j = .ok (z,m5) from hr] at hgo
      have:=(ruleT_lt (show ruleT l e j = .ok (z,m5) from hr)).1
      exact⟨hgo,by show l.length < n + m5;omega,by show (acc++[z]).length≤m5;rw [List.length_append];simp;omega⟩
   ·rw [if_neg hjl] at hgo
    rw [hgo]
    dsimp only
    repeat' ((fail_if_success (apply dw_stopS 22));(first|refine z0 ?_|apply ds_nil|apply dw_seq2|refine z16 ?_|apply dw_block|apply dw_skip|apply dw_exit|refine z19 ?_|apply thenD_n|apply thenD_e|refine z17 ?_|(refine z23 ?_ ?_ <;> intro hg)|fail))
    all_goals try (exfalso;omega)
    refine dw_ent (ent_cellseal 2 0 3 rfl rfl rfl rfl rfl) ?_
    have w3:=checkTree_fn acc
    by_cases hk:checkT acc=0
    ·rw [if_pos hk]
     rw [hk] at w3
     repeat' (first|refine z0 ?_|apply ds_nil|apply dw_seq2|refine z16 ?_|apply dw_skip|apply dw_ret|refine z19 ?_|apply thenD_n|refine z21 ?_ (hc:=by apply w3)|refine z3 ?_|fail)
     all_goals try (exfalso;omega)
     exact⟨.inl rfl,_,rfl,rfl,rfl⟩
    ·rw [if_neg hk]
     repeat' (first|refine z0 ?_|apply ds_nil|apply dw_seq2|refine z16 ?_|apply dw_skip|apply thenD_n|refine z21 ?_ (hc:=by apply w3)|refine z3 ?_|(refine z23 ?_ ?_ <;> intro hg)|fail)
     all_goals try (exfalso;omega)
     refine dw_ent (ent_cellnil 1 0 5 rfl rfl rfl) ?_
     repeat' (first|apply dw_ret|apply thenD_r)
     exact⟨.inl rfl,_,rfl,rfl,rfl⟩
 ·rw [if_pos he]
  repeat' (first|refine z0 ?_|apply ds_nil|apply dw_seq2|refine z16 ?_|apply dw_block|apply dw_skip|apply thenD_n|refine z21 ?_ (hc:=by apply w1)|refine z1 ?_|refine z3 ?_|(refine z23 ?_ ?_ <;> intro hg)|fail)
  all_goals try (exfalso;omega)
  refine dw_ent (ent_cellnil 0 0 5 rfl rfl rfl) ?_
  repeat' (first|apply dw_ret|apply thenD_r)
  exact⟨.inl rfl,_,rfl,rfl,rfl⟩
end Go.Proofs.YtapciiffpnociabGreatDoor
namespace Go.Proofs.YtapciiffpnociabGreatDoor
open Go Go.RowKit
theorem FnP.args {dr:Bool} {P:Program} {τ:List (Nat × TI)} {τok:TabOk P τ} {f:FuncId} {args args':List SV} {R:SV→Prop} (hc:FnP dr P τ τok f args R) (h:∀ X e w vs,RelL X e w args' vs→RelL X e w args vs):FnP dr P τ τok f args' R :=
 ⟨hc.1,fun O e w vs hH hr=>hc.2 O e w vs hH (h _ _ _ _ hr)⟩
theorem nil_rel {X e w} {es:Nat} {v:Value} (h:Rel X e w .nils v):Rel X e w (.d (.slice es [])) v:=by
 rw [show v = .slice none 0 0 from h]
 exact .nil
theorem itoa_one:itoaB 1=⟨#[49]⟩:=by
 unfold itoaB Lib.itoa
 rw [if_neg (by decide),show (1:Int).toNat=1 from rfl]
 unfold Lib.decDigits
 rw [dif_pos (by decide)]
 rfl
theorem itoa_two:itoaB 2=⟨#[50]⟩:=by
 unfold itoaB Lib.itoa
 rw [if_neg (by decide),show (2:Int).toNat=2 from rfl]
 unfold Lib.decDigits
 rw [dif_pos (by decide)]
 rfl
theorem small_show:showS smallRs=smallS:=by
 have h1:showTm ⟨⟨#[]⟩,1⟩=⟨#[49]⟩:=by unfold showTm;rw [if_pos rfl];exact itoa_one
 have h2:showTm ⟨⟨#[]⟩,2⟩=⟨#[50]⟩:=by unfold showTm;rw [if_pos rfl];exact itoa_two
 unfold smallRs
 simp only [showS,showRu,atomS,List.map_cons,List.map_nil,h1,h2]
 rfl
theorem small_ok:∀ r∈smallRs,RuShow r:=by
 have nv:∀ s:ByteArray,s.size≤4294967296→nOk ⟨s,0⟩:=fun s h=>⟨by show (-9999999:Int)≤0;decide,by show (0:Int)≤9999999;decide,h⟩
 have lo:∀ x∈([⟨1,26,0,⟨#[113]⟩,[⟨⟨#[88]⟩,0⟩,⟨⟨#[89]⟩,0⟩]⟩,⟨2,35,0,⟨#[114]⟩,[⟨⟨#[89]⟩,0⟩]⟩,⟨3,45,1,⟨#[]⟩,[⟨⟨#[88]⟩,0⟩,⟨⟨#[89]⟩,0⟩]⟩]:List TLt),LtOk x:=by
  intro x hx
  simp only [List.mem_cons,List.not_mem_nil,or_false] at hx
  rcases hx with rfl|rfl|rfl
  ·exact⟨fun t ht=>by simp only [List.mem_cons,List.not_mem_nil,or_false] at ht;rcases ht with rfl|rfl <;> exact nv _ (by decide),by decide,by decide,⟨by decide,by decide⟩,fun h=>absurd rfl h,fun h=>absurd rfl h⟩
  ·exact⟨fun t ht=>by simp only [List.mem_cons,List.not_mem_nil,or_false] at ht;rcases ht with rfl;exact nv _ (by decide),by decide,by decide,⟨by decide,by decide⟩,fun _ h=>absurd rfl h,fun _ h=>absurd rfl h⟩
  ·exact⟨fun t ht=>by simp only [List.mem_cons,List.not_mem_nil,or_false] at ht;rcases ht with rfl|rfl <;> exact nv _ (by decide),by decide,by decide,⟨by decide,by decide⟩,fun _ _=>by decide,fun _ _ h=>absurd rfl h⟩
 intro r hr
 unfold smallRs at hr
 simp only [List.mem_cons,List.not_mem_nil,or_false] at hr
 rcases hr with rfl|rfl
 ·exact⟨by decide,fun t ht=>by simp only [List.mem_cons,List.not_mem_nil,or_false] at ht;rcases ht with rfl|rfl <;> exact⟨by decide,by decide,by decide⟩,by decide,.inl rfl,fun x hx=>(by cases hx),by decide⟩
 ·exact⟨by decide,fun t ht=>by simp only [List.mem_cons,List.not_mem_nil,or_false] at ht;rcases ht with rfl|rfl <;> exact nv _ (by decide),by decide,.inr ⟨by decide,by decide,by decide⟩,lo,by decide⟩
theorem agg1_rel {X e w} {q:Nat} {v:Value} (h:Rel X e w (.agg [.nils]) v):Rel X e w (.agg [.d (.slice q [])]) v:=by
 obtain⟨us,hv,hr⟩:=h
 match us,hr with
 | [x],⟨h1,_⟩=>exact⟨[x],hv,nil_rel h1,trivial⟩
 | [],h=>exact h.elim
 | _::_::_,⟨_,h⟩=>exact h.elim
attribute [local irreducible] DW DS DL DQ Ev FnOk FnP thenD inBlockD DT
set_option maxHeartbeats 8000000 in
theorem showBegun_fn:Fn 11 [] (fun r=>r = .d (.bool true)):=by
 refine fnp_enter' _ Tryz.func11 rfl rfl (by kernel_rfl) ?_
 intro O w0 E0 β0
 have h1:=parseOf_fn smallS
 rw [small_parse] at h1
 have h2:=sshow_fn smallRs (by decide) small_check (by decide) small_ok
 rw [small_show] at h2
 have h3:=ssame_fn smallRs smallRs
 rw [show sameL (sameTRu false) smallRs smallRs=true by kernel_rfl] at h3
 have h4:=ssame_fn smallRs []
 rw [show sameL (sameTRu false) smallRs []=false by kernel_rfl] at h4
 have h4:Fn 20 [.agg [.d (.slice 5 (smallRs.map encTRu))],.agg [.nils]] _:=FnP.args h4 fun _ _ _ vs h=>match vs,h with
  | _::_::_,⟨g1,g2,g3⟩=>⟨g1,agg1_rel g2,g3⟩
  | [_],⟨_,h⟩=>h.elim
  | [],h=>h.elim
 unfold encParse at h1
 dsimp only at h1
 unfold smallS at h1 h2
 generalize smallRs=rs at *
 repeat' (first|refine z0 ?_|apply ds_nil|apply dw_seq2|refine z16 ?_|apply dw_ret|apply thenD_n|refine z21 ?_ (hc:=by apply h1)|refine z21 ?_ (hc:=by apply h2)|refine z21 ?_ (hc:=by apply h3)|refine z21 ?_ (hc:=by apply h4)|refine z1 ?_|refine z3 ?_|fail)
 all_goals first|exact ret_b rfl rfl|exact ret_b rfl (by decide)
theorem oneS_size {k:Int} {s:ByteArray} (h:oneS k s=true):s.size≤5000:=by
 rw [oneS_eq,isTok_eq] at h
 exact h.2.1
theorem nameS_size {s:ByteArray} (h:nameS s=true):s.size≤5000:=by
 unfold nameS at h
 rw [Bool.and_eq_true] at h
 exact oneS_size h.1
theorem check_show {rs:List TRu} (h:checkT rs=0) :
  rs.length≤12∧(∀ r∈rs,RuShow r)∧∀ r∈rs,∀ x∈r.body,kOk x:=by
 unfold checkT at h
 split at h
 ·cases h
 rename_i hm
 split at h
 rotate_left
 ·cases h
 rename_i ha
 have hl:rs.length≤12:=by omega
 have hmu:∀ r∈rs,muchT r=false:=by
  intro r hr
  cases hx:muchT r with
  | false=>rfl
  | true=>exact absurd (.inr (List.any_eq_true.2 ⟨r,hr,hx⟩)) hm
 have tm:∀ t:TTm,tmOk t=true→nOk t:=by
  intro t ht
  unfold tmOk at ht
  split at ht
  ·rename_i hv
   simp only [Bool.and_eq_true,decide_eq_true_eq] at ht
   exact⟨ht.1,ht.2,by rw [hv];decide⟩
  ·simp only [Bool.and_eq_true,decide_eq_true_eq] at ht
   have hs:=oneS_size ht.1
   exact⟨by omega,by omega,by omega⟩
 have tl:∀ x:TLt,tlOk x=true→x.terms.length≤3→LtOk x∧kOk x:=by
  intro x hx hlen
  unfold tlOk at hx
  rw [Bool.and_eq_true] at hx
  obtain⟨h1,h2⟩:=hx
  have ht:∀ t∈x.terms,nOk t:=fun t ht=>tm t (List.all_eq_true.1 h1 t ht)
  split at h2
  ·rename_i hk
   simp only [Bool.and_eq_true,decide_eq_true_eq] at h2
   have hn:=nameS_size h2.2
   exact⟨⟨ht,hlen,by omega,by omega,fun a b=>by omega,fun a b=>by omega⟩,by omega⟩
  split at h2
  ·rename_i hk
   simp only [Bool.and_eq_true,decide_eq_true_eq] at h2
   exact⟨⟨ht,hlen,by rw [h2.1.2];decide,by omega,fun a b=>by omega,fun a b c=>by omega⟩,by omega⟩
  split at h2
  ·rename_i hk
   simp only [Bool.and_eq_true,decide_eq_true_eq] at h2
   exact⟨⟨ht,hlen,by rw [h2.1.2];decide,by omega,fun a b=>by omega,fun a b c=>by omega⟩,by omega⟩
  ·cases h2
 have hr:∀ r∈rs,RuShow r∧∀ x∈r.body,kOk x:=by
  intro r hr
  have h1:=List.all_eq_true.1 ha r hr
  have h2:=hmu r hr
  unfold muchT at h2
  simp only [Bool.or_eq_false_iff,decide_eq_false_iff_not] at h2
  obtain⟨⟨m1,m2⟩,m3⟩:=h2
  unfold truOk at h1
  simp only [Bool.and_eq_true,Bool.or_eq_true,decide_eq_true_eq] at h1
  obtain⟨⟨⟨⟨t1,t2⟩,t3⟩,t4⟩,t5⟩:=h1
  have b1:=nameS_size t1
  have hbody:∀ x∈r.body,LtOk x∧kOk x:=by
   intro x hx
   have h3:x.terms.length≤3:=by
    by_cases h:3 < x.terms.length
    ·rw [List.any_eq_true.2 ⟨x,hx,by simpa using h⟩] at m3
     cases m3
    ·omega
   exact tl x (List.all_eq_true.1 t5 x hx) h3
  refine⟨⟨by omega,fun t ht=>tm t (List.all_eq_true.1 t2 t ht),by omega,?_,fun x hx=>(hbody x hx).1,by omega⟩,fun x hx=>(hbody x hx).2⟩
  rcases t4 with t4|⟨t4,_⟩
  ·exact .inl t4
  ·by_cases hf:r.fold=0
   ·exact .inl hf
   ·exact .inr ⟨by omega,by omega,List.length_pos_iff.2 t4⟩
 exact⟨hl,fun r h=>(hr r h).1,fun r h=>(hr r h).2⟩
set_option maxHeartbeats 8000000 in
theorem sshow_err (rs:List TRu) (hc:checkT rs≠0):Fn 8 [.agg [.d (.slice 5 (rs.map encTRu))]] (fun r=>r = .tup [.d (.str ⟨#[]⟩),.d (.int .i64 (checkT rs))]):=by
 refine fnp_enter' _ Tryz.func8 rfl rfl (by kernel_rfl) ?_
 intro O w0 E0 β0
 have w1:=tcheck_fn rs
 generalize checkT rs=e at *
 repeat' (first|refine z0 ?_|apply ds_nil|apply dw_seq2|refine z16 ?_|apply dw_block|apply dw_skip|apply dw_ret|apply thenD_n|apply thenD_r|refine z21 ?_ (hc:=by apply w1)|refine z1 ?_|(refine z23 ?_ ?_ <;> intro hg)|fail)
 all_goals try (exfalso;exact hg hc)
 exact⟨.inl rfl,_,rfl,rfl,rfl⟩
set_option maxHeartbeats 8000000 in
theorem bstr_none:FnOk false Tryz.prog tab tab_ok 25 [.loc 0 0] 0 1 [(0,.blk 58 [.val (.pointer none),.nils])] (fun _ r H=>H=[]∧r = .d (.str ⟨#[]⟩)):=by
 refine fn_enterR _ Tryz.func25 rfl rfl (by kernel_rfl) ?_
 intro O w0 E0 β0
 repeat' ((fail_if_success (apply dw_stopS 1));(first|refine z0 ?_|apply ds_nil|apply dw_seq2|refine z16 ?_|apply thenD_n))
 refine dw_seq2 ?_
 refine dw_tail 10 (by kernel_rfl) (by kernel_rfl) (by kernel_rfl) rfl rfl rfl ?_
 repeat' refine z5 ?_
 refine dt_sliceNil 0 rfl rfl rfl rfl ?_
 repeat' (first|refine z5 ?_|refine z10 ?_|fail)
 refine ds_ev (ev_unsafeStringNil rfl rfl) rfl rfl ?_
 repeat' (first|refine z0 ?_|apply ds_nil|apply dw_ret|apply thenD_n)
 exact⟨.inl rfl,_,rfl,id,0,_,[],rfl,trivial,rfl,rfl,rfl,rfl,rfl,rfl,rfl,rfl⟩
set_option maxHeartbeats 8000000 in
theorem sshow_nil:Fn 8 [.agg [.d (.slice 5 (([]:List TRu).map encTRu))]] (fun r=>r = .tup [.d (.str (showS [])),.d (.int .i64 0)]):=by
 refine fnp_enter' _ Tryz.func8 rfl rfl (by kernel_rfl) ?_
 intro O w0 E0 β0
 have w1:=tcheck_fn []
 rw [show checkT []=0 from rfl] at w1
 repeat' (first|refine z0 ?_|apply ds_nil|apply dw_seq2|refine z16 ?_|apply dw_block|apply dw_skip|refine z19 ?_|apply thenD_n|refine z21 ?_ (hc:=by apply w1)|refine z1 ?_|fail)
 refine ds_loop (ι:=Unit) (fun _=>⟨2,[(5,.loc 1 0),(17,.d (.int .i64 0)),(18,.d (.int .i64 0))],[(1,.blk 58 [.val (.pointer none),.nils])]⟩)
  (fun _=>True) (fun _=>0) () trivial (ent_ren id ⟨rfl,rfl,rfl,trivial⟩ ⟨rfl,trivial⟩ rfl rfl rfl rfl rfl rfl) ?_
 intro _ _
 dsimp only
 repeat' (first|refine z0 ?_|apply ds_nil|apply dw_seq2|refine z16 ?_|apply dw_exit|refine z19 ?_|apply thenD_n|apply thenD_e|refine z17 ?_|fail)
 all_goals try (exfalso;omega)
 refine ds_callF (fun j=>match j with|0=>1|j=>j) bstr_none rfl rfl rfl rfl ⟨rfl,trivial⟩ rfl rfl rfl rfl rfl rfl ?_ ?_
 ·rintro k2 res H2 ⟨rfl,rfl⟩;exact⟨rfl,rfl⟩
 rintro k2 res H2 ⟨rfl,rfl⟩
 change DS _ _ _ _ _ _ _ _
 repeat' (first|refine z0 ?_|apply ds_nil|apply dw_ret|apply thenD_n)
 all_goals exact⟨.inl rfl,_,rfl,rfl,rfl⟩
set_option maxHeartbeats 8000000 in
theorem showShows_fn (rs:List TRu) :
  Fn 3 [.agg [.d (.slice 5 (rs.map encTRu))]] (fun r=>r = .d (.bool true)):=by
 refine fnp_enter' _ Tryz.func3 rfl rfl (by kernel_rfl) ?_
 intro O w0 E0 β0
 have h0:=showBegun_fn
 have h1:=checkTree_fn rs
 by_cases hc:checkT rs=0
 ·obtain⟨c1,c2,c3⟩:=check_show hc
  have h2:Fn 8 [.agg [.d (.slice 5 (rs.map encTRu))]] (fun r=>r = .tup [.d (.str (showS rs)),.d (.int .i64 0)]):=by
   cases rs with
   | nil=>exact sshow_nil
   | cons r l=>exact sshow_fn _ (by simp) hc c1 c2
  have h3:=treeText_fn rs c1 c2 c3
  rw [hc] at h1
  generalize showS rs=S at *
  repeat' (first|refine z0 ?_|apply ds_nil|apply dw_seq2|refine z16 ?_|apply dw_ret|refine z18 ?_|apply thenD_n|refine z21 ?_ (hc:=by apply h0)|refine z21 ?_ (hc:=by apply h1)|refine z21 ?_ (hc:=by apply h2)|refine z21 ?_ (hc:=by apply h3)|refine z1 ?_|fail)
  all_goals first|exact ret_b rfl rfl|exact ret_b rfl (by simp)
 ·have h2:=sshow_err rs hc
  generalize checkT rs=e at *
  repeat' (first|refine z0 ?_|refine z12 ?_|apply ds_nil|apply dw_seq2|refine z16 ?_|apply dw_skip|apply dw_ret|apply thenD_n|refine z21 ?_ (hc:=by apply h0)|refine z21 ?_ (hc:=by apply h1)|refine z21 ?_ (hc:=by apply h2)|refine z1 ?_|(refine z23 ?_ ?_ <;> intro hg)|((fail_if_success (apply ds_known;exact rfl));apply ds_guardP;exact rfl;exact rfl;exact rfl;all_goals intro hg))
  all_goals try (exfalso;exact hc hg)
  all_goals try (exfalso;exact hg rfl)
  all_goals first|exact ret_b rfl rfl|exact ret_b rfl (by simp)
end Go.Proofs.YtapciiffpnociabGreatDoor
namespace Go.Proofs.YtapciiffpnociabGreatDoor
open Go Go.RowKit
inductive RT where
 | bool
 | int (k:IntKind)
 | str
 | slice (cells bytes:Nat) (e:RT)
 | struct (fs:List RT)
mutual
def RT.size:RT→Nat
 | .struct fs=>RT.sizeL fs
 | .bool=>1
 | .int _=>1
 | .str=>1
 | .slice _ _ _=>1
def RT.sizeL:List RT→Nat
 | []=>0
 | r::rs=>r.size + RT.sizeL rs
end
mutual
def rtB (P:Program):RT→TypeId→Bool
 | .bool,t=>match P.underlying t with|some .bool=>true|_=>false
 | .int k,t=>match P.underlying t with|some (.int k')=>sameK k k'|_=>false
 | .str,t=>match P.underlying t with|some .string=>true|_=>false
 | .slice c b e,t=>match P.underlying t with
  | some (.slice te)=>Nat.beq (P.cellsOf te) c && (Nat.beq (P.bytesOf te) b && (Nat.blt 0 c && (Nat.beq e.size c && rtB P e te)))
  | _=>false
 | .struct fs,t=>match P.underlying t with
  | some (.struct fl)=>rtL P fs fl.toList 0 && Nat.beq (P.cellsOf t) (RT.sizeL fs)
  | _=>false
def rtL (P:Program):List RT→List Field→Nat→Bool
 | [],[],_=>true
 | r::rs,f::fl,o=>Nat.beq f.offset o && (Nat.beq (P.cellsOf f.type) r.size && (rtB P r f.type && rtL P rs fl (o + r.size)))
 | _,_,_=>false
end
mutual
def TyDR (R:Nat):RT→List D→Prop
 | .bool,xs=>∃ b,xs=[.bool b]
 | .int k,xs=>∃ n,(Lit.int k n).wf=true∧xs=[.int k n]
 | .str,xs=>∃ s:ByteArray,s.size≤R∧xs=[.str s]
 | .slice c b e,xs=>∃ l:List (List D),l.length * b≤R∧l.length≤maxLen∧xs=[.slice c l]∧∀ x∈l,TyDR R e x
 | .struct fs,xs=>TyFR R fs xs
def TyFR (R:Nat):List RT→List D→Prop
 | [],xs=>xs=[]
 | r::rs,xs=>∃ a b,xs=a++b∧TyDR R r a∧TyFR R rs b
end
abbrev TyD:=TyDR reachBytes
section
variable {H : Type} {enc : TypeId × Value → H} {P : Program} {w : World} {R : Nat}
theorem cells?_spec {base:Nat} {a:Addr} {n:Nat} {vs:List Value} (h:w.cells? base a n=some vs):vs.length=n∧∀ j,j < n→∃ v,vs[j]? = some v∧w.cell? (a.add j)=some v:=by
 unfold World.cells? at h
 split at h
 ·have key:∀ (l:List Nat) (vs:List Value),(l.mapM fun i=>w.cell? (a.add i))=some vs→vs.length=l.length∧∀ (j i:Nat),l[j]? = some i→∃ v,vs[j]? = some v∧w.cell? (a.add i)=some v:=by
   intro l
   induction l with
   | nil=>intro vs h;simp at h;subst h;exact⟨rfl,fun j i hj=>by simp at hj⟩
   | cons x l ih =>
    intro vs h
    rw [List.mapM_cons] at h
    cases hx:w.cell? (a.add x) with
    | none=>simp [hx] at h
    | some v =>
     cases hl:(l.mapM fun i=>w.cell? (a.add i)) with
     | none=>simp [hx,hl] at h
     | some us =>
      simp [hx,hl] at h
      subst h
      obtain⟨h1,h2⟩:=ih us hl
      refine⟨by simp [h1],fun j i hj=>?_⟩
      cases j with
      | zero=>simp at hj;subst hj;exact⟨v,rfl,hx⟩
      | succ j=>simpa using h2 j i (by simpa using hj)
  obtain⟨h1,h2⟩:=key _ _ h
  exact⟨by simpa using h1,fun j hj=>h2 j j (by simp [hj])⟩
 ·cases h
theorem cell?_addr {a:Addr} {v:Value} (h:w.cell? a=some v):a.spot=none∧a.block < w.heap.size:=by
 unfold World.cell? at h
 split at h
 ·rename_i hb
  split at h
  ·cases h
  ·rename_i hs
   exact⟨by simpa using hs,(Array.getElem?_eq_some_iff.1 hb).1⟩
 ·cases h
theorem addr_00 (a:Addr):(a.add 0).add 0=a:=by simp [Go.Addr.add]
def RepL (w:World) (cs:List Value) (xs:List D):Prop:=cs.length=xs.length∧∀ (j:Nat) (u:Value),cs[j]? = some u→∃ x,xs[j]? = some x∧RepC (fun _=>False) w u x
theorem RepL.append {cs cs':List Value} {xs xs':List D} (h:RepL w cs xs) (h':RepL w cs' xs'):RepL w (cs++cs') (xs++xs'):=by
 obtain⟨h1,h2⟩:=h
 obtain⟨g1,g2⟩:=h'
 refine⟨by simp [h1,g1],fun j u hj=>?_⟩
 by_cases hlt:j < cs.length
 ·rw [List.getElem?_append_left hlt] at hj
  obtain⟨x,e1,e2⟩:=h2 j u hj
  exact⟨x,by rw [List.getElem?_append_left (by omega)];exact e1,e2⟩
 ·rw [List.getElem?_append_right (by omega)] at hj
  obtain⟨x,e1,e2⟩:=g2 _ u hj
  exact⟨x,by rw [List.getElem?_append_right (by omega),← h1];exact e1,e2⟩
theorem weightsAll_mem {e:TypeId}:∀ {l:List (DataW H)} {d:DataW H},d∈l→∀ n∈d.weights P e,n∈DataW.weightsAll P e l
 | [],_,h,_,_=>by simp at h
 | x::l,d,h,n,hn=>by
  simp only [DataW.weightsAll,List.mem_append]
  rcases List.mem_cons.1 h with rfl|h
  ·exact .inl hn
  ·exact .inr (weightsAll_mem h n hn)
mutual
theorem open_rt:∀ (r:RT) (t:TypeId) (fuel:Nat) (cs:List Value) (x:DataW H × List MemPlace),rtB P r t=true→DataW.trod enc P w 0 (fun _=>true) true fuel t cs=some x→(∀ n∈x.1.weights P t,n≤R) →
  ∃ xs,TyDR R r xs∧RepL w cs xs
 | .bool,t,fuel,cs,x,hb,h,_=>by
  have ht:P.underlying t=some .bool:=by
   unfold rtB at hb;split at hb <;> first|assumption|cases hb
  obtain⟨b,rfl,rfl⟩:=DataW.trod_bool ht h
  refine⟨[.bool b],⟨b,rfl⟩,rfl,fun j u hj=>?_⟩
  cases j with
  | zero=>simp at hj;subst hj;exact⟨_,rfl,.bool⟩
  | succ j=>simp at hj
 | .int k,t,fuel,cs,x,hb,h,_=>by
  have ht:P.underlying t=some (.int k):=by
   unfold rtB at hb
   split at hb
   ·rename_i k' hk;rw [hk,sameK_spec hb]
   ·cases hb
  obtain⟨n,rfl,rfl,hw⟩:=DataW.trod_int ht h
  refine⟨[.int k n],⟨n,hw,rfl⟩,rfl,fun j u hj=>?_⟩
  cases j with
  | zero=>simp at hj;subst hj;exact⟨_,rfl,.int hw⟩
  | succ j=>simp at hj
 | .str,t,fuel,cs,x,hb,h,hw=>by
  have ht:P.underlying t=some .string:=by
   unfold rtB at hb;split at hb <;> first|assumption|cases hb
  obtain⟨s,rfl,rfl,hs⟩:=DataW.trod_string ht h
  have hr:s.size≤R:=by
   have:=hw s.data.toList.length (by simp [DataW.weights])
   simpa using this
  refine⟨[.str s],⟨s,hr,rfl⟩,rfl,fun j u hj=>?_⟩
  cases j with
  | zero=>simp at hj;subst hj;exact⟨_,rfl,.str hs⟩
  | succ j=>simp at hj
 | .slice c b e,t,fuel,cs,x,hb,h,hw=>by
  obtain⟨te,ht,hc,hby,hpos,hes,hre⟩:∃ te,P.underlying t=some (.slice te)∧P.cellsOf te=c∧P.bytesOf te=b∧0 < c∧e.size=c∧rtB P e te=true:=by
   unfold rtB at hb
   split at hb
   ·rename_i te ht
    simp only [Bool.and_eq_true] at hb
    exact⟨te,ht,Nat.eq_of_beq_eq_true hb.1,Nat.eq_of_beq_eq_true hb.2.1,Nat.le_of_ble_eq_true hb.2.2.1,Nat.eq_of_beq_eq_true hb.2.2.2.1,hb.2.2.2.2⟩
   ·cases hb
  rcases DataW.trod_slice ht h with ⟨rfl,rfl⟩|⟨a,len,cap,elems,rest,n,_,rfl,rfl,_,hlc,hcm,hlen,hel,hsp,_⟩
  ·refine⟨[.slice c []],⟨[],by simp,by simp,rfl,by simp⟩,rfl,fun j u hj=>?_⟩
   cases j with
   | zero=>simp at hj;subst hj;exact⟨_,rfl,.nil⟩
   | succ j=>simp at hj
  ·obtain⟨hrl,hrest⟩:=hsp rfl
   have hcell0:∀ i,i < cap→∃ ci y,w.cells? 0 (a.add (i * c)) c=some ci∧DataW.trod enc P w 0 (fun _=>true) true n te ci=some y∧(∀ hi:i < len,elems[i]? = some y):=by
    intro i hi
    by_cases hil:i < len
    ·have h1:=hel i hil
     have h2:elems[i]? = some (elems[i]'(by omega)):=List.getElem?_eq_getElem (by omega)
     rw [hc,h2,Option.bind_eq_some_iff] at h1
     obtain⟨ci,g1,g2⟩:=h1
     exact⟨ci,_,g1,g2,fun _=>h2⟩
    ·have h1:=hrest (i - len) (by omega)
     have h2:rest[i - len]? = some (rest[i - len]'(by omega)):=List.getElem?_eq_getElem (by omega)
     rw [show len + (i - len)=i by omega,hc,h2,Option.bind_eq_some_iff] at h1
     obtain⟨ci,g1,g2⟩:=h1
     exact⟨ci,_,g1,g2,fun h=>absurd h hil⟩
   have hlist:∀ m,m≤len→∃ l:List (List D),l.length=m∧(∀ x∈l,TyDR R e x)∧∀ i (hi:i < m),∃ ci xi,w.cells? 0 (a.add (i * c)) c=some ci∧l[i]? = some xi∧RepL w ci xi:=by
    intro m
    induction m with
    | zero=>intro _;exact⟨[],rfl,by simp,fun i hi=>by omega⟩
    | succ m ih =>
     intro hm
     obtain⟨l,l1,l2,l3⟩:=ih (by omega)
     obtain⟨ci,y,g1,g2,g3⟩:=hcell0 m (by omega)
     have hy:=g3 (by omega)
     have hmem:y.1∈elems.map (·.1):=List.mem_map.2 ⟨y,List.mem_of_getElem? hy,rfl⟩
     obtain⟨xi,t1,t2⟩:=open_rt e te n ci y hre g2 fun k hk=>hw k (by
      simp only [DataW.weights,ht,List.mem_cons,List.mem_append]
      exact .inr (.inl (weightsAll_mem hmem k hk)))
     refine⟨l++[xi],by simp [l1],fun x hx=>?_,fun i hi=>?_⟩
     ·rcases List.mem_append.1 hx with hx|hx
      ·exact l2 x hx
      ·simp at hx;subst hx;exact t1
     ·by_cases him:i < m
      ·obtain⟨ci',xi',q1,q2,q3⟩:=l3 i him
       exact⟨ci',xi',q1,by rw [List.getElem?_append_left (by omega)];exact q2,q3⟩
      ·have:i=m:=by omega
       subst this
       exact⟨ci,xi,g1,by rw [List.getElem?_append_right (by omega),l1];simp,t2⟩
   obtain⟨l,l1,l2,l3⟩:=hlist len (Nat.le_refl _)
   have hwt:l.length * b≤R:=by
    have:=hw ((elems.length + rest.length) * P.bytesOf te) (by
     simp only [DataW.weights,ht,List.length_map,List.mem_cons,true_or])
    rw [hby] at this
    refine Nat.le_trans (Nat.mul_le_mul_right b ?_) this
    omega
   refine⟨[.slice c l],⟨l,hwt,by omega,rfl,l2⟩,rfl,fun j u hj=>?_⟩
   cases j with
   | succ j=>simp at hj
   | zero =>
    simp at hj
    subst hj
    refine⟨_,rfl,?_⟩
    by_cases hcap:cap=0
    ·have h0:len=0:=by omega
     subst hcap;subst h0
     have:l=[]:=List.eq_nil_of_length_eq_zero l1
     subst this
     exact .zero
    ·obtain⟨c0,y0,g1,_,_⟩:=hcell0 0 (by omega)
     obtain⟨v0,_,hv0⟩:=(cells?_spec g1).2 0 hpos
     rw [Nat.zero_mul,addr_00] at hv0
     obtain⟨s5,s2⟩:=cell?_addr hv0
     obtain⟨ab,ao,asp⟩:=a
     simp only at s5 s2
     subst s5
     have hl3:∀ i (hi:i < l.length),(l[i]'hi).length=c∧∀ j (hj:j < (l[i]'hi).length),∃ v,w.cell? ⟨ab,ao + i * c + j,none⟩=some v∧RepC (fun _=>False) w v ((l[i]'hi)[j]'hj):=by
      intro i hi
      obtain⟨ci,xi,q1,q2,q3,q4⟩:=l3 i (by omega)
      have hxi:l[i]'hi=xi:=by rw [List.getElem?_eq_getElem hi] at q2;exact Option.some.inj q2
      subst hxi
      obtain⟨r1,r2⟩:=cells?_spec q1
      refine⟨by omega,fun j hj=>?_⟩
      obtain⟨v,v1,v2⟩:=r2 j (by omega)
      obtain⟨xx,x1,x2⟩:=q4 j v v1
      rw [Addr.add_at,Addr.add_at] at v2
      have hxx:(l[i]'hi)[j]'hj=xx:=by rw [List.getElem?_eq_getElem hj] at x1;exact Option.some.inj x1
      exact⟨v,v2,hxx▸x2⟩
     refine .slice (fun i j=>(w.cell? ⟨ab,ao + i * c + j,none⟩).getD undef) l1.symm hlc hcm (fun h=>h) s2 (fun i hi=>(hl3 i hi).1) (fun i hi j hj=>?_) (fun i hi j hj=>?_)
     ·obtain⟨v,v1,_⟩:=(hl3 i hi).2 j hj
      rw [v1];rfl
     ·obtain⟨v,v1,v2⟩:=(hl3 i hi).2 j hj
      rw [v1];exact v2
 | .struct fs,t,fuel,cs,x,hb,h,hw=>by
  obtain⟨fl,ht,hf,hc⟩:∃ fl,P.underlying t=some (.struct fl)∧rtL P fs fl.toList 0=true∧P.cellsOf t=RT.sizeL fs:=by
   unfold rtB at hb
   split at hb
   ·rename_i fl ht
    simp only [Bool.and_eq_true] at hb
    exact⟨fl,ht,hb.1,Nat.eq_of_beq_eq_true hb.2⟩
   ·cases hb
  obtain⟨xs,n,_,rfl,hcl,hxl,hx⟩:=DataW.trod_struct ht h
  obtain⟨ys,y1,y2⟩:=open_rts fs fl.toList 0 n cs xs hf (fun i f hi=>hx i f (by simpa using hi)) (by simpa using hxl) (by rw [hcl,hc];omega) (fun k hk=>hw k (by
   simp only [DataW.weights,ht];exact hk))
  exact⟨ys,y1,by simpa using y2⟩
theorem open_rts:∀ (rs:List RT) (fl:List Field) (o n:Nat) (cs:List Value) (xs:List (DataW H × List MemPlace)),rtL P rs fl o=true →
  (∀ (i:Nat) (f:Field),fl[i]? = some f→DataW.trod enc P w 0 (fun _=>true) true n f.type ((cs.drop f.offset).take (P.cellsOf f.type))=xs[i]?)→xs.length=fl.length→cs.length=o + RT.sizeL rs →
  (∀ k∈DataW.weightsEach P (fl.map (·.type)) (xs.map (·.1)),k≤R)→∃ ys,TyFR R rs ys∧RepL w (cs.drop o) ys
 | [],fl,o,n,cs,xs,hb,_,_,hl,_=>by
  refine⟨[],rfl,?_,fun j u hj=>?_⟩
  ·simp [RT.sizeL] at hl ⊢;omega
  ·rw [List.drop_eq_nil_of_le (by simp [RT.sizeL] at hl;omega)] at hj;simp at hj
 | r::rs,[],o,n,cs,xs,hb,_,_,_,_=>by simp [rtL] at hb
 | r::rs,f::fl,o,n,cs,xs,hb,hx,hxl,hl,hw=>by
  simp only [rtL,Bool.and_eq_true] at hb
  obtain⟨b1,b2,b3,b4⟩:=hb
  have b1:=Nat.eq_of_beq_eq_true b1
  have b2:=Nat.eq_of_beq_eq_true b2
  cases xs with
  | nil=>simp at hxl
  | cons y ys =>
   have h0:=hx 0 f rfl
   simp only [List.getElem?_cons_zero] at h0
   rw [b1,b2] at h0
   simp only [RT.sizeL] at hl
   obtain⟨az,a1,a2⟩:=open_rt r f.type n _ y b3 h0 fun k hk=>hw k (by
    simp only [List.map_cons,DataW.weightsEach,List.mem_append]
    exact .inl hk)
   obtain⟨bs,c1,c2⟩:=open_rts rs fl (o + r.size) n cs ys b4 (fun i g hi=>by simpa using hx (i + 1) g (by simpa using hi)) (by simpa using hxl) (by omega) (fun k hk=>hw k (by
    simp only [List.map_cons,DataW.weightsEach,List.mem_append]
    exact .inr hk))
   refine⟨az++bs,⟨az,bs,rfl,a1,c1⟩,?_⟩
   have:=a2.append c2
   have hd:(cs.drop o).take r.size++cs.drop (o + r.size)=cs.drop o:=by
    rw [← List.drop_drop]
    exact List.take_append_drop _ _
   rw [hd] at this
   exact this
end
end
end Go.Proofs.YtapciiffpnociabGreatDoor
namespace Go.Proofs.YtapciiffpnociabGreatDoor
open Go Go.RowKit Go.ChangeShapes Go.WideShapes
def RT.arg:RT→List D→SV
 | .struct _,xs=>.agg (xs.map .d)
 | _,[x]=>.d x
 | _,_=>.junk
def ArgsDR (R:Nat):List RT→List SV→Prop
 | [],az=>az=[]
 | r::rs,az=>∃ xs l,az=r.arg xs::l∧TyDR R r xs∧ArgsDR R rs l
def rtsB (P:Program):List RT→List TypeId→Bool
 | [],[]=>true
 | r::rs,t::ts=>rtB P r t && rtsB P rs ts
 | _,_=>false
section
variable {H : Type} {enc : TypeId × Value → H} {P : Program} {R : Nat}
theorem repL_agg {W:World} {e:Env}:∀ (cs:List Value) (xs:List D),RepL W cs xs→RelL (fun _=>False) e W (xs.map .d) cs
 | [],[],_=>trivial
 | [],_::_,h=>by have:=h.1;simp at this
 | _::_,[],h=>by have:=h.1;simp at this
 | c::cs,x::xs,h=>by
  obtain⟨h1,h2⟩:=h
  refine⟨?_,repL_agg cs xs ⟨by simpa using h1,fun j u hj=>by simpa using h2 (j + 1) u (by simpa using hj)⟩⟩
  obtain⟨y,hy,hr⟩:=h2 0 c rfl
  simp at hy
  subst hy
  exact hr
theorem repL_one {W:World} {e:Env} {v:Value} {x:D} (h:RepL W [v] [x]):Rel (fun _=>False) e W (.d x) v:=by
 obtain⟨y,hy,hr⟩:=h.2 0 v rfl
 simp at hy
 subst hy
 exact hr
theorem rtB_bool {t:TypeId} (h:rtB P .bool t=true):P.underlying t=some .bool:=by
 unfold rtB at h;split at h <;> first|assumption|cases h
theorem rtB_str {t:TypeId} (h:rtB P .str t=true):P.underlying t=some .string:=by
 unfold rtB at h;split at h <;> first|assumption|cases h
theorem rtB_int {t:TypeId} {k:IntKind} (h:rtB P (.int k) t=true):P.underlying t=some (.int k):=by
 unfold rtB at h
 split at h
 ·rename_i k' hk;rw [hk,sameK_spec h]
 ·cases h
theorem rtB_slice {t:TypeId} {c b:Nat} {e:RT} (h:rtB P (.slice c b e) t=true):∃ te,P.underlying t=some (.slice te):=by
 unfold rtB at h
 split at h
 ·rename_i te ht;exact⟨te,ht⟩
 ·cases h
theorem rtB_struct {t:TypeId} {fs:List RT} (h:rtB P (.struct fs) t=true):∃ fl,P.underlying t=some (.struct fl):=by
 unfold rtB at h
 split at h
 ·rename_i te ht;exact⟨te,ht⟩
 ·cases h
theorem arg_open {W:World} {e:Env} {base:Nat}:∀ (r:RT) (t:TypeId) (v:Value) (d:DataW H) (ps:List MemPlace),rtB P r t=true→DataW.Trod enc P W 0 (fun _=>true) true t v d ps→Value.okWide P W .any base t v →
  (∀ n∈d.weights P t,n≤R)→∃ xs,TyDR R r xs∧Rel (fun _=>False) e W (r.arg xs) v:=by
 intro r t v d ps hb ⟨fuel,hd⟩ hok hw
 obtain⟨xs,h1,h2⟩:=open_rt r t fuel v.cells.toList (d,ps) hb hd hw
 refine⟨xs,h1,?_⟩
 cases r with
 | bool =>
  obtain⟨b,rfl⟩:=okWide_bool (rtB_bool hb) hok
  obtain⟨b',rfl⟩:=h1
  exact repL_one h2
 | int k =>
  obtain⟨b,rfl⟩:=okWide_int (rtB_int hb) hok
  obtain⟨b',_,rfl⟩:=h1
  exact repL_one h2
 | str =>
  obtain⟨b,rfl⟩:=okWide_string (rtB_str hb) hok
  obtain⟨b',_,rfl⟩:=h1
  exact repL_one h2
 | slice c b el =>
  obtain⟨te,ht⟩:=rtB_slice hb
  obtain⟨a,n,cap,rfl⟩:=okWide_slice ht hok
  obtain⟨l,_,_,rfl,_⟩:=h1
  exact repL_one h2
 | struct fs =>
  obtain⟨fl,ht⟩:=rtB_struct hb
  obtain⟨cs,rfl,_⟩:=okWide_struct ht hok
  exact⟨cs.toList,by simp,repL_agg _ _ h2⟩
theorem args_open {W:World} {e:Env} {base:Nat}:∀ (rs:List RT) (ts:List TypeId) (vs:List Value) (ds:List (DataW H)) (ps:List MemPlace),rtsB P rs ts=true→DataW.TrodAll enc P W 0 (fun _=>true) true ts vs ds ps →
  (∀ (j:Nat) t v,ts[j]? = some t→vs[j]? = some v→Value.okWide P W .any base t v)→(∀ n∈DataW.weightsEach P ts ds,n≤R)→∃ az,ArgsDR R rs az∧RelL (fun _=>False) e W az vs
 | [],[],vs,ds,ps,_,h,_,_=>by
  obtain⟨rfl,rfl,rfl⟩:=trodAll_nil h
  exact⟨[],rfl,trivial⟩
 | [],_::_,_,_,_,hb,_,_,_=>by simp [rtsB] at hb
 | _::_,[],_,_,_,hb,_,_,_=>by simp [rtsB] at hb
 | r::rs,t::ts,vs,ds,ps,hb,h,hok,hw=>by
  obtain⟨v,vs',d,ds',p,q,rfl,rfl,rfl,h1,h2⟩:=trodAll_cons h
  simp only [rtsB,Bool.and_eq_true] at hb
  simp only [DataW.weightsEach,List.mem_append] at hw
  obtain⟨xs,g1,g2⟩:=arg_open (e:=e) r t v d p hb.1 h1 (hok 0 t v rfl rfl) fun n hn=>hw n (.inl hn)
  obtain⟨az,g3,g4⟩:=args_open (e:=e) rs ts vs' ds' q hb.2 h2 (fun j t v ht hv=>hok (j + 1) t v (by simpa using ht) (by simpa using hv)) fun n hn=>hw n (.inr hn)
  exact⟨r.arg xs::az,⟨xs,az,rfl,g1,g3⟩,g2,g4⟩
def readB (P:Program) (ts:List TypeId):Bool:=ts.all fun t=>P.readableRec t && Nat.blt t P.types.size
theorem args_again {W W':World} {spare:Nat→Bool} (hl:laidOutB P=true) (hb:Below W.heap.size W W'):∀ (ts:List TypeId) (vs:List Value) (ds:List (DataW H)) (ps:List MemPlace),readB P ts=true →
  DataW.TrodAll enc P W 0 (fun _=>true) true ts vs ds ps→(∀ p∈ps,p.block < W.heap.size)→(∀ p∈ps,spare p.block=true)→DataW.TrodAll enc P W' 0 spare true ts vs ds ps
 | [],vs,ds,ps,_,h,_,_=>by
  obtain⟨rfl,rfl,rfl⟩:=trodAll_nil h
  rfl
 | t::ts,vs,ds,ps,hr,h,hlt,hsp=>by
  obtain⟨v,vs',d,ds',p,q,rfl,rfl,rfl,h1,h2⟩:=trodAll_cons h
  simp only [readB,List.all_cons,Bool.and_eq_true] at hr
  refine⟨p,q,?_,args_again hl hb ts vs' ds' q (by simpa [readB] using hr.2) h2 (fun x hx=>hlt x (List.mem_append_right _ hx)) (fun x hx=>hsp x (List.mem_append_right _ hx)),rfl⟩
  exact WideElems.Trod_stays hl hr.1.1 (Nat.le_of_ble_eq_true hr.1.2) h1 (fun x hx=>hb.same (hlt x (List.mem_append_left _ hx))) fun x hx=>hsp x (List.mem_append_left _ hx)
theorem law_post {f:Func} {s:ChangeSpec} {apart fresh handsOn:Bool} {W W':World} {args:Array Value} {ds gs:List (DataW H)} {before:List MemPlace} {tb:TypeId}
  (hv:s.vars=[]) (hW:DataW.Whole enc P f.params.toList s.vars apart W args.toList ds gs before) (hfn:gs=[]→s.fn H (ds++gs) = { results:=[.lit (.bool true)],args:=ds })
  (hres:f.resultTypes = #[tb]) (htb:P.underlying tb=some .bool) (hl:laidOutB P=true) (hr:readB P f.params.toList=true) (hb:Below W.heap.size W W') :
  s.post enc P f apart fresh handsOn false W args (.bool true) W':=by
 have hW0:=hW
 have hlt:=fun p hp=>hW.lt p hp
 obtain⟨p,q,hA,hV,rfl,hfz,hnd⟩:=hW
 rw [hv] at hV
 obtain⟨rfl,rfl⟩:=trodVars_none hV
 have hfn:=hfn rfl
 refine⟨ds,[],p++[],[],p,[],hW0,?_,?_,?_,hb.frame _,fun h=>by cases h⟩
 ·rw [hres,hfn]
  exact trodAll_mk1 (shut_bool htb true)
 ·rw [hfn]
  exact args_again hl hb _ _ _ _ hr hA (fun x hx=>hlt x (List.mem_append_left _ hx)) fun x hx=>by simpa using hlt x (List.mem_append_left _ hx)
 ·rw [hv,hfn]
  rfl
theorem ctxX_nil {τ τok} {e:Env} {W:World} {n J β0}:∀ b,Ctx.X ⟨P,τ,τok,fun _=>False,W,fun b=>b∈ownedL e [],n,J,β0,none,noPan,true,false⟩ e [] b→False:=by
 rintro b (h|h)
 ·exact h
 ·simp [ownedL] at h
def TabW (P:Program) (W:World):Prop:=Tabs P (fun _=>False) W
theorem TabW.none {P : Program} {W : World} (h : P.globalNamed "internal/strconv.uint64pow10" = none) : TabW P W := fun g hg => by rw [h] at hg; cases hg
theorem law_calls {τ:List (Nat × TI)} {τok:TabOk P τ} {f:FuncId} {rs:List RT} {ts:List TypeId} {args:Array Value} {ds:List (DataW H)} {ps:List MemPlace} {W:World} {base:Nat}
  (hc:∀ az,ArgsDR R rs az→FnP false P τ τok f az (fun r=>r = .d (.bool true))) (hb:rtsB P rs ts=true) (hA:DataW.TrodAll enc P W 0 (fun _=>true) true ts args.toList ds ps)
  (hok:∀ (j:Nat) t v,ts[j]? = some t→args.toList[j]? = some v→Value.okWide P W .any base t v) (hw:∀ n∈DataW.weightsEach P ts ds,n≤R) (hT:TabW P W) :
  Calls P f args W fun en W'=>en = .returned (.bool true)∧Below W.heap.size W W':=by
 let e:Env:=⟨fun _=>0,fun _=>undef,lo 0⟩
 obtain⟨az,h1,h2⟩:=args_open (e:=e) rs ts args.toList ds ps hb hA hok hw
 have hk:=(hc az h1).2 (fun _=>False) e W args.toList ?_ ?_
 ·rw [Array.toArray_toList] at hk
  refine Calls.mono hk ?_
  rintro en W' ⟨k',r,H',e',v,⟨rfl,_,rfl⟩,rfl,hH,hr⟩
  have hr':RepC _ W' v (.bool true):=hr
  cases hr'
  exact⟨rfl,⟨hH.os,hH.tape,hH.output,hH.size,fun b hb=>hH.block b hb (by simp [ownedL])⟩⟩
 ·exact { top:=fun _=>Iff.rfl,heap:=(fun p hp=>nomatch hp),ids:=.nil,nodup:=.nil,mine:=(fun b hb=>nomatch hb),os:=rfl,tape:=rfl,output:=rfl,drawn:=(fun _=>Nat.le_refl _),size:=Nat.le_refl _,block:=(fun _ _ _=>rfl),obound:=(fun _ h=>h.elim),tabs:=hT.sub (by simp [ownedL]),jle:=(fun _ h=>nomatch h),anchor:=(fun _ h=>nomatch h) }
 ·exact RelL.keep (Nat.le_refl _) (fun _ _ _=>rfl) (fun b _ hy=>ctxX_nil b hy) _ _ h2
end
open Go Go.RowKit
theorem list_of {α:Type} {e:RT} {enc:α→List D} (h:∀ x,TyD e x→∃ t,x=enc t):∀ (l:List (List D)),(∀ x∈l,TyD e x)→∃ ts:List α,l=ts.map enc
 | [],_=>⟨[],rfl⟩
 | x::l,hl=>by
  obtain⟨t,rfl⟩:=h x (hl x (List.mem_cons_self ..))
  obtain⟨ts,rfl⟩:=list_of h l fun y hy=>hl y (List.mem_cons_of_mem _ hy)
  exact⟨t::ts,rfl⟩
abbrev rtTTm:RT:=.struct [.str,.int .i64]
abbrev rtTLt:RT:=.struct [.int .i64,.int .i64,.int .i64,.str,.slice 2 24 rtTTm]
abbrev rtTRu:RT:=.struct [.int .i64,.str,.slice 2 24 rtTTm,.int .i64,.slice 5 64 rtTLt]
abbrev rtTree:RT:=.struct [.slice 5 80 rtTRu]
theorem sliceT {α:Type} {c b:Nat} {e:RT} {enc:α→List D} (h:∀ x,TyD e x→∃ t,x=enc t) (x:List D) (hx:TyD (.slice c b e) x):∃ ts:List α,x=[.slice c (ts.map enc)]:=by
 obtain⟨l,_,_,rfl,h3⟩:=hx
 obtain⟨ts,rfl⟩:=list_of h l h3
 exact⟨ts,rfl⟩
theorem ttm_of (x:List D) (h:TyD rtTTm x):∃ t,x=encTTm t:=by
 obtain⟨a,b,rfl,⟨k,_,rfl⟩,c,d,rfl,⟨p,_,rfl⟩,rfl⟩:=h
 exact⟨⟨k,p⟩,rfl⟩
theorem tlt_of (x:List D) (h:TyD rtTLt x):∃ t,x=encTLt t:=by
 obtain⟨a,b,rfl,⟨k,_,rfl⟩,c,d,rfl,⟨p,_,rfl⟩,e,f,rfl,⟨q,_,rfl⟩,u,v,rfl,⟨n,_,rfl⟩,g,i,rfl,h4,rfl⟩:=h
 obtain⟨l,rfl⟩:=sliceT ttm_of g h4
 exact⟨⟨k,p,q,n,l⟩,rfl⟩
theorem tru_of (x:List D) (h:TyD rtTRu x):∃ t,x=encTRu t:=by
 obtain⟨a,b,rfl,⟨k,_,rfl⟩,c,d,rfl,⟨p,_,rfl⟩,e,f,rfl,h3,u,v,rfl,⟨n,_,rfl⟩,g,i,rfl,h4,rfl⟩:=h
 obtain⟨l,rfl⟩:=sliceT ttm_of e h3
 obtain⟨m,rfl⟩:=sliceT tlt_of g h4
 exact⟨⟨k,p,l,n,m⟩,rfl⟩
theorem tree_arg (x:List D) (h:TyD rtTree x):∃ rs:List TRu,RT.arg rtTree x = .agg [.d (.slice 5 (rs.map encTRu))]:=by
 obtain⟨c,d,rfl,h2,rfl⟩:=h
 obtain⟨l,rfl⟩:=sliceT tru_of c h2
 exact⟨l,rfl⟩
end Go.Proofs.YtapciiffpnociabGreatDoor
namespace Go.Proofs.YtapciiffpnociabGreatDoor
open Go Go.RowKit Go.ChangeShapes Go.WideShapes
section
variable {H : Type} {enc : TypeId × Value → H} {R : Nat}
theorem law_lifted_row {C:Checked} {τ:List (Nat × TI)} {τok:TabOk C.prog τ} {os:Os} (started:os.Started) {f:FuncId} {fn:Func} {s:OpenSpec} {F:Stop.Interp} {conds:List PathCond} {apart fresh handsOn:Bool} {laid:List (String × DataW Unit)} {rs:List RT} {tb:TypeId}
  (own:ownKnob C.prog.godebug=none) (noInit:C.prog.inits.idxOf? f=none) (hfn:C.prog.funcs[f]? = some fn)
  (witness:∃ (w:World) (tape:Tape) (i:Input),w.os=os∧(w.forCall tape i).Shaped C.prog∧i.vars=[]∧Input.okWide C.prog (w.forCall tape i) .any w.heap.size f i ∧
   s.preRow enc C.prog fn conds apart laid (w.forCall tape i).memory i.args∧({}:Assume).holds C.prog (lone (Frame.enter C.prog f i.args .normal) [] (w.forCall tape i)))
  (hv:s.vars=[]) (hva:(s.at F).vars=[]) (hvt:s.bare.plain.varTypes C.prog=[]) (hs:∀ (ds:List (DataW H)),ds.length=fn.params.toList.length→(s.at F).fn H ds = { results:=[.lit (.bool true)],args:=ds })
  (hres:fn.resultTypes = #[tb]) (htb:C.prog.underlying tb=some .bool) (hl:laidOutB C.prog=true) (hr:readB C.prog fn.params.toList=true) (hb:rtsB C.prog rs fn.params.toList=true)
  (hkR:∀ ds:List (DataW H),(∀ k,s.cond=some k→k H ds=true)→(∀ n∈DataW.weightsEach C.prog fn.params.toList ds,n≤reachBytes)→∀ n∈DataW.weightsEach C.prog fn.params.toList ds,n≤R)
  (hc:∀ az,ArgsDR R rs az→FnP false C.prog τ τok f az (fun r=>r = .d (.bool true))) (hT:∀ W,laidMetH C.prog laid W→TabW C.prog W) :
  ReturnsInHanded {} C os f .any (s.preRow enc C.prog fn conds apart laid) ((s.at F).post enc C.prog fn apart fresh handsOn false):=by
 refine returnsInHanded_of_row own started noInit hfn witness ?_
 intro W base args ds gs before hval hW _ hkk hwt hld _ _
 obtain⟨p,q,hA,hV,hpq,hfz,hnd⟩:=id hW
 rw [hv] at hV
 obtain⟨rfl,rfl⟩:=trodVars_none hV
 rw [hvt,List.append_nil,List.append_nil] at hwt
 simp only [List.append_nil] at hkk
 have hlen:∀ (ts:List TypeId) (vs:List Value) (ds:List (DataW H)) (ps:List MemPlace),DataW.TrodAll enc C.prog W 0 (fun _=>true) true ts vs ds ps→ds.length=ts.length:=by
  intro ts
  induction ts with
  | nil=>intro vs ds ps h;obtain⟨rfl,rfl,rfl⟩:=trodAll_nil h;rfl
  | cons t ts ih =>
   intro vs ds ps h
   obtain⟨v,vs',d,ds',p,q,rfl,rfl,rfl,h1,h2⟩:=trodAll_cons h
   simp [ih _ _ _ h2]
 refine (law_calls hc hb hA (fun j t v ht hv=>hval j t v (by simpa using ht) (by simpa using hv)) (hkR ds hkk fun n hn=>by simpa using List.all_eq_true.1 hwt n hn) (hT W hld)).mono ?_
 rintro en W' ⟨rfl,hbl⟩
 rw [hv] at hW
 exact⟨_,rfl,law_post hva (by rw [hva];exact hW) (fun _=>by rw [List.append_nil];exact hs ds (hlen _ _ _ _ hA)) hres htb hl hr hbl⟩
theorem laid_tail {P:Program} {x:String × DataW Unit} {rest:List (String × DataW Unit)} {W:World} (h:laidMet P (x::rest) W):laidMet P rest W:=by
 obtain⟨ps,⟨g,t,cs,fuel,p,q,_,_,_,_,hr,rfl⟩,hn,hf⟩:=h
 exact⟨q,hr,(List.nodup_append.1 hn).2.1,fun b off hb=>hf b off (List.mem_append_right _ hb)⟩
theorem tabW_of {P : Program} {W : World} (h : Lib.TabIs P W "internal/strconv.uint64pow10" .u64 Lib.pow10Tab) : TabW P W := fun g hg => by
 unfold Lib.TabIs World.var? at h
 rw [hg] at h
 simp only [Option.bind_some] at h
 refine⟨fun h=>h,?_⟩
 split at h
 ·rename_i cs a b hh
  have hcs:cs=_:=Option.some.inj h
  refine⟨a,b,?_⟩
  rw [hh,hcs]
  rfl
 ·cases h
end
end Go.Proofs.YtapciiffpnociabGreatDoor
