/- Several texts in one: TrePo ScrH WirA WirB WirC GxNil StrA StrB. Condition: none. -/
import Derived.Test.YtapciiffpnociacGreatDoorS17
import Derived.Test.YtapciiffpnociacGreatDoorS16
import Derived.Test.YtapciiffpnociacGreatDoorS15
import Derived.Test.YtapciiffpnociacGreatDoorS09
import Derived.Test.YtapciiffpnociacGreatDoorS14
import Derived.Test.YtapciiffpnociacGreatDoorS08
import Derived.Lib.SliceRun
namespace Go.Proofs.YtapciiffpnociacGreatDoor
open Go Go.RowKit
theorem terms_fold {l:List Tok} {i j:Nat} {head:Bool} {x:List TTm × Int} (h:termsT l i head = .ok (x,j)):0≤x.2:=by
 have f0:∀ k,0≤foldT l head k 0:=fun k=>by
  cases head with
  | false=>exact Int.le_refl _
  | true=>rw [foldS_is];exact (foldS_low _ _).1
 have go:∀ (n i:Nat) (acc:List TTm) {x:List TTm × Int} {j:Nat},termsGo l head n i acc = .ok (x,j)→0≤x.2:=by
  intro n
  induction n with
  | zero=>intro i acc x j h;cases h
  | succ n ih =>
   intro i acc x j h
   rw [termsGo_succ] at h
   split at h
   ·cases h
   ·split at h
    ·split at h
     ·injection h with h;injection h with h _;rw [← h];exact f0 i
     ·cases h
    ·exact ih _ _ h
 unfold termsT at h
 split at h
 ·split at h
  ·injection h with h;injection h with h _;rw [← h];exact Int.le_refl _
  ·exact go _ _ _ h
 ·cases h
theorem litT_err {l:List Tok} {e:Int} {i k:Nat} (hi:i≤l.length) (h:litT l e i = .error k):k≤l.length:=by
 unfold litT at h
 split at h
 ·rename_i hn
  have:=seesT_lt hn
  split at h
  ·rename_i k' h1;injection h with h;subst h;exact nameT_err (by omega) h1
  ·rename_i s k' h1
   have:=(nameT_lt h1).2
   split at h
   ·rename_i m h2;injection h with h;subst h;exact termsT_err this h2
   ·cases h
 ·split at h
  ·split at h
   ·rename_i k' h1
    injection h with h;subst h
    unfold testT at h1
    split at h1
    ·rename_i q h2;injection h1 with h1;subst h1;exact termT_err hi h2
    ·rename_i a q h2
     have hq:=(termT_lt h2).2
     split at h1
     ·injection h1 with h1;omega
     ·rename_i hz
      have hql:q < l.length:=by
       refine Classical.byContradiction fun hn=>hz ?_
       have:textT l q false=⟨#[]⟩:=by unfold textT;rw [List.getElem?_eq_none (by omega)]
       rw [foldO_is,this,foldO_none]
      split at h1
      ·rename_i m h3;injection h1 with h1;subst h1;exact termT_err hql h3
      ·rename_i b m h3
       have hm:=(termT_lt h3).2
       split at h1
       ·cases h1
       ·split at h1
        ·rename_i h5
         have:=seesT_lt h5
         split at h1
         ·rename_i r h4;injection h1 with h1;subst h1;exact termT_err this h4
         ·cases h1
        ·injection h1 with h1;omega
   ·cases h
  ·split at h
   ·rename_i k' h1;injection h with h;subst h;exact nameT_err hi h1
   ·rename_i s k' h1
    have:=(nameT_lt h1).2
    split at h
    ·rename_i m h2;injection h with h;subst h;exact termsT_err this h2
    ·cases h
theorem lit_le {l:List Tok} {e:Int} {i k:Nat} {t:TLt} {f g:Bool} (hi:i≤l.length) (h:rdIs (rdP f i (litT l e i)) t k g):k≤l.length:=rdIs_lt hi (fun _ _ h=>(litT_lt h).2) (fun _ h=>litT_err hi h) h
theorem rule_dot {l:List Tok} {e:Int} {i k m:Nat} {s:ByteArray} {x:List TTm × Int} {g g2:Bool} (h1:rdIs (rdP false i (nameT l i)) s k g) (h2:rdIs (rdP g k (termsT l k true)) x m g2) (hx:x.2=0) (hd:textT l m g2=⟨#[46]⟩) {m5:Nat} {g5:Bool}
  (h5:rdIs (rdP g2 m (if seesT l m ⟨#[46]⟩=true then .ok ((),m + 1) else .error m)) () m5 g5):rdIs (ruleT l e i) (⟨hereT l e i,s,x.1,x.2,[]⟩:TRu) m5 g5:=by
 obtain⟨rfl,hs⟩:=(text_is (by decide)).1 hd
 cases g with
 | true=>exact absurd (rdIs_true h2).1 (by decide)
 | false =>
  obtain⟨ts,f⟩:=x
  have hx:f=0:=hx
  subst hx
  unfold ruleT
  rw [show nameT l i = .ok (s,k) from h1]
  dsimp only
  rw [show termsT l k true = .ok ((ts,0),m) from h2]
  dsimp only
  have h5:rdIs (if seesT l m ⟨#[46]⟩=true then .ok ((),m + 1) else .error m:PR Unit) () m5 g5:=h5
  rw [if_pos hs] at h5
  rw [if_pos ⟨rfl,hs⟩]
  cases g5 with
  | true=>cases h5
  | false =>
   injection (show Except.ok ((),m + 1)=Except.ok ((),m5) from h5) with h
   injection h with _ h
   subst h
   rfl
theorem rule_body {l:List Tok} {e:Int} {i k m m3 m4 m5:Nat} {s:ByteArray} {x:List TTm × Int} {b:List TLt} {g g2 g3 g4 g5:Bool} (h1:rdIs (rdP false i (nameT l i)) s k g) (h2:rdIs (rdP g k (termsT l k true)) x m g2) (hx:¬ (¬ 0 < x.2∧textT l m g2=⟨#[46]⟩))
  (h3:rdIs (rdP g2 m (if seesT l m ⟨#[58,45]⟩=true then .ok ((),m + 1) else .error m)) () m3 g3) (h4:rdIs (rdP g3 m3 (litsGo l e (l.length + 1) m3 [])) b m4 g4)
  (h5:rdIs (rdP g4 m4 (if seesT l m4 ⟨#[46]⟩=true then .ok ((),m4 + 1) else .error m4)) () m5 g5):rdIs (ruleT l e i) (⟨hereT l e i,s,x.1,x.2,b⟩:TRu) m5 g5:=by
 obtain⟨ts,f⟩:=x
 unfold ruleT
 cases g with
 | true =>
  obtain⟨rfl,rfl⟩:=rdIs_true h2
  obtain⟨rfl,rfl⟩:=rdIs_true h3
  obtain⟨rfl,rfl⟩:=rdIs_true h4
  obtain⟨rfl,rfl⟩:=rdIs_true h5
  rw [show nameT l i = .error m5 from h1]
  rfl
 | false =>
  rw [show nameT l i = .ok (s,k) from h1]
  dsimp only
  cases g2 with
  | true =>
   obtain⟨rfl,rfl⟩:=rdIs_true h3
   obtain⟨rfl,rfl⟩:=rdIs_true h4
   obtain⟨rfl,rfl⟩:=rdIs_true h5
   rw [show termsT l k true = .error m5 from h2]
   rfl
  | false =>
   have hf:=terms_fold (show termsT l k true = .ok ((ts,f),m) from h2)
   rw [show termsT l k true = .ok ((ts,f),m) from h2]
   dsimp only at hf hx ⊢
   rw [if_neg (show ¬(f=0∧seesT l m ⟨#[46]⟩=true) from fun h=>hx ⟨by omega,(text_is (by decide)).2 ⟨rfl,h.2⟩⟩)]
   have h3:rdIs (if seesT l m ⟨#[58,45]⟩=true then .ok ((),m + 1) else .error m:PR Unit) () m3 g3:=h3
   by_cases hs:seesT l m ⟨#[58,45]⟩=true
   ·rw [if_pos hs] at h3
    rw [if_pos hs]
    cases g3 with
    | true=>cases h3
    | false =>
     injection (show Except.ok ((),m + 1)=Except.ok ((),m3) from h3) with h
     injection h with _ h
     subst h
     cases g4 with
     | true =>
      obtain⟨rfl,rfl⟩:=rdIs_true h5
      rw [show litsGo l e (l.length + 1) (m + 1) [] = .error m5 from h4]
      rfl
     | false =>
      rw [show litsGo l e (l.length + 1) (m + 1) [] = .ok (b,m4) from h4]
      dsimp only
      have h5:rdIs (if seesT l m4 ⟨#[46]⟩=true then .ok ((),m4 + 1) else .error m4:PR Unit) () m5 g5:=h5
      by_cases hp:seesT l m4 ⟨#[46]⟩=true
      ·rw [if_pos hp] at h5
       rw [if_pos hp]
       cases g5 with
       | true=>cases h5
       | false =>
        injection (show Except.ok ((),m4 + 1)=Except.ok ((),m5) from h5) with h
        injection h with _ h
        subst h
        rfl
      ·rw [if_neg hp] at h5
       rw [if_neg hp]
       cases g5 with
       | false=>cases h5
       | true =>
        injection (show Except.error m4=Except.error m5 from h5) with h
        subst h
        rfl
   ·rw [if_neg hs] at h3
    rw [if_neg hs]
    cases g3 with
    | false=>cases h3
    | true =>
     injection (show Except.error m=Except.error m3 from h3) with h
     subst h
     obtain⟨rfl,rfl⟩:=rdIs_true h4
     obtain⟨rfl,rfl⟩:=rdIs_true h5
     rfl
def lsInv (l:List Tok) (e:Int) (p:PR (List TLt)) (m:Nat) (b:List TLt) (more fl:Bool) (n:Nat):Prop:=m≤l.length∧match fl,more with
 | true,_=>p = .error m
 | false,true=>p=litsGo l e n m b∧l.length < n + m∧b.length≤m
 | false,false=>p = .ok (b,m)
def rsInv (l:List Tok) (e:Int) (j:Nat) (acc:List TRu) (fl:Bool) (n:Nat):Prop:=j≤l.length∧match fl with
 | true=>rulesGo l e (l.length + 1) 0 [] = .error j
 | false=>rulesGo l e (l.length + 1) 0 []=rulesGo l e n j acc∧l.length < n + j∧acc.length≤j
def rsM:Bool→Nat→Nat
 | true,_=>0
 | false,n=>n + 1
attribute [local irreducible] DW DS DL DQ Ev FnOk FnP FnOkE thenD inBlockD
abbrev ruB (at_:Int) (s:ByteArray) (ts:List TTm) (f:Int) (body:SV):HB:=.blk 59 [.d (.int .i64 at_),.d (.str s),.d (.slice 2 (ts.map encTTm)),.d (.int .i64 f),body]
set_option maxHeartbeats 8000000 in
theorem parseOf_fn (s:ByteArray):Fn 20 [.d (.str s)] (fun r=>r=encParse (parseS s)):=by
 refine fnp_enter' _ Tryz.func20 rfl rfl (by kernel_rfl) ?_
 intro O w0 E0 β0
 have w1:=scanOf_fn s
 unfold encScan at w1
 obtain⟨⟨l,p,er⟩,hq⟩:∃ q,q=scanS s:=⟨_,rfl⟩
 unfold parseS
 rw [← hq] at w1 ⊢
 dsimp only at w1 ⊢
 unfold encParse
 by_cases he:er=0
 ·subst he
  obtain⟨hc,hs,hp⟩:=scanS_chain s l p hq.symm
  have hok:=scanS_all hq.symm
  have hlen:=chain_lenT l 0 hc (Nat.zero_le _)
  obtain⟨e,hee⟩:∃ e:Int,e=s.size:=⟨_,rfl⟩
  rw [if_neg (by simp)]
  rw [← hee]
  repeat' (first|refine z0 ?_|apply ds_nil|apply dw_seq2|refine z16 ?_|apply dw_block|apply dw_skip|refine z19 ?_|apply thenD_n|refine z21 ?_ (hc:=by apply w1)|refine z1 ?_|refine z3 ?_|fail)
  all_goals try (exfalso;omega)
  refine dw_ent (ent_cellrow 2 0 59 5 rfl rfl rfl) ?_
  have htot:∀ j,(Lit.int .i64 (hereT l e j)).wf=true:=fun j=>by
   have hat:=chain_atT l 0 hc
   unfold hereT
   by_cases hj:j < l.length
   ·rw [List.getElem?_eq_getElem hj]
    have:=hat _ (List.getElem_mem hj)
    exact i64_wf (by dsimp only;omega) (by dsimp only;omega)
   ·rw [List.getElem?_eq_none (by omega)]
    exact i64_wf (by dsimp only;omega) (by dsimp only;omega)
  refine ds_loop (ι:=Nat × List TRu × Bool × Nat) (fun x=>⟨4,[(2,.loc 1 0),(3,.d (.int .i64 0)),(4,.d (.int .i64 0)),(5,.d (.slice 3 (l.map encTok))),(8,.loc 0 0),(9,.loc 2 0)],[(0,rdB l x.1 e x.2.2.1),(1,.blk 36 [.nils]),(2,.blk 36 [.row 3]),(3,.row 59 5 (x.2.1.map encTRu))]⟩)
   (fun x=>rsInv l e x.1 x.2.1 x.2.2.1 x.2.2.2) (fun x=>rsM x.2.2.1 x.2.2.2) (0,[],false,l.length + 1) ⟨Nat.zero_le _,rfl,Nat.lt_succ_self _,Nat.le_refl _⟩
   (ent_ren (fun x=>match x with|0=>1|1=>0|x=>x) ⟨rfl,rfl,rfl,rfl,rfl,rfl,trivial⟩ ⟨by rw [hee];rfl,rfl,rfl,rfl,trivial⟩ rfl rfl rfl rfl rfl rfl) ?_
  clear w1 hq hc
  rintro⟨j,acc,fl,n⟩ ⟨hj,hinv⟩
  dsimp only at hj hinv ⊢
  have ll:(l.map encTok).length=l.length:=List.length_map _
  cases fl with
  | true =>
   have hinv:rulesGo l e (l.length + 1) 0 [] = .error j:=hinv
   rw [hinv]
   dsimp only
   have w2:=rhere_fn l j e true
   repeat' (first|refine z0 ?_|refine z12 ?_|apply ds_nil|apply dw_seq2|refine z16 ?_|apply dw_exit|refine z18 ?_|refine z19 ?_|apply thenD_n|apply thenD_e|refine z17 ?_|fail)
   all_goals try (exfalso;omega)
   (refine ds_callF id (w2) rfl rfl rfl rfl ⟨rfl,trivial⟩ rfl rfl rfl rfl rfl rfl ?_ ?_)
   ·rintro k2 res H2 ⟨rfl,rfl,rfl⟩;exact⟨rfl,rfl⟩
   rintro k2 res H2 ⟨rfl,rfl,rfl⟩
   change DS _ _ _ _ _ _ _ _
   clear w2
   repeat' (first|refine z0 ?_|apply ds_nil|apply thenD_n|refine z3 ?_|fail)
   refine dw_ent (ent_cellnil 1 0 5 rfl rfl rfl) ?_
   repeat' (first|apply dw_ret|apply thenD_r)
   exact⟨.inl rfl,_,rfl,rfl,rfl⟩
  | false =>
   obtain⟨hgo,hn,ha⟩:rulesGo l e (l.length + 1) 0 []=rulesGo l e n j acc∧l.length < n + j∧acc.length≤j:=hinv
   obtain⟨n,rfl⟩:∃ m,n=m + 1:=⟨n - 1,by omega⟩
   rw [rulesGo_succ l e n j acc] at hgo
   by_cases hjl:j < l.length
   ·rw [if_pos hjl] at hgo
    have w2:=rhere_fn l j e false
    have w3:=rname_out l j e false (by omega)
    repeat' (first|refine z0 ?_|apply ds_nil|apply dw_seq2|refine z16 ?_|apply dw_block|apply dw_skip|apply dw_exit|refine z19 ?_|apply thenD_n|apply thenD_e|refine z17 ?_|(refine z23 ?_ ?_ <;> intro hg)|fail)
    all_goals try (exfalso;omega)
    (refine ds_callF id (w2) rfl rfl rfl rfl ⟨rfl,trivial⟩ rfl rfl rfl rfl rfl rfl ?_ ?_)
    ·rintro k2 res H2 ⟨rfl,rfl,rfl⟩;exact⟨rfl,rfl⟩
    rintro k2 res H2 ⟨rfl,rfl,rfl⟩
    change DS _ _ _ _ _ _ _ _
    clear w2
    repeat' (first|refine z0 ?_|apply ds_nil|apply dw_seq2|refine z16 ?_|apply thenD_n|refine z1 ?_|refine z3 ?_|fail)
    (refine ds_callF id (w3) rfl rfl rfl rfl ⟨rfl,trivial⟩ rfl rfl rfl rfl rfl rfl ?_ ?_)
    ·rintro k2 res H2 ⟨rfl,s1,k,g,rfl,rfl,_⟩;exact⟨rfl,rfl⟩
    rintro k2 res H2 ⟨rfl,s1,k,g,rfl,rfl,h1⟩
    change DS _ _ _ _ _ _ _ _
    clear w3
    have hk:=name_le hj h1
    have w4:=rterms_out l k e g true hk (by omega) hok
    repeat' (first|refine z0 ?_|apply ds_nil|apply dw_seq2|refine z16 ?_|apply thenD_n|refine z3 ?_|fail)
    (refine ds_callF id (w4) rfl rfl rfl rfl ⟨rfl,trivial⟩ rfl rfl rfl rfl rfl rfl ?_ ?_)
    ·rintro k2 res H2 ⟨rfl,x,m,g2,rfl,rfl,_⟩;exact⟨rfl,rfl⟩
    rintro k2 res H2 ⟨rfl,x,m,g2,rfl,rfl,h2⟩
    change DS _ _ _ _ _ _ _ _
    clear w4
    have hm:=terms_le hk h2
    repeat' ((fail_if_success (apply dw_stopR 10));(first|refine z0 ?_|apply ds_nil|apply thenD_n|refine z3 ?_|fail))
    refine dw_cut (ι:=List TLt × Nat × Bool) (fun y=>⟨5,[(2,.loc 1 0),(3,.d (.int .i64 0)),(4,.d (.int .i64 0)),(5,.d (.slice 3 (l.map encTok))),(8,.loc 0 0),(9,.loc 2 0),(10,.loc 4 0)],[(0,rdB l y.2.1 e y.2.2),(1,.blk 36 [.nils]),(2,.blk 36 [.row 3]),(3,.row 59 5 (acc.map encTRu)),(4,ruB (hereT l e j) s1 x.1 x.2 (.d (.slice 5 (y.1.map encTLt))))]⟩)
     (fun y=>y.2.1≤l.length∧∀ m5 g5,rdIs (rdP y.2.2 y.2.1 (if seesT l y.2.1 ⟨#[46]⟩=true then .ok ((),y.2.1 + 1) else .error y.2.1)) () m5 g5→rdIs (ruleT l e j) (⟨hereT l e j,s1,x.1,x.2,y.1⟩:TRu) m5 g5) ?_ ?_
    ·refine dw_cut (ι:=Bool) (fun b=>⟨5,[(2,.loc 1 0),(3,.d (.int .i64 0)),(4,.d (.int .i64 0)),(5,.d (.slice 3 (l.map encTok))),(8,.loc 0 0),(9,.loc 2 0),(10,.loc 4 0),(53,.d (.bool b))],[(0,rdB l m e g2),(1,.blk 36 [.nils]),(2,.blk 36 [.row 3]),(3,.row 59 5 (acc.map encTRu)),(4,ruB (hereT l e j) s1 x.1 x.2 .nils)]⟩) (fun b=>b=(decide (0 < x.2) || decide (textT l m g2≠⟨#[46]⟩))) ?_ ?_
     ·have w5:=rtext_fn l m e g2
      clear hgo h1 h2
      by_cases hx0:0 < x.2
      ·repeat' (first|refine z0 ?_|refine z12 ?_|apply ds_nil|refine z16 ?_|apply thenD_n|((fail_if_success (apply ds_known;exact rfl));apply ds_guardP;exact rfl;exact rfl;exact rfl;all_goals intro hg))
       all_goals try (exfalso;omega)
       exact⟨true,by rw [decide_eq_true hx0];rfl,ent_ren id ⟨rfl,rfl,rfl,rfl,rfl,rfl,rfl,rfl,trivial⟩ ⟨rfl,rfl,rfl,rfl,rfl,trivial⟩ rfl rfl rfl rfl rfl rfl⟩
      ·repeat' (first|refine z0 ?_|refine z12 ?_|apply ds_nil|refine z16 ?_|apply thenD_n|((fail_if_success (apply ds_known;exact rfl));apply ds_guardP;exact rfl;exact rfl;exact rfl;all_goals intro hg))
       all_goals try (exfalso;omega)
       (refine ds_callF id (w5) rfl rfl rfl rfl ⟨rfl,trivial⟩ rfl rfl rfl rfl rfl rfl ?_ ?_)
       ·rintro k2 res H2 ⟨rfl,rfl,rfl⟩;exact⟨rfl,rfl⟩
       rintro k2 res H2 ⟨rfl,rfl,rfl⟩
       change DS _ _ _ _ _ _ _ _
       clear w5
       repeat' (first|refine z0 ?_|apply ds_nil|apply thenD_n)
       exact⟨decide (textT l m g2≠⟨#[46]⟩),by rw [decide_eq_false hx0];rfl,ent_ren id ⟨rfl,rfl,rfl,rfl,rfl,rfl,rfl,rfl,trivial⟩ ⟨rfl,rfl,rfl,rfl,rfl,trivial⟩ rfl rfl rfl rfl rfl rfl⟩
     ·intro bb hbb
      dsimp only
      cases bb with
      | false =>
       have hbb:=hbb.symm
       rw [Bool.or_eq_false_iff,decide_eq_false_iff_not,decide_eq_false_iff_not,Classical.not_not] at hbb
       obtain⟨hx0,hdt⟩:=hbb
       obtain⟨rfl,hsd⟩:=(text_is (by decide)).1 hdt
       have hx2:x.2=0:=by
        cases g with
        | true=>exact absurd (rdIs_true h2).1 (by decide)
        | false=>have:=terms_fold (show termsT l k true = .ok (x,m) from h2);omega
       have hfin:∀ m5 g5,rdIs (rdP false m (if seesT l m ⟨#[46]⟩=true then .ok ((),m + 1) else .error m)) () m5 g5→rdIs (ruleT l e j) (⟨hereT l e j,s1,x.1,x.2,[]⟩:TRu) m5 g5:=fun m5 g5 h=>rule_dot h1 h2 hx2 hdt h
       clear hgo h1 h2 hdt hsd hx2
       repeat' (first|apply dw_skip|refine z19 ?_|apply thenD_n)
       exact⟨([],m,false),⟨hm,hfin⟩,ent_trans (ent_cellnil 4 4 5 rfl rfl rfl) (ent_ren id ⟨rfl,rfl,rfl,rfl,rfl,rfl,rfl,trivial⟩ ⟨rfl,rfl,rfl,rfl,rfl,trivial⟩ rfl rfl rfl rfl rfl rfl)⟩
      | true =>
       have hx:¬ (¬ 0 < x.2∧textT l m g2=⟨#[46]⟩):=by
        rintro⟨q1,q2⟩
        rw [decide_eq_false q1,decide_eq_false (fun h=>h q2)] at hbb
        cases hbb
       clear hbb
       obtain⟨m3,g3,w5,hd3⟩:=rneed_c l m e g2 ⟨#[58,45]⟩ (by decide) (by omega)
       have h3:=need_is hd3
       have hm3:=need_lt hm hd3
       clear hd3
       refine dw_ent (ent_cellrow 4 4 63 5 rfl rfl rfl) ?_
       repeat' (first|apply dw_seq2|refine z16 ?_|refine z18 ?_|fail)
       (refine ds_callF id (w5) rfl rfl rfl rfl ⟨rfl,trivial⟩ rfl rfl rfl rfl rfl rfl ?_ ?_)
       ·rintro k2 res H2 ⟨rfl,rfl,rfl⟩;exact⟨rfl,rfl⟩
       rintro k2 res H2 ⟨rfl,rfl,rfl⟩
       change DS _ _ _ _ _ _ _ _
       clear w5
       repeat' (first|refine z0 ?_|apply ds_nil|apply dw_seq2|refine z16 ?_|apply dw_block|apply thenD_n)
       have hfin:∀ b m4 g4,rdIs (rdP g3 m3 (litsGo l e (l.length + 1) m3 [])) b m4 g4→∀ m5 g5,rdIs (rdP g4 m4 (if seesT l m4 ⟨#[46]⟩=true then .ok ((),m4 + 1) else .error m4)) () m5 g5→rdIs (ruleT l e j) (⟨hereT l e j,s1,x.1,x.2,b⟩:TRu) m5 g5:=fun b m4 g4 h4 m5 g5 h5=>rule_body h1 h2 hx h3 h4 h5
       obtain⟨pl,hpl⟩:∃ pl,pl=rdP g3 m3 (litsGo l e (l.length + 1) m3 []):=⟨_,rfl⟩
       rw [← hpl] at hfin
       refine ds_loop (ι:=Nat × List TLt × Bool × Bool × Nat) (fun y=>⟨6,[(2,.loc 1 0),(3,.d (.int .i64 0)),(4,.d (.int .i64 0)),(5,.d (.slice 3 (l.map encTok))),(8,.loc 0 0),(9,.loc 2 0),(10,.loc 4 0),(11,.d (.bool y.2.2.1))],[(0,rdB l y.1 e y.2.2.2.1),(1,.blk 36 [.nils]),(2,.blk 36 [.row 3]),(3,.row 59 5 (acc.map encTRu)),(4,ruB (hereT l e j) s1 x.1 x.2 (.row 5)),(5,.row 63 5 (y.2.1.map encTLt))]⟩)
        (fun y=>lsInv l e pl y.1 y.2.1 y.2.2.1 y.2.2.2.1 y.2.2.2.2) (fun y=>tlM y.2.2.2.1 y.2.2.1 y.2.2.2.2) (m3,[],true,g3,l.length + 1) ?_ (ent_ren id ⟨rfl,rfl,rfl,rfl,rfl,rfl,rfl,rfl,trivial⟩ ⟨rfl,rfl,rfl,rfl,rfl,rfl,trivial⟩ rfl rfl rfl rfl rfl rfl) ?_
       ·refine⟨hm3,?_⟩
        cases g3 with
        | true=>exact hpl
        | false=>exact⟨hpl,by show l.length < l.length + 1 + m3;omega,Nat.zero_le _⟩
       clear hpl h1 h2 hgo h3 hx
       rintro⟨q,b,more,fl,n2⟩ ⟨hq,hinv⟩
       dsimp only at hq hinv ⊢
       cases fl with
       | true =>
        have hinv:rdIs pl b q true:=hinv
        cases more with
        | true =>
         repeat' (first|refine z0 ?_|apply ds_nil|apply dw_seq2|refine z16 ?_|apply dw_exit|refine z19 ?_|apply thenD_n|apply thenD_e|refine z17 ?_|fail)
         exact⟨(b,q,true),⟨hq,hfin _ _ _ hinv⟩,ent_trans (ent_cellseal 4 4 5 rfl rfl rfl rfl rfl) (ent_ren id ⟨rfl,rfl,rfl,rfl,rfl,rfl,rfl,trivial⟩ ⟨rfl,rfl,rfl,rfl,rfl,trivial⟩ rfl rfl rfl rfl rfl rfl)⟩
        | false =>
         repeat' (first|refine z0 ?_|refine z12 ?_|apply ds_nil|apply dw_seq2|refine z16 ?_|apply dw_exit|refine z19 ?_|apply thenD_n|apply thenD_e|refine z17 ?_|fail)
         exact⟨(b,q,true),⟨hq,hfin _ _ _ hinv⟩,ent_trans (ent_cellseal 4 4 5 rfl rfl rfl rfl rfl) (ent_ren id ⟨rfl,rfl,rfl,rfl,rfl,rfl,rfl,trivial⟩ ⟨rfl,rfl,rfl,rfl,rfl,trivial⟩ rfl rfl rfl rfl rfl rfl)⟩
       | false=>cases more with
        | false =>
         have hinv:rdIs pl b q false:=hinv
         repeat' (first|refine z0 ?_|refine z12 ?_|apply ds_nil|apply dw_seq2|refine z16 ?_|apply dw_exit|refine z19 ?_|apply thenD_n|apply thenD_e|refine z17 ?_|fail)
         exact⟨(b,q,false),⟨hq,hfin _ _ _ hinv⟩,ent_trans (ent_cellseal 4 4 5 rfl rfl rfl rfl rfl) (ent_ren id ⟨rfl,rfl,rfl,rfl,rfl,rfl,rfl,trivial⟩ ⟨rfl,rfl,rfl,rfl,rfl,trivial⟩ rfl rfl rfl rfl rfl rfl)⟩
        | true =>
         clear hfin
         obtain⟨hli,hn2,hb⟩:pl=litsGo l e n2 q b∧l.length < n2 + q∧b.length≤q:=hinv
         obtain⟨n2,rfl⟩:∃ m,n2=m + 1:=⟨n2 - 1,by omega⟩
         rw [litsGo_succ] at hli
         have wl:=rdBl (rlit_out l q e false hq (by omega) hok) (fun _=>rfl)
         have hne:=rdIs_ex (rdP false q (litT l e q)) (⟨0,0,0,⟨#[]⟩,[]⟩:TLt)
         repeat' (first|refine z0 ?_|apply ds_nil|refine z5 ?_|apply dw_seq2|refine z16 ?_|refine z20 ?_|apply dw_block|apply dw_skip|refine z18 ?_|apply thenD_n)
         refine dt_callB 0 wl rfl rfl rfl rfl rfl rfl rfl rfl (by obtain⟨x,k,g,h⟩:=hne;exact⟨_,_,x,k,g,rfl,rfl,h⟩) ?_
         rintro _ _ ⟨y,r,g5,rfl,rfl,hl⟩
         clear wl hne
         have hr:=lit_le hq hl
         have hr1:g5=false→q < r:=fun h=>by subst h;exact (litT_lt (show litT l e q = .ok (y,r) from hl)).1
         have lb:(b.map encTLt).length=b.length:=List.length_map _
         have hap:(b++[y]).map encTLt=b.map encTLt++[encTLt y]:=List.map_append
         have w6:=rtext_fn l r e g5
         repeat' (first|refine z5 ?_|refine z6 ?_|refine z9 ?_|refine z11 ?_|apply dw_seq2|refine z16 ?_|apply thenD_n)
         (refine ds_callF id (w6) rfl rfl rfl rfl ⟨rfl,trivial⟩ rfl rfl rfl rfl rfl rfl ?_ ?_)
         ·rintro k2 res H2 ⟨rfl,rfl,rfl⟩;exact⟨rfl,rfl⟩
         rintro k2 res H2 ⟨rfl,rfl,rfl⟩
         change DS _ _ _ _ _ _ _ _
         clear w6
         have hli2:textT l r g5≠⟨#[44]⟩→rdIs pl (b++[y]) r g5:=fun h=>by
          cases g5 with
          | true=>rw [show litT l e q = .error r from hl] at hli;exact hli
          | false =>
           rw [show litT l e q = .ok (y,r) from hl] at hli
           dsimp only at hli
           rw [if_neg (fun h2=>h ((text_is (by decide)).2 ⟨rfl,h2⟩))] at hli
           exact hli
         by_cases hsk:textT l r g5=⟨#[44]⟩
         ·obtain⟨rfl,hsk'⟩:=(text_is (by decide)).1 hsk
          clear hli2
          rw [show litT l e q = .ok (y,r) from hl] at hli
          dsimp only at hli
          rw [if_pos hsk'] at hli
          have:=seesT_lt hsk'
          have:=hr1 rfl
          have w7:=rneed_s l r e ⟨#[44]⟩ (by omega) hsk
          rw [hsk]
          clear hl
          repeat' (first|refine z0 ?_|apply ds_nil|apply dw_seq2|refine z16 ?_|refine z18 ?_|apply thenD_n)
          all_goals try (exfalso;omega)
          (refine ds_callF id (w7) rfl rfl rfl rfl ⟨rfl,trivial⟩ rfl rfl rfl rfl rfl rfl ?_ ?_)
          ·rintro k2 res H2 ⟨rfl,rfl,rfl⟩;exact⟨rfl,rfl⟩
          rintro k2 res H2 ⟨rfl,rfl,rfl⟩
          change DS _ _ _ _ _ _ _ _
          clear w7
          repeat' (first|apply ds_nil|apply thenD_n|apply inB_n)
          exact⟨(r + 1,b++[y],true,false,n2),⟨by show r + 1≤l.length;omega,hli,by show l.length < n2 + (r + 1);omega,by show (b++[y]).length≤r + 1;rw [List.length_append];simp;omega⟩,ent_ren (fun x=>match x with|0=>0|1=>1|2=>2|3=>3|4=>4|_=>_) ⟨rfl,rfl,rfl,rfl,rfl,rfl,rfl,rfl,trivial⟩ ⟨rfl,rfl,rfl,rfl,rfl,by dsimp only;rw [hap];rfl,trivial⟩ rfl rfl rfl rfl rfl rfl,Nat.lt_succ_self _⟩
         ·have hinv2:=hli2 hsk
          clear hli2 hli hl
          generalize textT l r g5=t1 at hsk
          repeat' (first|refine z0 ?_|apply ds_nil|apply dw_seq2|refine z16 ?_|apply dw_skip|apply thenD_n|apply inB_n|(refine z23 ?_ ?_ <;> intro hg)|fail)
          all_goals try (exfalso;first|omega|exact absurd (by assumption) hsk)
          exact⟨(r,b++[y],false,g5,n2),⟨hr,by cases g5 <;> exact hinv2⟩,ent_ren (fun x=>match x with|0=>0|1=>1|2=>2|3=>3|4=>4|_=>_) ⟨rfl,rfl,rfl,rfl,rfl,rfl,rfl,congrArg (fun z=>SV.d (D.bool z)) (decide_eq_false hsk),trivial⟩ ⟨rfl,rfl,rfl,rfl,rfl,by dsimp only;rw [hap];rfl,trivial⟩ rfl rfl rfl rfl rfl rfl,by cases g5 <;> exact Nat.succ_pos _⟩
    ·rintro⟨b,m4,g4⟩ ⟨hm4,hy⟩
     dsimp only at hm4 hy ⊢
     obtain⟨m5,g5,w5,hd5⟩:=rneed_c l m4 e g4 ⟨#[46]⟩ (by decide) (by omega)
     have hr:=hy m5 g5 (need_is hd5)
     have hm5:=need_lt hm4 hd5
     clear hd5 hy h1 h2
     have la:(acc.map encTRu).length=acc.length:=List.length_map _
     repeat' (first|apply dw_seq2|refine z16 ?_|fail)
     (refine ds_callF id (w5) rfl rfl rfl rfl ⟨rfl,trivial⟩ rfl rfl rfl rfl rfl rfl ?_ ?_)
     ·rintro k2 res H2 ⟨rfl,rfl,rfl⟩;exact⟨rfl,rfl⟩
     rintro k2 res H2 ⟨rfl,rfl,rfl⟩
     change DS _ _ _ _ _ _ _ _
     clear w5
     repeat' (first|refine z0 ?_|apply ds_nil|refine z16 ?_|apply thenD_n|apply inB_n|refine z3 ?_|refine z4 ?_|refine z2 ?_|fail)
     obtain⟨z,hz⟩:∃ z:TRu,z=⟨hereT l e j,s1,x.1,x.2,b⟩:=⟨_,rfl⟩
     have hap:(acc++[z]).map encTRu=acc.map encTRu++[encTRu ⟨hereT l e j,s1,x.1,x.2,b⟩]:=by rw [← hz];exact List.map_append
     rw [← hz] at hr
     refine⟨(m5,acc++[z],g5,n),⟨hm5,?_⟩,ent_ren (fun x=>match x with|0=>0|1=>1|2=>2|_=>_) ⟨rfl,rfl,rfl,rfl,rfl,rfl,trivial⟩ ⟨rfl,rfl,rfl,by dsimp only;rw [hap];rfl,trivial⟩ rfl rfl rfl rfl rfl rfl,by cases g5 <;> first|exact Nat.lt_succ_self _|exact Nat.succ_pos _⟩
     cases g5 with
     | true=>rw [show ruleT l e j = .error m5 from hr] at hgo;exact hgo
     | false =>
      rw [show ruleT l e j = .ok (z,m5) from hr] at hgo
      have:=(ruleT_lt (show ruleT l e j = .ok (z,m5) from hr)).1
      exact⟨hgo,by show l.length < n + m5;omega,by show (acc++[z]).length≤m5;rw [List.length_append];simp;omega⟩
   ·rw [if_neg hjl] at hgo
    rw [hgo]
    dsimp only
    repeat' ((fail_if_success (apply dw_stopS 22));(first|refine z0 ?_|apply ds_nil|apply dw_seq2|refine z16 ?_|apply dw_block|apply dw_skip|apply dw_exit|refine z19 ?_|apply thenD_n|apply thenD_e|refine z17 ?_|(refine z23 ?_ ?_ <;> intro hg)|fail))
    all_goals try (exfalso;omega)
    refine dw_ent (ent_cellseal 2 0 3 rfl rfl rfl rfl rfl) ?_
    have w3:=checkTree_fn acc
    by_cases hk:checkT acc=0
    ·rw [if_pos hk]
     rw [hk] at w3
     repeat' (first|refine z0 ?_|apply ds_nil|apply dw_seq2|refine z16 ?_|apply dw_skip|apply dw_ret|refine z19 ?_|apply thenD_n|refine z21 ?_ (hc:=by apply w3)|refine z3 ?_|fail)
     all_goals try (exfalso;omega)
     exact⟨.inl rfl,_,rfl,rfl,rfl⟩
    ·rw [if_neg hk]
     repeat' (first|refine z0 ?_|apply ds_nil|apply dw_seq2|refine z16 ?_|apply dw_skip|apply thenD_n|refine z21 ?_ (hc:=by apply w3)|refine z3 ?_|(refine z23 ?_ ?_ <;> intro hg)|fail)
     all_goals try (exfalso;omega)
     refine dw_ent (ent_cellnil 1 0 5 rfl rfl rfl) ?_
     repeat' (first|apply dw_ret|apply thenD_r)
     exact⟨.inl rfl,_,rfl,rfl,rfl⟩
 ·rw [if_pos he]
  repeat' (first|refine z0 ?_|apply ds_nil|apply dw_seq2|refine z16 ?_|apply dw_block|apply dw_skip|apply thenD_n|refine z21 ?_ (hc:=by apply w1)|refine z1 ?_|refine z3 ?_|(refine z23 ?_ ?_ <;> intro hg)|fail)
  all_goals try (exfalso;omega)
  refine dw_ent (ent_cellnil 0 0 5 rfl rfl rfl) ?_
  repeat' (first|apply dw_ret|apply thenD_r)
  exact⟨.inl rfl,_,rfl,rfl,rfl⟩
set_option maxHeartbeats 8000000 in
theorem resolveOf_fn (rs:List TRu):Fn 12 [.agg [.d (.slice 5 (rs.map encTRu))]] (fun r=>r=encRes (resolveS rs)):=by
 refine fnp_enter' _ Tryz.func12 rfl rfl (by kernel_rfl) ?_
 intro O w0 E0 β0
 have w1:=checkTree_fn rs
 have lr:(rs.map encTRu).length=rs.length:=List.length_map _
 unfold resolveS encRes
 by_cases hk:checkT rs=0
 ·rw [hk] at w1
  rw [if_neg (by simp [hk])]
  obtain⟨hrl,hrb⟩:=checkT_parts hk
  repeat' (first|refine z0 ?_|apply ds_nil|apply dw_seq2|refine z16 ?_|apply dw_block|apply dw_skip|refine z19 ?_|apply thenD_n|refine z21 ?_ (hc:=by apply w1)|refine z1 ?_|fail)
  all_goals try (exfalso;omega)
  refine dw_ent (ent_cellrow 2 0 3 1 rfl rfl rfl) ?_
  refine dw_ent (ent_cellrow 2 1 9 1 rfl rfl rfl) ?_
  refine dw_ent (ent_cellrow 2 2 48 5 rfl rfl rfl) ?_
  refine dw_ent (ent_cellrow 2 3 9 1 rfl rfl rfl) ?_
  change DW _ _ _ _ _ _
  have hini:SS.all ⟨[],[],[],[],0,0⟩ rs=SS.init.all rs:=rfl
  rw [hini]
  refine ds_loop (ι:=Nat × SS) (fun x=>⟨7,[(1,.loc 5 0),(2,.loc 6 0),(3,.d (.int .i64 0)),(4,.d (.int .i64 0)),(5,.loc 0 0),(6,.d (.int .i64 x.1))],dsR x.2 [(5,.blk 36 [.d (.slice 5 (rs.map encTRu))]),(6,.blk 26 [.nils,.nils,.nils])]⟩)
   (fun x=>x.1≤rs.length∧SS.init.all rs=x.2.all (rs.drop x.1)∧x.2.Fit (5 * x.1)∧x.2.rules.length=x.1) (fun x=>rs.length - x.1) (0,SS.init) ⟨Nat.zero_le _,rfl,⟨rfl,Nat.zero_le _⟩,rfl⟩
   (ent_ren (fun j=>match j with|0=>2|1=>3|2=>4|3=>5|4=>6|5=>0|6=>1|j=>j) ⟨rfl,rfl,rfl,rfl,rfl,rfl,trivial⟩ ⟨rfl,rfl,rfl,rfl,rfl,rfl,rfl,trivial⟩ rfl rfl rfl rfl rfl rfl) ?_
  rintro⟨i,x⟩ ⟨hi,ht,hf,hru⟩
  dsimp only at hi ht hf hru ⊢
  by_cases hgo:i < rs.length∧x.e=0
  ·obtain⟨hil,hxe⟩:=hgo
   obtain⟨b1,b2,b3⟩:=hrb _ (List.getElem_mem hil)
   rw [List.drop_eq_getElem_cons hil] at ht
   replace ht:SS.init.all rs=(x.rule rs[i]).all (rs.drop (i + 1)):=by rw [ht,SS.all_cons,if_pos hxe]
   obtain⟨g1,g2⟩:=SS.rule_fit hf rs[i]
   obtain⟨r,hr⟩:∃ r,r=rs[i]:=⟨_,rfl⟩
   rw [← hr] at b1 b2 b3 ht g1 g2
   have lt:(r.terms.map encTTm).length=r.terms.length:=List.length_map _
   have lb:(r.body.map encTLt).length=r.body.length:=List.length_map _
   obtain⟨hf1,hv1,hr1⟩:=SS.pred_fit (x:=x.fresh) (n:=5 * i) hf r.at_ r.name r.terms.length
   obtain⟨y1,hy1⟩:∃ y1,y1=x.fresh.pred r.at_ r.name r.terms.length:=⟨_,rfl⟩
   have w2:=dpred_fn x.fresh r.at_ r.name r.terms.length ⟨hf.1,by have:=hf.2;show x.names.length≤100000;omega⟩
   rw [← hy1] at w2 hf1 hv1 hr1
   obtain⟨y2,hy2⟩:∃ y2,y2=y1.terms r.at_ r.terms:=⟨_,rfl⟩
   have hy2':y2=x.headS r:=by rw [hy2,hy1];rfl
   have hf2:y2.Fit (5 * i + 1):=by rw [hy2];exact SS.terms_fit hf1 _ _
   have hv2:y2.vars.length≤3:=by
    have:=(SS.terms_names r.terms y1 r.at_).2.2.2
    rw [← hy2,hv1] at this
    have h3:(SS.fresh x).vars.length=0:=rfl
    omega
   have hr2:y2.rules=x.rules:=by rw [hy2,(SS.terms_names r.terms y1 r.at_).2.2.1,hr1];rfl
   have w3:=dterms_fn y1 r.at_ r.terms (by omega) (by rw [hv1];exact Nat.zero_le _)
   obtain⟨ts,hts⟩:∃ ts,ts=y1.trms r.at_ r.terms:=⟨_,rfl⟩
   have hrule:x.rule r=(y2.lits r.body).addR ⟨placeT r.name x.names,ts,r.fold,y2.litVs r.body,(y2.lits r.body).vars.length⟩:=by rw [hy2',hts,hy1];rfl
   rw [← hy2,← hts] at w3
   obtain⟨p,hp⟩:∃ p:Int,p=(placeT r.name x.names:Nat):=⟨_,rfl⟩
   rw [← hp] at hrule
   replace w2:FnOk false Tryz.prog tab tab_ok 28 [.loc 0 0,.d (.int .i64 r.at_),.d (.str r.name),.d (.int .i64 r.terms.length)] 1 5 (dsR x.fresh []) (fun k t H=>k=5∧t = .d (.int .i64 p)∧H=dsR y1 []):=by rw [hp];exact w2
   subst hr
   clear hy1 hy2 hy2' hts
   repeat' ((fail_if_success (apply dw_stopS 9));(first|refine z0 ?_|refine z12 ?_|apply ds_nil|refine z5 ?_|refine z6 ?_|refine z10 ?_|apply dw_seq2|refine z16 ?_|refine z20 ?_|apply dw_block|apply dw_skip|apply dw_exit|refine z19 ?_|apply thenD_n|apply thenD_e|refine z17 ?_|refine z1 ?_|refine z3 ?_|(refine z23 ?_ ?_ <;> intro hg)|((fail_if_success (apply ds_known;exact rfl));apply ds_guardP;exact rfl;exact rfl;exact rfl;all_goals intro hg)))
   all_goals try (exfalso;omega)
   refine dw_ent (ent_cellrow 0 3 9 1 rfl rfl rfl) ?_
   repeat' ((fail_if_success (apply dw_stopS 10));(first|refine z0 ?_|apply ds_nil|apply dw_seq2|refine z16 ?_|apply thenD_n|refine z1 ?_|refine z3 ?_|fail))
   refine dw_ent (ent_ren (k':=9) (L':=[(1,.loc 5 0),(2,.loc 6 0),(3,.d (.int .i64 0)),(4,.d (.int .i64 0)),(5,.loc 0 0),(6,.d (.int .i64 i)),(7,.loc 7 0),(8,.loc 8 0)]) (H':=dsR x.fresh [(5,.blk 36 [.d (.slice 5 (rs.map encTRu))]),(6,.blk 26 [.nils,.nils,.nils]),(7,blkTRu rs[i]),(8,blkRu 0 .nils rs[i].fold .nils 0)]) (fun j=>match j with|4=>8|8=>9|j=>j) ⟨rfl,rfl,rfl,rfl,rfl,rfl,rfl,rfl,trivial⟩ ⟨rfl,rfl,rfl,rfl,rfl,rfl,rfl,rfl,rfl,trivial⟩ rfl rfl rfl rfl rfl rfl) ?_
   repeat' (first|refine z0 ?_|apply dw_seq2|refine z16 ?_|fail)
   rw [lt]
   (refine ds_callF id (w2) rfl rfl rfl rfl ⟨rfl,rfl,rfl,rfl,rfl,trivial⟩ rfl rfl rfl rfl rfl rfl ?_ ?_)
   ·rintro k2 res H2 ⟨rfl,rfl,rfl⟩;exact⟨rfl,rfl⟩
   rintro k2 res H2 ⟨rfl,rfl,rfl⟩
   change DS _ _ _ _ _ _ _ _
   clear w2
   repeat' ((fail_if_success (apply dw_stopS 11));(first|refine z0 ?_|apply ds_nil|apply thenD_n|refine z3 ?_|fail))
   refine dw_ent (ent_ren (k':=9) (L':=[(1,.loc 5 0),(2,.loc 6 0),(3,.d (.int .i64 0)),(4,.d (.int .i64 0)),(5,.loc 0 0),(6,.d (.int .i64 i)),(7,.loc 7 0),(8,.loc 8 0)]) (H':=dsR y1 [(5,.blk 36 [.d (.slice 5 (rs.map encTRu))]),(6,.blk 26 [.nils,.nils,.nils]),(7,blkTRu rs[i]),(8,blkRu p .nils rs[i].fold .nils 0)]) (fun j=>match j with|1=>9 + 1|2=>9 + 2|3=>9 + 3|4=>9 + 4|j=>j) ⟨rfl,rfl,rfl,rfl,rfl,rfl,rfl,rfl,trivial⟩ ⟨rfl,rfl,rfl,rfl,rfl,rfl,rfl,rfl,rfl,trivial⟩ rfl rfl rfl rfl rfl rfl) ?_
   repeat' (first|refine z0 ?_|apply dw_seq2|refine z16 ?_|fail)
   (refine ds_callF id (w3) rfl rfl rfl rfl ⟨rfl,rfl,rfl,rfl,rfl,trivial⟩ rfl rfl rfl rfl rfl rfl ?_ ?_)
   ·rintro k2 res H2 ⟨rfl,rfl,rfl⟩;exact⟨rfl,rfl⟩
   rintro k2 res H2 ⟨rfl,rfl,rfl⟩
   change DS _ _ _ _ _ _ _ _
   clear w3
   repeat' ((fail_if_success (apply dw_stopS 12));(first|refine z0 ?_|apply ds_nil|apply dw_seq2|apply thenD_n|refine z3 ?_|fail))
   refine dw_ent (ent_ren (k':=9) (L':=[(1,.loc 5 0),(2,.loc 6 0),(3,.d (.int .i64 0)),(4,.d (.int .i64 0)),(5,.loc 0 0),(6,.d (.int .i64 i)),(7,.loc 7 0),(8,.loc 8 0)]) (H':=dsR y2 [(5,.blk 36 [.d (.slice 5 (rs.map encTRu))]),(6,.blk 26 [.nils,.nils,.nils]),(7,blkTRu rs[i]),(8,blkRu p (.d (.slice 2 (ts.map encTrm))) rs[i].fold .nils 0)]) (fun j=>match j with|1=>9 + 1|2=>9 + 2|3=>9 + 3|4=>9 + 4|j=>j) ⟨rfl,rfl,rfl,rfl,rfl,rfl,rfl,rfl,trivial⟩ ⟨rfl,rfl,rfl,rfl,rfl,rfl,rfl,rfl,rfl,trivial⟩ rfl rfl rfl rfl rfl rfl) ?_
   refine dw_ent (ent_cellrow 8 3 65 4 rfl rfl rfl) ?_
   repeat' (first|refine z0 ?_|apply ds_nil|apply dw_seq2|refine z16 ?_|apply dw_block|apply thenD_n)
   refine ds_loop (ι:=Nat × SS × List Ltl) (fun z=>⟨10,[(1,.loc 5 0),(2,.loc 6 0),(3,.d (.int .i64 0)),(4,.d (.int .i64 0)),(5,.loc 0 0),(6,.d (.int .i64 i)),(7,.loc 7 0),(8,.loc 8 0),(9,.d (.int .i64 z.1))],dsR z.2.1 [(5,.blk 36 [.d (.slice 5 (rs.map encTRu))]),(6,.blk 26 [.nils,.nils,.nils]),(7,blkTRu rs[i]),(8,blkRu p (.d (.slice 2 (ts.map encTrm))) rs[i].fold (.row 9) 0),(9,.row 65 4 (z.2.2.map encLtl))]⟩)
    (fun z=>z.1≤rs[i].body.length∧y2.lits rs[i].body=z.2.1.lits (rs[i].body.drop z.1)∧y2.litVs rs[i].body=z.2.2++z.2.1.litVs (rs[i].body.drop z.1)∧z.2.2.length=z.1∧z.2.1.Fit (5 * i + 1 + z.1)∧z.2.1.vars.length≤3 + 3 * z.1∧z.2.1.rules=x.rules) (fun z=>rs[i].body.length - z.1) (0,y2,[]) ⟨Nat.zero_le _,rfl,rfl,rfl,hf2,by omega,hr2⟩
    (ent_ren id ⟨rfl,rfl,rfl,rfl,rfl,rfl,rfl,rfl,rfl,trivial⟩ ⟨rfl,rfl,rfl,rfl,rfl,rfl,rfl,rfl,rfl,rfl,trivial⟩ rfl rfl rfl rfl rfl rfl) ?_
   clear hf1 hv1 hr1 hf2 hv2 hr2
   rintro⟨q,y,acc⟩ ⟨hq,hli,hvi,hac,hyf,hyv,hyr⟩
   dsimp only at hq hli hvi hac hyf hyv hyr ⊢
   have lac:(acc.map encLtl).length=acc.length:=List.length_map _
   by_cases hql:q < rs[i].body.length
   ·rw [List.drop_eq_getElem_cons hql] at hli hvi
    obtain⟨hlk,hlt⟩:=b3 _ (List.getElem_mem hql)
    obtain⟨r,hr⟩:∃ r,r=rs[i]:=⟨_,rfl⟩
    replace hli:y2.lits rs[i].body=(y.lit rs[i].body[q]).lits (rs[i].body.drop (q + 1)):=hli
    replace hvi:y2.litVs rs[i].body=acc++y.litV rs[i].body[q]::(y.lit rs[i].body[q]).litVs (rs[i].body.drop (q + 1)):=hvi
    have lt2:(rs[i].body[q].terms.map encTTm).length=rs[i].body[q].terms.length:=List.length_map _
    obtain⟨hfl,hrl,hvl⟩:=SS.lit_fit hyf rs[i].body[q]
    obtain⟨yp,hyp⟩:∃ yp,yp=y.litP rs[i].body[q]:=⟨_,rfl⟩
    obtain⟨pp,hpp⟩:∃ pp:Int,pp=if rs[i].body[q].kind≤2 then (placeT rs[i].body[q].name y.names:Int) else 0:=⟨_,rfl⟩
    have hll:y.lit rs[i].body[q]=yp.terms rs[i].body[q].at_ rs[i].body[q].terms:=by rw [hyp];rfl
    have hlv:y.litV rs[i].body[q]=⟨rs[i].body[q].kind,rs[i].body[q].op,pp,yp.trms rs[i].body[q].at_ rs[i].body[q].terms⟩:=by rw [hpp,hyp];rfl
    have hypv:yp.vars=y.vars:=by
     rw [hyp]
     unfold SS.litP
     split
     ·exact (SS.pred_fit hyf _ _ _).2.1
     ·rfl
    clear hr
    repeat' ((fail_if_success (apply dw_stopR 17));(first|refine z0 ?_|apply ds_nil|apply dw_seq2|refine z16 ?_|apply dw_block|apply dw_skip|apply dw_exit|apply thenD_n|apply thenD_e|refine z17 ?_|refine z1 ?_|refine z3 ?_|(refine z23 ?_ ?_ <;> intro hg)|fail))
    all_goals try (exfalso;omega)
    refine dw_cut (ι:=Unit) (fun _=>⟨12,[(1,.loc 5 0),(2,.loc 6 0),(3,.d (.int .i64 0)),(4,.d (.int .i64 0)),(5,.loc 0 0),(6,.d (.int .i64 i)),(7,.loc 7 0),(8,.loc 8 0),(9,.d (.int .i64 q)),(10,.loc 10 0),(11,.loc 11 0)],dsR yp [(5,.blk 36 [.d (.slice 5 (rs.map encTRu))]),(6,.blk 26 [.nils,.nils,.nils]),(7,blkTRu rs[i]),(8,blkRu p (.d (.slice 2 (ts.map encTrm))) rs[i].fold (.row 9) 0),(9,.row 65 4 (acc.map encLtl)),(10,.blk 63 [.d (.int .i64 rs[i].body[q].kind),.d (.int .i64 rs[i].body[q].at_),.d (.int .i64 rs[i].body[q].op),.d (.str rs[i].body[q].name),.d (.slice 2 (rs[i].body[q].terms.map encTTm))]),(11,.blk 65 [.d (.int .i64 rs[i].body[q].kind),.d (.int .i64 rs[i].body[q].op),.d (.int .i64 pp),.nils])]⟩) (fun _=>True) ?_ ?_
    ·by_cases h2:rs[i].body[q].kind≤2
     ·have hyy:yp=y.pred rs[i].body[q].at_ rs[i].body[q].name rs[i].body[q].terms.length:=by rw [hyp];unfold SS.litP;rw [if_pos h2]
      rw [if_pos h2] at hpp
      have w4:=dpred_fn y rs[i].body[q].at_ rs[i].body[q].name rs[i].body[q].terms.length ⟨hyf.1,by have:=hyf.2;omega⟩
      rw [← hyy] at w4
      clear hli hvi hrule hll hlv hyp ht
      repeat' (first|refine z0 ?_|apply ds_nil|apply dw_seq2|refine z16 ?_|apply dw_skip|apply thenD_n|(refine z23 ?_ ?_ <;> intro hg)|fail)
      all_goals try (exfalso;omega)
      rw [lt2]
      (refine ds_callF id (w4) rfl rfl rfl rfl ⟨rfl,rfl,rfl,rfl,rfl,trivial⟩ rfl rfl rfl rfl rfl rfl ?_ ?_)
      ·rintro k2 res H2 ⟨rfl,rfl,rfl⟩;exact⟨rfl,rfl⟩
      rintro k2 res H2 ⟨rfl,rfl,rfl⟩
      change DS _ _ _ _ _ _ _ _
      clear w4
      repeat' (first|refine z0 ?_|apply ds_nil|apply thenD_n|refine z3 ?_|fail)
      exact⟨(),trivial,ent_ren (fun j=>match j with|1=>12 + 1|2=>12 + 2|3=>12 + 3|4=>12 + 4|j=>j) ⟨rfl,rfl,rfl,rfl,rfl,rfl,rfl,rfl,rfl,rfl,rfl,trivial⟩ ⟨rfl,rfl,rfl,rfl,rfl,rfl,rfl,rfl,rfl,rfl,rfl,by rw [hpp];rfl,trivial⟩ rfl rfl rfl rfl rfl rfl⟩
     ·have hyy:yp=y:=by rw [hyp];unfold SS.litP;rw [if_neg h2]
      rw [if_neg h2] at hpp
      rw [hyy,hpp]
      clear hli hvi hrule hll hlv hyp ht
      repeat' (first|refine z0 ?_|apply ds_nil|apply dw_seq2|refine z16 ?_|apply dw_skip|apply thenD_n|(refine z23 ?_ ?_ <;> intro hg)|fail)
      all_goals try (exfalso;omega)
      exact⟨(),trivial,ent_ren id ⟨rfl,rfl,rfl,rfl,rfl,rfl,rfl,rfl,rfl,rfl,rfl,trivial⟩ ⟨rfl,rfl,rfl,rfl,rfl,rfl,rfl,rfl,rfl,rfl,rfl,rfl,trivial⟩ rfl rfl rfl rfl rfl rfl⟩
    ·intro _ _
     have w5:=dterms_fn yp rs[i].body[q].at_ rs[i].body[q].terms (by omega) (by rw [hypv];omega)
     rw [← hll] at w5
     obtain⟨us,hus⟩:∃ us,us=yp.trms rs[i].body[q].at_ rs[i].body[q].terms:=⟨_,rfl⟩
     rw [← hus] at w5 hlv
     obtain⟨y',hy'⟩:∃ y',y' = y.lit rs[i].body[q]:=⟨_,rfl⟩
     rw [← hy'] at w5 hfl hrl hvl hli hvi
     rw [hlv] at hvi
     have hvi2:y2.litVs rs[i].body=(acc++[⟨rs[i].body[q].kind,rs[i].body[q].op,pp,us⟩])++y'.litVs (rs[i].body.drop (q + 1)):=by rw [hvi];simp
     have hap:(acc++[(⟨rs[i].body[q].kind,rs[i].body[q].op,pp,us⟩:Ltl)]).map encLtl=acc.map encLtl++[encLtl ⟨rs[i].body[q].kind,rs[i].body[q].op,pp,us⟩]:=List.map_append
     clear hvi hrule ht
     repeat' (first|refine z0 ?_|apply dw_seq2|refine z16 ?_|fail)
     (refine ds_callF id (w5) rfl rfl rfl rfl ⟨rfl,rfl,rfl,rfl,rfl,trivial⟩ rfl rfl rfl rfl rfl rfl ?_ ?_)
     ·rintro k2 res H2 ⟨rfl,rfl,rfl⟩;exact⟨rfl,rfl⟩
     rintro k2 res H2 ⟨rfl,rfl,rfl⟩
     change DS _ _ _ _ _ _ _ _
     clear w5
     repeat' (first|refine z0 ?_|apply ds_nil|refine z16 ?_|apply thenD_n|apply inB_n|refine z3 ?_|refine z4 ?_|refine z2 ?_|fail)
     exact⟨(q + 1,y',acc++[⟨rs[i].body[q].kind,rs[i].body[q].op,pp,us⟩]),⟨by show q + 1≤rs[i].body.length;omega,hli,hvi2,by show (acc++_).length=q + 1;rw [List.length_append,hac];rfl,hfl,by show y'.vars.length≤3 + 3 * (q + 1);omega,hrl.trans hyr⟩,ent_ren (fun j=>match j with|1=>12 + 1|2=>12 + 2|3=>12 + 3|4=>12 + 4|9=>_|j=>j) ⟨rfl,rfl,rfl,rfl,rfl,rfl,rfl,rfl,rfl,trivial⟩ ⟨rfl,rfl,rfl,rfl,rfl,rfl,rfl,rfl,rfl,by dsimp only;rw [hap];rfl,trivial⟩ rfl rfl rfl rfl rfl rfl,by show rs[i].body.length - (q + 1) < rs[i].body.length - q;omega⟩
   ·have hie:q=rs[i].body.length:=by omega
    rw [hie,List.drop_of_length_le (Nat.le_refl _)] at hli hvi
    replace hli:y2.lits rs[i].body=y:=hli
    replace hvi:y2.litVs rs[i].body=acc:=by rw [hvi];exact List.append_nil _
    rw [hli,hvi] at hrule
    have lv:(y.vars.map encT).length=y.vars.length:=List.length_map _
    have lr2:(y.rules.map encRul).length=y.rules.length:=List.length_map _
    have hrl:y.rules.length≤1000:=by rw [hyr];omega
    obtain⟨w,hw⟩:∃ w,w=x.rule rs[i]:=⟨_,rfl⟩
    rw [← hw] at hrule ht g1 g2
    have e1:w.rules.map encRul=y.rules.map encRul++[encRul ⟨p,ts,rs[i].fold,acc,y.vars.length⟩]:=by rw [hrule];exact List.map_append
    clear hw
    repeat' ((fail_if_success (apply dw_stopS 21));(first|refine z0 ?_|apply ds_nil|apply dw_seq2|refine z16 ?_|apply dw_block|apply dw_skip|apply dw_exit|apply thenD_n|apply thenD_e|refine z17 ?_|refine z1 ?_|refine z3 ?_|(refine z23 ?_ ?_ <;> intro hg)|fail))
    all_goals try (exfalso;omega)
    refine dw_ent (ent_cellseal 8 3 9 rfl rfl rfl rfl rfl) ?_
    repeat' (first|refine z0 ?_|apply ds_nil|apply dw_seq2|refine z16 ?_|apply thenD_n|apply inB_n|refine z3 ?_|refine z4 ?_|refine z2 ?_|fail)
    rw [lv]
    exact⟨(i + 1,w),⟨by show i + 1≤rs.length;omega,ht,⟨g1.1,by have:=g1.2;show w.names.length≤5 * (i + 1);omega⟩,by show w.rules.length=i + 1;omega⟩,ent_ren (fun j=>match j with|3=>_|j=>j) ⟨rfl,rfl,rfl,rfl,rfl,rfl,trivial⟩ ⟨by dsimp only;rw [hrule];rfl,by dsimp only;rw [hrule];rfl,by dsimp only;rw [hrule];rfl,by dsimp only;rw [e1];rfl,by dsimp only;rw [hrule];rfl,rfl,rfl,trivial⟩ rfl rfl rfl rfl rfl rfl,by show rs.length - (i + 1) < rs.length - i;omega⟩
  ·have hx:SS.init.all rs=x:=by
    rw [ht]
    by_cases hil:i < rs.length
    ·rw [List.drop_eq_getElem_cons hil,SS.all_cons,if_neg (fun h=>hgo ⟨hil,h⟩)]
    ·rw [List.drop_of_length_le (by omega)];rfl
   rw [hx]
   clear ht hx
   by_cases hxe:x.e=0
   ·rw [if_neg (by simp [hxe])]
    have w3:=rcheck_fn ⟨x.arity,x.names,x.rules⟩
    repeat' ((fail_if_success (apply dw_stopS 25));(first|refine z0 ?_|refine z12 ?_|apply ds_nil|refine z5 ?_|refine z6 ?_|refine z10 ?_|apply dw_seq2|refine z16 ?_|refine z20 ?_|apply dw_block|apply dw_skip|apply dw_exit|refine z19 ?_|apply thenD_n|apply thenD_e|refine z17 ?_|refine z1 ?_|refine z3 ?_|(refine z23 ?_ ?_ <;> intro hg)|((fail_if_success (apply ds_known;exact rfl));apply ds_guardP;exact rfl;exact rfl;exact rfl;all_goals intro hg)))
    all_goals try (exfalso;first|omega|exact absurd hxe (by assumption))
    refine dw_ent (ent_cellseal 0 0 1 rfl rfl rfl rfl rfl) ?_
    refine dw_ent (ent_cellseal 0 1 2 rfl rfl rfl rfl rfl) ?_
    refine dw_ent (ent_cellseal 0 2 3 rfl rfl rfl rfl rfl) ?_
    by_cases hp:progE nameR ⟨x.arity,x.names,x.rules⟩=0
    ·rw [if_neg (by simp [hp])]
     rw [hp] at w3
     repeat' (first|refine z0 ?_|apply ds_nil|apply dw_seq2|refine z16 ?_|apply dw_skip|apply dw_ret|refine z19 ?_|apply thenD_n|refine z21 ?_ (hc:=by apply w3)|refine z3 ?_|fail)
     all_goals try (exfalso;omega)
     exact⟨.inl rfl,_,rfl,rfl,rfl⟩
    ·rw [if_pos hp]
     repeat' (first|refine z0 ?_|apply ds_nil|apply dw_seq2|refine z16 ?_|apply dw_skip|apply thenD_n|refine z21 ?_ (hc:=by apply w3)|refine z3 ?_|(refine z23 ?_ ?_ <;> intro hg)|fail)
     all_goals try (exfalso;omega)
     refine dw_ent (ent_cellnil 6 0 1 rfl rfl rfl) ?_
     refine dw_ent (ent_cellnil 6 1 1 rfl rfl rfl) ?_
     refine dw_ent (ent_cellnil 6 2 5 rfl rfl rfl) ?_
     repeat' (first|apply dw_ret|apply thenD_r)
     exact⟨.inl rfl,_,rfl,rfl,rfl⟩
   ·rw [if_pos hxe]
    repeat' (first|refine z0 ?_|refine z12 ?_|apply ds_nil|refine z5 ?_|refine z6 ?_|refine z10 ?_|apply dw_seq2|refine z16 ?_|refine z20 ?_|apply dw_block|apply dw_skip|apply dw_exit|refine z19 ?_|apply thenD_n|apply thenD_e|refine z17 ?_|refine z1 ?_|refine z3 ?_|(refine z23 ?_ ?_ <;> intro hg)|((fail_if_success (apply ds_known;exact rfl));apply ds_guardP;exact rfl;exact rfl;exact rfl;all_goals intro hg))
    all_goals try (exfalso;first|omega|exact absurd (by assumption) hxe)
    all_goals refine dw_ent (ent_cellnil 6 0 1 rfl rfl rfl) ?_
    all_goals refine dw_ent (ent_cellnil 6 1 1 rfl rfl rfl) ?_
    all_goals refine dw_ent (ent_cellnil 6 2 5 rfl rfl rfl) ?_
    all_goals repeat' (first|apply dw_ret|apply thenD_r)
    all_goals exact⟨.inl rfl,_,rfl,rfl,rfl⟩
 ·rw [if_pos hk]
  repeat' (first|refine z0 ?_|apply ds_nil|apply dw_seq2|refine z16 ?_|apply dw_block|apply dw_skip|apply thenD_n|refine z21 ?_ (hc:=by apply w1)|refine z1 ?_|refine z3 ?_|(refine z23 ?_ ?_ <;> intro hg)|fail)
  all_goals try (exfalso;omega)
  refine dw_ent (ent_cellnil 1 0 1 rfl rfl rfl) ?_
  refine dw_ent (ent_cellnil 1 1 1 rfl rfl rfl) ?_
  refine dw_ent (ent_cellnil 1 2 5 rfl rfl rfl) ?_
  repeat' (first|apply dw_ret|apply thenD_r)
  exact⟨.inl rfl,_,rfl,rfl,rfl⟩
set_option maxHeartbeats 8000000 in
theorem programOf_fn (s:ByteArray):Fn 15 [.d (.str s)] (fun r=>r=encRes (programS s)):=by
 refine fnp_enter' _ Tryz.func15 rfl rfl (by kernel_rfl) ?_
 intro O w0 E0 β0
 have w1:=parseOf_fn s
 have w2:=resolveOf_fn (parseS s).1
 unfold programS
 generalize parseS s=q at *
 unfold encParse at w1
 unfold encRes at *
 by_cases he:q.2.2=0
 ·rw [if_neg (by simp [he])]
  rw [he] at w1
  repeat' (first|refine z0 ?_|apply ds_nil|apply dw_seq2|refine z16 ?_|apply dw_skip|apply dw_ret|refine z19 ?_|apply thenD_n|refine z21 ?_ (hc:=by apply w1)|refine z21 ?_ (hc:=by apply w2)|refine z1 ?_|refine z3 ?_|fail)
  all_goals try (exfalso;omega)
  exact⟨.inl rfl,_,rfl,rfl,rfl⟩
 ·rw [if_pos he]
  repeat' (first|refine z0 ?_|apply ds_nil|apply dw_seq2|refine z16 ?_|apply dw_skip|apply thenD_n|refine z21 ?_ (hc:=by apply w1)|refine z1 ?_|refine z3 ?_|(refine z23 ?_ ?_ <;> intro hg)|fail)
  all_goals try (exfalso;omega)
  refine dw_ent (ent_cellnil 0 0 1 rfl rfl rfl) ?_
  refine dw_ent (ent_cellnil 0 1 1 rfl rfl rfl) ?_
  refine dw_ent (ent_cellnil 0 2 5 rfl rfl rfl) ?_
  repeat' (first|apply dw_ret|apply thenD_r)
  exact⟨.inl rfl,_,rfl,rfl,rfl⟩
attribute [local irreducible] DT

theorem rbetween_fn (n a b:Int):Fn 16 [.d (.int .i64 n),.d (.int .i64 a),.d (.int .i64 b)] (fun r=>r = .d (.bool (inR n a b))):=between_fn n a b
end Go.Proofs.YtapciiffpnociacGreatDoor
namespace Go.Proofs.YtapciiffpnociacGreatDoor
open Go Go.RowKit
section
variable {Γ : Ctx} {k : Nat} {L : Sl} {H : Hp} {K : Next'} {ops : List Oper} {rest : List Oper} {t t' ty : TypeId} {x y : Operand}
end
attribute [local irreducible] DW DS DL DQ Ev FnOk FnP thenD inBlockD DT
def sameI (a b:Int):Bool:=decide (a=b)
def sameTrm (a b:Trm):Bool:=decide (a.var=b.var) && decide (a.n=b.n)
theorem ne_not {a b:Int} {c:Bool} (h:decide (a≠b) = !c):sameI a b=c:=by
 unfold sameI
 cases c <;> simp_all
theorem trm_not {x y:Trm} {b:Bool} (h:(!(decide (x.var=y.var) && (decide (x.n=y.n) && true))) = !b):sameTrm x y=b:=by
 unfold sameTrm
 rw [Bool.and_true] at h
 exact Bool.not_inj h
set_option maxHeartbeats 8000000 in
theorem sameInts_fn (l m:List (Int)):Fn 21 [.d (.slice 1 (l.map encI)),.d (.slice 1 (m.map encI))] (fun r=>r = .d (.bool (sameL sameI l m))):=by
 refine fnp_enter' _ Tryz.func21 rfl rfl (by kernel_rfl) ?_
 intro O w0 E0 β0
 refine dw_len_map (t:=0) rfl fun hb=>?_
 repeat' (first|refine z0 ?_|apply ds_nil|apply dw_seq2|refine z16 ?_|apply thenD_n)
 refine dw_condP rfl (fun h=>?_) (fun h=>?_)
 ·have hne:l.length≠m.length:=by rw [List.length_map,List.length_map] at h;omega
  repeat' (first|refine z0 ?_|apply ds_nil|apply dw_seq2|refine z16 ?_|apply dw_ret|apply thenD_n|apply thenD_r)
  exact ret_b rfl (sameL_len _ _ _ hne).symm
 ·have hlen:l.length=m.length:=by rw [List.length_map,List.length_map] at h;omega
  repeat' (first|refine z0 ?_|apply ds_nil|apply dw_seq2|refine z16 ?_|apply dw_block|apply dw_skip|apply thenD_n)
  refine ds_loop (ι:=Nat) (fun i=>⟨0,[(0,.d (.slice 1 (l.map encI))),(1,.d (.slice 1 (m.map encI))),(5,.d (.int .i64 i))],[]⟩)
   (fun i=>i≤l.length∧sameL sameI l m=sameL sameI (l.drop i) (m.drop i)) (fun i=>l.length - i) 0 ⟨Nat.zero_le _,rfl⟩
   (ent_ren id ⟨rfl,rfl,rfl,trivial⟩ trivial rfl rfl rfl rfl rfl rfl) ?_
  rintro i ⟨h1,h2⟩
  repeat' (first|refine z0 ?_|apply ds_nil|apply dw_seq2|refine z16 ?_|apply thenD_n)
  refine dw_condP rfl (fun h=>?_) (fun h=>?_)
  ·have hi:i < l.length:=by rw [List.length_map] at h;omega
   have hm:i < m.length:=by omega
   have hd:=sameL_drop sameI l m i hi hm
   repeat' (first|refine z5 ?_|refine z10 ?_|apply dw_seq2|refine z20 ?_|apply dw_block|apply dw_skip|apply thenD_n)
   refine dw_cond rfl (fun hb=>?_) (fun hb=>?_)
   ·have hp:sameI l[i] m[i]=false:=by exact ne_not hb
    repeat' (first|refine z0 ?_|apply ds_nil|apply dw_seq2|refine z16 ?_|apply dw_ret|apply thenD_n|apply thenD_r|apply inB_r)
    exact ret_b rfl (by rw [h2,hd,hp];rfl)
   ·have hp:sameI l[i] m[i]=true:=by exact ne_not hb
    repeat' (first|refine z0 ?_|apply ds_nil|refine z16 ?_|apply dw_skip|apply thenD_n|apply inB_n)
    exact⟨i + 1,⟨hi,by rw [h2,hd,hp];rfl⟩,ent_ren id ⟨rfl,rfl,rfl,trivial⟩ trivial rfl rfl rfl rfl rfl rfl,by omega⟩
  ·repeat' (first|refine z0 ?_|apply ds_nil|apply dw_seq2|refine z16 ?_|apply dw_exit|apply dw_ret|apply thenD_n|apply thenD_e|refine z17 ?_|fail)
   exact ret_b rfl (by rw [h2,sameL_end _ _ _ _ (by rw [List.length_map] at h;omega) (by rw [List.length_map] at h;omega)])
set_option maxHeartbeats 8000000 in
theorem sameTerms_fn (l m:List (Trm)):Fn 30 [.d (.slice 2 (l.map encTrm)),.d (.slice 2 (m.map encTrm))] (fun r=>r = .d (.bool (sameL sameTrm l m))):=by
 refine fnp_enter' _ Tryz.func30 rfl rfl (by kernel_rfl) ?_
 intro O w0 E0 β0
 refine dw_len_map (t:=0) rfl fun hb=>?_
 repeat' (first|refine z0 ?_|apply ds_nil|apply dw_seq2|refine z16 ?_|apply thenD_n)
 refine dw_condP rfl (fun h=>?_) (fun h=>?_)
 ·have hne:l.length≠m.length:=by rw [List.length_map,List.length_map] at h;omega
  repeat' (first|refine z0 ?_|apply ds_nil|apply dw_seq2|refine z16 ?_|apply dw_ret|apply thenD_n|apply thenD_r)
  exact ret_b rfl (sameL_len _ _ _ hne).symm
 ·have hlen:l.length=m.length:=by rw [List.length_map,List.length_map] at h;omega
  repeat' (first|refine z0 ?_|apply ds_nil|apply dw_seq2|refine z16 ?_|apply dw_block|apply dw_skip|apply thenD_n)
  refine ds_loop (ι:=Nat) (fun i=>⟨0,[(0,.d (.slice 2 (l.map encTrm))),(1,.d (.slice 2 (m.map encTrm))),(5,.d (.int .i64 i))],[]⟩)
   (fun i=>i≤l.length∧sameL sameTrm l m=sameL sameTrm (l.drop i) (m.drop i)) (fun i=>l.length - i) 0 ⟨Nat.zero_le _,rfl⟩
   (ent_ren id ⟨rfl,rfl,rfl,trivial⟩ trivial rfl rfl rfl rfl rfl rfl) ?_
  rintro i ⟨h1,h2⟩
  repeat' (first|refine z0 ?_|apply ds_nil|apply dw_seq2|refine z16 ?_|apply thenD_n)
  refine dw_condP rfl (fun h=>?_) (fun h=>?_)
  ·have hi:i < l.length:=by rw [List.length_map] at h;omega
   have hm:i < m.length:=by omega
   have hd:=sameL_drop sameTrm l m i hi hm
   repeat' (first|refine z5 ?_|refine z10 ?_|apply dw_seq2|refine z20 ?_|apply dw_block|apply dw_skip|apply thenD_n)
   refine dw_cond rfl (fun hb=>?_) (fun hb=>?_)
   ·have hp:sameTrm l[i] m[i]=false:=by exact trm_not hb
    repeat' (first|refine z0 ?_|apply ds_nil|apply dw_seq2|refine z16 ?_|apply dw_ret|apply thenD_n|apply thenD_r|apply inB_r)
    exact ret_b rfl (by rw [h2,hd,hp];rfl)
   ·have hp:sameTrm l[i] m[i]=true:=by exact trm_not hb
    repeat' (first|refine z0 ?_|apply ds_nil|refine z16 ?_|apply dw_skip|apply thenD_n|apply inB_n)
    exact⟨i + 1,⟨hi,by rw [h2,hd,hp];rfl⟩,ent_ren id ⟨rfl,rfl,rfl,trivial⟩ trivial rfl rfl rfl rfl rfl rfl,by omega⟩
  ·repeat' (first|refine z0 ?_|apply ds_nil|apply dw_seq2|refine z16 ?_|apply dw_exit|apply dw_ret|apply thenD_n|apply thenD_e|refine z17 ?_|fail)
   exact ret_b rfl (by rw [h2,sameL_end _ _ _ _ (by rw [List.length_map] at h;omega) (by rw [List.length_map] at h;omega)])
end Go.Proofs.YtapciiffpnociacGreatDoor
