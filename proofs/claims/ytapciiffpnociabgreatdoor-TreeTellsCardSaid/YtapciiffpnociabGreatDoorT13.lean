/- Several texts in one: TreLi TreI TreJ TreK TreL. Condition: none. -/
import Derived.Test.YtapciiffpnociabGreatDoorT12
import Derived.Test.YtapciiffpnociabGreatDoorT11
import Derived.Test.YtapciiffpnociabGreatDoorT09
namespace Go.Proofs.YtapciiffpnociabGreatDoor
open Go Go.RowKit
attribute [local irreducible] DW DS DL DQ Ev FnOk FnP FnOkE thenD inBlockD
attribute [local irreducible] foldG
def nameB (l:List Tok) (i:Nat):Bool→Bool
 | true=>false
 | false=>!isTestT l i
abbrev litN (kind at_ op:Int) (name:ByteArray):HB:=.blk 51 [.d (.int .i64 kind),.d (.int .i64 at_),.d (.int .i64 op),.d (.str name),.nils]
abbrev litZ:HB:=.blk 51 [.d (.int .i64 0),.d (.int .i64 0),.d (.int .i64 0),.d (.str ⟨#[]⟩),.nils]
theorem rdIs_ex {α:Type} (p:PR α) (x0:α):∃ x k g,rdIs p x k g:=by
 cases p with
 | ok y=>exact⟨y.1,y.2,false,rfl⟩
 | error k=>exact⟨x0,k,true,rfl⟩
theorem rdBl {f:FuncId} {args:List SV} {l:List Tok} {i:Nat} {e:Int} {fl:Bool} {α:Type} {p:PR α} {enc:α→SV} (h:RdC f args l i e fl p enc) (hlow:∀ x,(enc x).low 0=true) :
  FnBl false Tryz.prog tab tab_ok f args 76 [.d (.slice 3 (l.map encTok)),.d (.int .i64 i),.d (.int .i64 e),.d (.bool fl)] (fun r cs'=>∃ x,∃ k:Nat,∃ g,r=enc x∧cs' = [.d (.slice 3 (l.map encTok)),.d (.int .i64 k),.d (.int .i64 e),.d (.bool g)]∧rdIs p x k g):=by
 unfold FnBl
 refine h.imp ?_
 rintro _ r H ⟨_,x,k,g,rfl,rfl,hp⟩
 exact⟨_,⟨x,k,g,rfl,rfl,hp⟩,hlow x,rfl,rfl⟩
set_option maxHeartbeats 8000000 in
theorem rlit_out (l:List Tok) (i:Nat) (e:Int) (f:Bool) (hi:i≤l.length) (hl:l.length≤900000) (hok:l.all tokOk=true):RdC 38 [.loc 0 0] l i e f (rdP f i (litT l e i)) tlV:=by
 refine fn_enterR _ Tryz.func38 rfl rfl (by kernel_rfl) ?_
 intro O w0 E0 β0
 have ll:(l.map encTok).length=l.length:=List.length_map _
 have w0:=rhere_fn l i e f
 have w1:=rtext_fn l i e f
 repeat' (first|refine z0 ?_|apply ds_nil|apply dw_seq2|refine z16 ?_|apply thenD_n|refine z1 ?_|fail)
 (refine ds_callF id (w0) rfl rfl rfl rfl ⟨rfl,trivial⟩ rfl rfl rfl rfl rfl rfl ?_ ?_)
 ·rintro k2 res H2 ⟨rfl,rfl,rfl⟩;exact⟨rfl,rfl⟩
 rintro k2 res H2 ⟨rfl,rfl,rfl⟩
 change DS _ _ _ _ _ _ _ _
 clear w0
 repeat' (first|refine z0 ?_|apply ds_nil|apply dw_seq2|refine z16 ?_|apply thenD_n|refine z1 ?_|refine z3 ?_|fail)
 (refine ds_callF id (w1) rfl rfl rfl rfl ⟨rfl,trivial⟩ rfl rfl rfl rfl rfl rfl ?_ ?_)
 ·rintro k2 res H2 ⟨rfl,rfl,rfl⟩;exact⟨rfl,rfl⟩
 rintro k2 res H2 ⟨rfl,rfl,rfl⟩
 change DS _ _ _ _ _ _ _ _
 by_cases hn:textT l i f=⟨#[110,111,116]⟩
 ·obtain⟨rfl,hs⟩:=(text_is (by decide)).1 hn
  have hil:=seesT_lt hs
  clear w1
  have w2:=rneed_s l i e ⟨#[110,111,116]⟩ (by omega) hn
  have w3:=rtext_fn l (i + 1) e false
  have w4:=rname_out l (i + 1) e false (by omega)
  rw [hn]
  repeat' (first|refine z0 ?_|apply ds_nil|apply dw_seq2|refine z16 ?_|refine z18 ?_|apply thenD_n)
  (refine ds_callF id (w2) rfl rfl rfl rfl ⟨rfl,trivial⟩ rfl rfl rfl rfl rfl rfl ?_ ?_)
  ·rintro k2 res H2 ⟨rfl,rfl,rfl⟩;exact⟨rfl,rfl⟩
  rintro k2 res H2 ⟨rfl,rfl,rfl⟩
  change DS _ _ _ _ _ _ _ _
  clear w2
  repeat' (first|refine z0 ?_|apply ds_nil|apply dw_seq2|refine z16 ?_|apply thenD_n|refine z3 ?_|fail)
  (refine ds_callF id (w3) rfl rfl rfl rfl ⟨rfl,trivial⟩ rfl rfl rfl rfl rfl rfl ?_ ?_)
  ·rintro k2 res H2 ⟨rfl,rfl,rfl⟩;exact⟨rfl,rfl⟩
  rintro k2 res H2 ⟨rfl,rfl,rfl⟩
  change DS _ _ _ _ _ _ _ _
  clear w3
  repeat' (first|refine z0 ?_|refine z12 ?_|apply ds_nil|apply dw_seq2|refine z16 ?_|refine z18 ?_|apply thenD_n)
  (refine ds_callF id (w4) rfl rfl rfl rfl ⟨rfl,trivial⟩ rfl rfl rfl rfl rfl rfl ?_ ?_)
  ·rintro k2 res H2 ⟨rfl,s,k,g,rfl,rfl,_⟩;exact⟨rfl,rfl⟩
  rintro k2 res H2 ⟨rfl,s,k,g,rfl,rfl,h1⟩
  change DS _ _ _ _ _ _ _ _
  clear w4
  have w5:=rterms_out l k e g false (name_le (by omega) h1) hl hok
  repeat' (first|refine z0 ?_|apply ds_nil|apply dw_seq2|refine z16 ?_|apply thenD_n|refine z3 ?_|fail)
  (refine ds_callF id (w5) rfl rfl rfl rfl ⟨rfl,trivial⟩ rfl rfl rfl rfl rfl rfl ?_ ?_)
  ·rintro k2 res H2 ⟨rfl,x,m,g2,rfl,rfl,_⟩;exact⟨rfl,rfl⟩
  rintro k2 res H2 ⟨rfl,x,m,g2,rfl,rfl,h2⟩
  change DS _ _ _ _ _ _ _ _
  clear w5
  repeat' (first|refine z0 ?_|apply ds_nil|apply dw_seq2|refine z16 ?_|apply dw_ret|apply thenD_n|apply thenD_r|refine z3 ?_|fail)
  exact⟨.inl rfl,_,rfl,id,1,_,rdH l m e g2,rfl,⟨rfl,trivial⟩,rfl,rfl,rfl,rfl,rfl,rfl,rfl,⟨2,hereT l e i,0,s,x.1⟩,m,g2,rfl,rfl,lit_not hs h1 h2⟩
 have hns:f=false→seesT l i ⟨#[110,111,116]⟩=false:=fun h=>Bool.eq_false_iff.2 fun h2=>hn ((text_is (by decide)).2 ⟨h,h2⟩)
 generalize ht:textT l i f=t at hn w1
 repeat' (first|refine z0 ?_|apply ds_nil|apply dw_seq2|refine z16 ?_|apply dw_skip|apply thenD_n|(refine z23 ?_ ?_ <;> intro hg)|fail)
 all_goals try (exfalso;exact absurd (by assumption) hn)
 (refine ds_callF id (w1) rfl rfl rfl rfl ⟨rfl,trivial⟩ rfl rfl rfl rfl rfl rfl ?_ ?_)
 ·rintro k2 res H2 ⟨rfl,rfl,rfl⟩;exact⟨rfl,rfl⟩
 rintro k2 res H2 ⟨rfl,rfl,rfl⟩
 change DS _ _ _ _ _ _ _ _
 clear w1
 repeat' ((fail_if_success (apply dw_stopR 6));(first|refine z0 ?_|apply ds_nil|apply thenD_n))
 refine dw_cut (ι:=Unit) (fun _=>⟨3,[(0,.loc 0 0),(2,.loc 1 0),(3,.loc 2 0)],[(0,rdB l i e f),(1,litZ),(2,litN 1 (hereT l e i) 0 ⟨#[]⟩)]⟩) (fun _=>nameB l i f=false) ?_ ?_
 ·by_cases h0:t=⟨#[]⟩
  ·have hb:nameB l i f=false:=by
    cases f with
    | true=>rfl
    | false =>
     unfold nameB isTestT
     cases hl0:l[i]? with
     | none=>rfl
     | some x =>
      have hx:=List.mem_of_getElem? hl0
      rw [h0] at ht
      unfold textT at ht
      rw [hl0] at ht
      exact absurd ht (tok_ne (List.all_eq_true.1 hok x hx))
   clear ht
   repeat' (first|refine z0 ?_|refine z12 ?_|apply ds_nil|apply dw_seq2|refine z16 ?_|apply dw_skip|refine z19 ?_|apply thenD_n|((fail_if_success (apply ds_known;exact rfl));apply ds_guardP;exact rfl;exact rfl;exact rfl;all_goals intro hg))
   all_goals try (exfalso;first|exact absurd h0 (by assumption)|omega)
   exact⟨(),hb,ent_ren id ⟨rfl,rfl,rfl,trivial⟩ ⟨rfl,rfl,rfl,trivial⟩ rfl rfl rfl rfl rfl rfl⟩
  ·obtain⟨rfl,hil⟩:=text_ne (f:=f) (by rw [ht];exact h0)
   have hti:t=l[i].text:=by rw [← ht,text_some hil]
   obtain⟨y0,_,_,y3⟩:=tok_first (List.all_eq_true.1 hok _ (List.getElem_mem hil))
   subst hti
   have w3:=isSmall_fn l[i].text[0]
   rw [y3] at w3
   by_cases hk:l[i].kind=1
   ·have hte:isTestT l i=false:=by unfold isTestT;rw [List.getElem?_eq_getElem hil];exact decide_eq_false (by omega)
    rw [decide_eq_true hk] at w3
    have w4:=rname_out l i e false (by omega)
    clear ht
    repeat' (first|refine z0 ?_|refine z12 ?_|apply ds_nil|apply dw_seq2|refine z16 ?_|apply dw_skip|refine z18 ?_|refine z19 ?_|apply thenD_n|refine z21 ?_ (hc:=by apply w3)|((fail_if_success (apply ds_known;exact rfl));apply ds_guardP;exact rfl;exact rfl;exact rfl;all_goals intro hg))
    all_goals try (exfalso;first|exact absurd (by assumption) h0|exact absurd h0 (by assumption)|omega)
    (refine ds_callF id (w4) rfl rfl rfl rfl ⟨rfl,trivial⟩ rfl rfl rfl rfl rfl rfl ?_ ?_)
    ·rintro k2 res H2 ⟨rfl,s,k,g,rfl,rfl,_⟩;exact⟨rfl,rfl⟩
    rintro k2 res H2 ⟨rfl,s,k,g,rfl,rfl,h1⟩
    change DS _ _ _ _ _ _ _ _
    clear w4
    have w5:=rterms_out l k e g false (name_le hi h1) hl hok
    repeat' (first|refine z0 ?_|apply ds_nil|apply dw_seq2|refine z16 ?_|apply thenD_n|refine z3 ?_|fail)
    (refine ds_callF id (w5) rfl rfl rfl rfl ⟨rfl,trivial⟩ rfl rfl rfl rfl rfl rfl ?_ ?_)
    ·rintro k2 res H2 ⟨rfl,x,m,g2,rfl,rfl,_⟩;exact⟨rfl,rfl⟩
    rintro k2 res H2 ⟨rfl,x,m,g2,rfl,rfl,h2⟩
    change DS _ _ _ _ _ _ _ _
    clear w5
    repeat' (first|refine z0 ?_|apply ds_nil|apply dw_seq2|refine z16 ?_|apply dw_ret|apply thenD_n|apply thenD_r|refine z3 ?_|fail)
    exact⟨.inl rfl,_,rfl,id,1,_,rdH l m e g2,rfl,⟨rfl,trivial⟩,rfl,rfl,rfl,rfl,rfl,rfl,rfl,⟨1,hereT l e i,0,s,x.1⟩,m,g2,rfl,rfl,lit_yes (hns rfl) hte h1 h2⟩
   ·have hb:nameB l i false=false:=by unfold nameB isTestT;rw [List.getElem?_eq_getElem hil];dsimp only;rw [decide_eq_true hk];rfl
    rw [decide_eq_false hk] at w3
    clear ht
    repeat' (first|refine z0 ?_|refine z12 ?_|apply ds_nil|apply dw_seq2|refine z16 ?_|apply dw_skip|refine z19 ?_|apply thenD_n|refine z21 ?_ (hc:=by apply w3)|((fail_if_success (apply ds_known;exact rfl));apply ds_guardP;exact rfl;exact rfl;exact rfl;all_goals intro hg))
    all_goals try (exfalso;first|exact absurd (by assumption) h0|exact absurd h0 (by assumption)|omega)
    exact⟨(),hb,ent_ren id ⟨rfl,rfl,rfl,trivial⟩ ⟨rfl,rfl,rfl,trivial⟩ rfl rfl rfl rfl rfl rfl⟩
 intro _ hb
 have hb:nameB l i f=false:=hb
 clear hn
 have hno:f=false→seesT l i ⟨#[110,111,116]⟩=false∧isTestT l i=true:=fun h=>⟨hns h,by subst h;simpa [nameB] using hb⟩
 clear hb hns ht
 have w1:=rterm_out l i e f (by omega) hok
 repeat' (first|refine z0 ?_|apply dw_seq2|refine z16 ?_|fail)
 (refine ds_callF id (w1) rfl rfl rfl rfl ⟨rfl,trivial⟩ rfl rfl rfl rfl rfl rfl ?_ ?_)
 ·rintro k2 res H2 ⟨rfl,a,k,g,rfl,rfl,_⟩;exact⟨rfl,rfl⟩
 rintro k2 res H2 ⟨rfl,a,k,g,rfl,rfl,h1⟩
 change DS _ _ _ _ _ _ _ _
 clear w1
 have hk:=term_le hi h1
 have lo:(opsR.map encT).length=8:=rfl
 obtain⟨s,hs⟩:∃ s,s=textT l k g:=⟨_,rfl⟩
 have hf1:foldG opsR s 1=0:=by unfold foldG;rw [if_neg (fun h=>h.1 rfl)];unfold foldG;rfl
 repeat' (first|(refine ds_bsS opsR rfl rfl rfl rfl rfl rfl rfl rfl rfl rfl rfl rfl ?_)|(first|refine z0 ?_|apply ds_nil|apply dw_seq2|refine z16 ?_|apply dw_block|apply thenD_n|refine z1 ?_|refine z3 ?_|fail))
 refine ds_loop (ι:=Nat) (fun q=>⟨4,[(0,.loc 0 0),(2,.loc 1 0),(3,.loc 2 0),(5,.loc 3 0),(6,.d (.slice 1 (opsR.map encT))),(7,.d (.int .i64 q))],[(0,rdB l k e g),(1,litZ),(2,litN 1 (hereT l e i) (foldG opsR s q) ⟨#[]⟩),(3,.blk 49 [.d (.str a.var),.d (.int .i64 a.n)])]⟩)
  (fun q=>1≤q∧q≤8) (fun q=>8 - q) 1 ⟨by omega,by omega⟩ (ent_ren id ⟨rfl,rfl,rfl,rfl,rfl,rfl,trivial⟩ ⟨rfl,rfl,congrArg (fun z=>some (litN 1 (hereT l e i) z ⟨#[]⟩)) hf1.symm,rfl,trivial⟩ rfl rfl rfl rfl rfl rfl) ?_
 rintro q ⟨hq1,hq⟩
 dsimp only at hq1 hq ⊢
 by_cases hq8:q < 8
 ·have hql:q < opsR.length:=hq8
  have hstep:=foldG_succ (ws:=opsR) (s:=s) hq1 hql
  have w2:FnOk false Tryz.prog tab tab_ok 36 [.loc 0 0] 1 1 (rdH l k e g) (fun _ r H2=>r = .d (.str s)∧H2=rdH l k e g):=(rtext_fn l k e g).imp fun _ _ _ h=>⟨by rw [hs];exact h.2.1,h.2.2⟩
  repeat' (first|refine z0 ?_|apply ds_nil|refine z5 ?_|apply dw_seq2|refine z16 ?_|refine z20 ?_|apply dw_block|apply dw_skip|apply dw_exit|apply thenD_n|apply thenD_e|refine z17 ?_|refine z3 ?_|(refine z23 ?_ ?_ <;> intro hg)|fail)
  all_goals try (exfalso;omega)
  refine dt_callR id w2 (by rintro _ rfl;exact⟨rfl,rfl⟩) ⟨_,rfl⟩ rfl rfl rfl rfl ⟨rfl,trivial⟩ rfl rfl rfl rfl rfl rfl rfl rfl rfl ?_
  rintro _ rfl
  by_cases hsq:s=opsR[q]
  ·rw [if_pos hsq] at hstep
   repeat' (first|refine z0 ?_|apply ds_nil|refine z5 ?_|refine z10 ?_|refine z16 ?_|apply dw_skip|apply thenD_n|apply inB_n|refine z3 ?_|(refine z23 ?_ ?_ <;> intro hg)|fail)
   all_goals try (exfalso;first|omega|exact absurd hsq (by assumption))
   exact⟨q + 1,⟨by omega,by omega⟩,ent_ren id ⟨rfl,rfl,rfl,rfl,rfl,rfl,trivial⟩ ⟨rfl,rfl,congrArg (fun z=>some (litN 1 (hereT l e i) z ⟨#[]⟩)) hstep.symm,rfl,trivial⟩ rfl rfl rfl rfl rfl rfl,by show 8 - (q + 1) < 8 - q;omega⟩
  ·rw [if_neg hsq] at hstep
   repeat' (first|refine z0 ?_|apply ds_nil|refine z5 ?_|refine z10 ?_|refine z16 ?_|apply dw_skip|apply thenD_n|apply inB_n|refine z3 ?_|(refine z23 ?_ ?_ <;> intro hg)|fail)
   all_goals try (exfalso;first|omega|exact absurd (by assumption) hsq)
   exact⟨q + 1,⟨by omega,by omega⟩,ent_ren id ⟨rfl,rfl,rfl,rfl,rfl,rfl,trivial⟩ ⟨rfl,rfl,congrArg (fun z=>some (litN 1 (hereT l e i) z ⟨#[]⟩)) hstep.symm,rfl,trivial⟩ rfl rfl rfl rfl rfl rfl,by show 8 - (q + 1) < 8 - q;omega⟩
 have:q=8:=by omega
 subst this
 clear hq1 hq hq8 hf1
 obtain⟨F,hF⟩:∃ F,F=foldG opsR s 8:=⟨_,rfl⟩
 rw [← hF]
 repeat' ((fail_if_success (apply dw_stopR 17));(first|refine z0 ?_|apply ds_nil|apply dw_seq2|refine z16 ?_|apply dw_exit|refine z19 ?_|apply thenD_n|apply thenD_e|refine z17 ?_|fail))
 all_goals try (exfalso;omega)
 refine dw_cut (ι:=Nat × Bool) (fun x=>⟨4,[(0,.loc 0 0),(2,.loc 1 0),(3,.loc 2 0),(5,.loc 3 0)],[(0,rdB l x.1 e x.2),(1,litZ),(2,litN 1 (hereT l e i) F ⟨#[]⟩),(3,.blk 49 [.d (.str a.var),.d (.int .i64 a.n)])]⟩)
  (fun x=>x.1≤l.length∧rdIs (rdP g k (if F=0 then .error k else .ok ((),k + 1))) () x.1 x.2) ?_ ?_
 ·by_cases hz:F=0
  ·subst hz
   have hr:rdIs (rdP g k (if (0:Int)=0 then .error k else .ok ((),k + 1))) () k true:=by cases g <;> rfl
   repeat' (first|refine z0 ?_|apply ds_nil|apply dw_seq2|refine z16 ?_|refine z18 ?_|apply thenD_n|refine z3 ?_|fail)
   all_goals try (exfalso;omega)
   exact⟨(k,true),⟨hk,hr⟩,ent_ren id ⟨rfl,rfl,rfl,rfl,trivial⟩ ⟨rfl,rfl,rfl,rfl,trivial⟩ rfl rfl rfl rfl rfl rfl⟩
  ·obtain⟨q,hq,hFq,hsq⟩:=foldO_text (s:=s) (by rw [← hF];exact hz)
   rw [← hF] at hFq
   cases g with
   | true=>rw [hF,hs,textT_failed,foldO_none] at hz;exact absurd rfl hz
   | false =>
    have hkl:k < l.length:=by
     refine Classical.byContradiction fun hn=>hz ?_
     have:textT l k false=⟨#[]⟩:=by unfold textT;rw [List.getElem?_eq_none (by omega)]
     rw [hF,hs,this,foldO_none]
    have hr:rdIs (rdP false k (if F=0 then .error k else .ok ((),k + 1))) () (k + 1) false:=by show (if F=0 then _ else _)=_;rw [if_neg hz]
    have w3:=rneed_s l k e opsR[q] (by omega) (by rw [← hs];exact hsq)
    clear hF hs hsq
    subst hFq
    have hq8:q < 8:=hq
    repeat' (first|refine z0 ?_|apply ds_nil|apply dw_seq2|refine z16 ?_|apply thenD_n|refine z3 ?_|(refine z23 ?_ ?_ <;> intro hg)|fail)
    all_goals try (exfalso;omega)
    (refine ds_callF id (w3) rfl rfl rfl rfl ⟨rfl,trivial⟩ rfl rfl rfl rfl rfl rfl ?_ ?_)
    ·rintro k2 res H2 ⟨rfl,rfl,rfl⟩;exact⟨rfl,rfl⟩
    rintro k2 res H2 ⟨rfl,rfl,rfl⟩
    change DS _ _ _ _ _ _ _ _
    clear w3
    repeat' (first|apply ds_nil|apply thenD_n)
    exact⟨(k + 1,false),⟨hkl,hr⟩,ent_ren id ⟨rfl,rfl,rfl,rfl,trivial⟩ ⟨rfl,rfl,rfl,rfl,trivial⟩ rfl rfl rfl rfl rfl rfl⟩
 rintro⟨k',g'⟩ ⟨hk',h2⟩
 dsimp only at hk' h2 ⊢
 rw [hs] at hF
 clear hs
 have w3:=rterm_out l k' e g' (by omega) hok
 repeat' (first|refine z0 ?_|apply dw_seq2|refine z16 ?_|fail)
 (refine ds_callF id (w3) rfl rfl rfl rfl ⟨rfl,trivial⟩ rfl rfl rfl rfl rfl rfl ?_ ?_)
 ·rintro k2 res H2 ⟨rfl,b,m,g3,rfl,rfl,_⟩;exact⟨rfl,rfl⟩
 rintro k2 res H2 ⟨rfl,b,m,g3,rfl,rfl,h3⟩
 change DS _ _ _ _ _ _ _ _
 clear w3
 have hm:=term_le hk' h3
 by_cases h5:F < 5
 ·have hend:=lit_test2 (e:=e) hno h1 hF h2 h3 h5
  clear hno h1 hF h2 h3
  repeat' (first|refine z0 ?_|apply ds_nil|apply dw_seq2|refine z16 ?_|apply dw_skip|apply dw_ret|apply thenD_n|refine z1 ?_|refine z3 ?_|refine z4 ?_|(refine z23 ?_ ?_ <;> intro hg)|fail)
  all_goals try (exfalso;omega)
  exact⟨.inl rfl,_,rfl,id,1,_,rdH l m e g3,rfl,⟨rfl,trivial⟩,rfl,rfl,rfl,rfl,rfl,rfl,rfl,⟨3,hereT l e i,F,⟨#[]⟩,[a,b]⟩,m,g3,rfl,rfl,hend⟩
 obtain⟨m',g4,w4,hd4⟩:=rneed_c l m e g3 ⟨#[61]⟩ (by decide) (by omega)
 have h4:=need_is hd4
 have hm':=need_lt hm hd4
 clear hd4
 repeat' (first|(refine ds_bsR [encTTm a,encTTm b] rfl rfl rfl rfl rfl rfl rfl rfl rfl rfl (by intro x hx;simp only [List.mem_cons,List.not_mem_nil,or_false] at hx;rcases hx with rfl|rfl <;> rfl) rfl rfl rfl ?_)|(first|refine z0 ?_|apply ds_nil|apply dw_seq2|refine z16 ?_|apply dw_skip|apply thenD_n|refine z1 ?_|refine z3 ?_|(refine z23 ?_ ?_ <;> intro hg)|fail))
 all_goals try (exfalso;omega)
 (refine ds_callF id (w4) rfl rfl rfl rfl ⟨rfl,trivial⟩ rfl rfl rfl rfl rfl rfl ?_ ?_)
 ·rintro k2 res H2 ⟨rfl,rfl,rfl⟩;exact⟨rfl,rfl⟩
 rintro k2 res H2 ⟨rfl,rfl,rfl⟩
 change DS _ _ _ _ _ _ _ _
 clear w4
 have w5:=rdBl (rterm_out l m' e g4 (by omega) hok) (fun _=>rfl)
 have hne:=rdIs_ex (rdP g4 m' (termT l m')) (⟨⟨#[]⟩,0⟩:TTm)
 repeat' (first|apply ds_nil|refine z5 ?_|refine z20 ?_|apply thenD_n)
 refine dt_callB 0 w5 rfl rfl rfl rfl rfl rfl rfl rfl (by obtain⟨x,k,g,h⟩:=hne;exact⟨_,_,x,k,g,rfl,rfl,h⟩) ?_
 rintro _ _ ⟨c,q,g5,rfl,rfl,h6⟩
 clear w5 hne
 have hend:=lit_test3 (e:=e) hno h1 hF h2 h3 h5 h4 h6
 clear hno h1 hF h2 h3 h4 h6
 repeat' ((fail_if_success (apply dw_stopS 27));(first|refine z5 ?_|refine z6 ?_|refine z9 ?_|refine z11 ?_|apply thenD_n))
 refine dw_ent (ent_cellseal 2 4 11 rfl rfl rfl rfl rfl) ?_
 repeat' (first|refine z0 ?_|apply ds_nil|apply dw_seq2|refine z16 ?_|apply dw_ret|apply thenD_n|refine z3 ?_|fail)
 exact⟨.inl rfl,_,rfl,id,1,_,rdH l q e g5,rfl,⟨rfl,trivial⟩,rfl,rfl,rfl,rfl,rfl,rfl,rfl,⟨4,hereT l e i,F,⟨#[]⟩,[a,b,c]⟩,q,g5,rfl,rfl,hend⟩
abbrev truV (x:TRu):SV:=.agg [.d (.int .i64 x.at_),.d (.str x.name),.d (.slice 2 (x.terms.map encTTm)),.d (.int .i64 x.fold),.d (.slice 5 (x.body.map encTLt))]
set_option maxHeartbeats 8000000 in
theorem prule_fn (l:List Tok) (i:Nat) (e:Int) (hi:i≤l.length) (hl:l.length≤900000) (hok:l.all tokOk=true):FnOkE false Tryz.prog tab tab_ok 58 [.loc 0 0] 1 1 (prH l i e) (fun k r H=>∃ x j,ruleT l e i = .ok (x,j)∧k=1∧r=truV x∧H=prH l j e) (fun v=>∃ j,ruleT l e i = .error j∧v=plV (hereT l e j)):=by
 refine fn_enterRE _ Tryz.func58 rfl rfl (by kernel_rfl) ?_
 intro O w0 E0 β0
 have ll:(l.map encTok).length=l.length:=List.length_map _
 have w0:=here_fn l i e
 repeat' (first|refine z0 ?_|apply ds_nil|apply dw_seq2|refine z16 ?_|apply thenD_n|refine z1 ?_|fail)
 (refine ds_callF id (w0) rfl rfl rfl rfl ⟨rfl,trivial⟩ rfl rfl rfl rfl rfl rfl ?_ ?_)
 ·rintro k2 res H2 ⟨rfl,rfl,rfl⟩;exact⟨rfl,rfl⟩
 rintro k2 res H2 ⟨rfl,rfl,rfl⟩
 change DS _ _ _ _ _ _ _ _
 clear w0
 unfold ruleT
 have w2:=pname_fn l i e (by omega)
 repeat' (first|refine z0 ?_|apply ds_nil|apply dw_seq2|refine z16 ?_|apply thenD_n|refine z1 ?_|refine z3 ?_|fail)
 (refine ds_callE id (w2) rfl rfl rfl rfl ⟨rfl,trivial⟩ rfl rfl rfl rfl rfl rfl ?_ ?_ ?_)
 ·rintro v ⟨h,rfl⟩;exact⟨_,by rw [h],rfl⟩
 ·rintro k2 res H2 ⟨s,_,rfl,rfl,rfl⟩;exact⟨rfl,rfl⟩
 rintro k2 res H2 ⟨s,h2,rfl,rfl,rfl⟩
 change DS _ _ _ _ _ _ _ _
 clear w2
 rw [h2]
 dsimp only
 obtain⟨_,h2l⟩:=nameT_lt h2
 have w3:=pterms_fn l (i + 1) e true (by omega) hl hok
 repeat' (first|refine z0 ?_|apply ds_nil|apply dw_seq2|refine z16 ?_|apply thenD_n|refine z3 ?_|fail)
 (refine ds_callE id (w3) rfl rfl rfl rfl ⟨rfl,trivial⟩ rfl rfl rfl rfl rfl rfl ?_ ?_ ?_)
 ·rintro v ⟨m,h,rfl⟩;exact⟨m,by rw [h],rfl⟩
 ·rintro k2 res H2 ⟨x,f,j,_,_,rfl,rfl,rfl⟩;exact⟨rfl,rfl⟩
 rintro k2 res H2 ⟨ts,f,m,h3,h3l,rfl,rfl,rfl⟩
 change DS _ _ _ _ _ _ _ _
 clear w3
 rw [h3]
 dsimp only
 repeat' ((fail_if_success (apply dw_stopS 4));(first|refine z0 ?_|apply ds_nil|apply dw_seq2|apply thenD_n|refine z3 ?_|fail))
 refine dw_cut (ι:=Bool) (fun b=>⟨3,[(0,.loc 0 0),(2,.loc 1 0),(3,.loc 2 0),(24,.d (.bool b))],[(0,prB l (match b with|true=>m + 1|false=>m) e),(1,.blk 47 [.d (.int .i64 0),.d (.str ⟨#[]⟩),.nils,.d (.int .i64 0),.nils]),(2,.blk 47 [.d (.int .i64 (hereT l e i)),.d (.str s),.d (.slice 2 (ts.map encTTm)),.d (.int .i64 f),.nils])]⟩) (fun b=>b=decide (f=0∧seesT l m ⟨#[46]⟩=true)) ?_ ?_
 ·by_cases hf:f=0
  ·have w4:=ptake_fn l m e ⟨#[46]⟩ (by omega)
   repeat' (first|refine z0 ?_|refine z12 ?_|apply ds_nil|refine z16 ?_|apply thenD_n|((fail_if_success (apply ds_known;exact rfl));apply ds_guardP;exact rfl;exact rfl;exact rfl;all_goals intro hg))
   all_goals try (exfalso;omega)
   (refine ds_callF id (w4) rfl rfl rfl rfl ⟨rfl,trivial⟩ rfl rfl rfl rfl rfl rfl ?_ ?_)
   ·rintro k2 res H2 ⟨rfl,rfl,rfl⟩;exact⟨rfl,rfl⟩
   rintro k2 res H2 ⟨rfl,rfl,rfl⟩
   change DS _ _ _ _ _ _ _ _
   clear w4
   cases hd:seesT l m ⟨#[46]⟩ with
   | true =>
    repeat' (first|refine z0 ?_|apply ds_nil|apply thenD_n)
    exact⟨true,(decide_eq_true ⟨hf,rfl⟩).symm,ent_ren id ⟨rfl,rfl,rfl,rfl,trivial⟩ ⟨rfl,rfl,rfl,trivial⟩ rfl rfl rfl rfl rfl rfl⟩
   | false =>
    repeat' (first|refine z0 ?_|apply ds_nil|apply thenD_n)
    exact⟨false,(decide_eq_false (fun h=>by cases h.2)).symm,ent_ren id ⟨rfl,rfl,rfl,rfl,trivial⟩ ⟨rfl,rfl,rfl,trivial⟩ rfl rfl rfl rfl rfl rfl⟩
  ·repeat' (first|refine z0 ?_|refine z12 ?_|apply ds_nil|refine z16 ?_|apply thenD_n|((fail_if_success (apply ds_known;exact rfl));apply ds_guardP;exact rfl;exact rfl;exact rfl;all_goals intro hg))
   all_goals try (exfalso;omega)
   exact⟨false,(decide_eq_false (fun h=>hf h.1)).symm,ent_ren id ⟨rfl,rfl,rfl,rfl,trivial⟩ ⟨rfl,rfl,rfl,trivial⟩ rfl rfl rfl rfl rfl rfl⟩
 ·intro b hb
  cases b with
  | true =>
   obtain⟨hf,hd⟩:=of_decide_eq_true hb.symm
   rw [if_pos ⟨hf,hd⟩]
   have:=seesT_lt hd
   dsimp only
   refine dw_ent (ent_cellnil 2 4 5 rfl rfl rfl) ?_
   repeat' (first|refine z0 ?_|apply ds_nil|apply dw_seq2|refine z16 ?_|apply dw_ret|refine z18 ?_|apply thenD_n|apply thenD_r|refine z3 ?_|fail)
   exact⟨.inl rfl,_,rfl,id,1,_,prH l (m + 1) e,rfl,⟨rfl,trivial⟩,rfl,rfl,rfl,rfl,rfl,rfl,⟨hereT l e i,s,ts,f,[]⟩,m + 1,rfl,rfl,rfl,rfl⟩
  | false =>
   rw [if_neg (of_decide_eq_false hb.symm)]
   clear hb
   dsimp only
   have w5:=need_fn l m e ⟨#[58,45]⟩ (by omega)
   refine dw_ent (ent_cellrow 2 4 51 5 rfl rfl rfl) ?_
   repeat' (first|refine z0 ?_|apply dw_seq2|refine z16 ?_|apply dw_skip|refine z19 ?_|apply thenD_n)
   (refine ds_callE id (w5) rfl rfl rfl rfl ⟨rfl,trivial⟩ rfl rfl rfl rfl rfl rfl ?_ ?_ ?_)
   ·rintro v ⟨hs,rfl⟩;exact⟨m,by rw [hs];rfl,rfl⟩
   ·rintro k2 res H2 ⟨_,rfl,rfl,rfl⟩;exact⟨rfl,rfl⟩
   rintro k2 res H2 ⟨hs,rfl,rfl,rfl⟩
   change DS _ _ _ _ _ _ _ _
   clear w5
   have hml:=seesT_lt hs
   rw [hs,if_pos rfl]
   repeat' (first|apply ds_nil|apply dw_seq2|apply dw_block|apply thenD_n)
   refine ds_loop (ι:=Nat × List TLt × Nat) (fun x=>⟨4,[(0,.loc 0 0),(2,.loc 1 0),(3,.loc 2 0)],[(0,prB l x.1 e),(1,.blk 47 [.d (.int .i64 0),.d (.str ⟨#[]⟩),.nils,.d (.int .i64 0),.nils]),(2,.blk 47 [.d (.int .i64 (hereT l e i)),.d (.str s),.d (.slice 2 (ts.map encTTm)),.d (.int .i64 f),.row 3]),(3,.row 51 5 (x.2.1.map encTLt))]⟩)
    (fun x=>litsGo l e (l.length + 1) (m + 1) []=litsGo l e x.2.2 x.1 x.2.1∧x.1≤l.length∧l.length < x.2.2 + x.1∧x.2.1.length≤x.1) (fun x=>x.2.2) (m + 1,[],l.length + 1) ⟨rfl,by show m + 1≤l.length;omega,by show l.length < l.length + 1 + (m + 1);omega,Nat.zero_le _⟩ (ent_ren id ⟨rfl,rfl,rfl,trivial⟩ ⟨rfl,rfl,rfl,rfl,trivial⟩ rfl rfl rfl rfl rfl rfl) ?_
   rintro⟨j,acc,n⟩ ⟨ht,hj,hn,ha⟩
   dsimp only at ht hj hn ha ⊢
   obtain⟨n,rfl⟩:∃ m,n=m + 1:=⟨n - 1,by omega⟩
   rw [ht,litsGo_succ]
   have w6:=plit_fn l j e hj hl hok
   repeat' (first|refine z0 ?_|apply dw_seq2|refine z16 ?_|apply dw_block)
   (refine ds_callE id (w6) rfl rfl rfl rfl ⟨rfl,trivial⟩ rfl rfl rfl rfl rfl rfl ?_ ?_ ?_)
   ·rintro v ⟨q,h,rfl⟩;exact⟨q,by rw [h],rfl⟩
   ·rintro k2 res H2 ⟨x,q,_,rfl,rfl,rfl⟩;exact⟨rfl,rfl⟩
   rintro k2 res H2 ⟨x,q,h6,rfl,rfl,rfl⟩
   change DS _ _ _ _ _ _ _ _
   clear w6
   obtain⟨q1,q2⟩:=litT_lt h6
   rw [h6]
   dsimp only
   have lac:(acc.map encTLt).length=acc.length:=List.length_map _
   have hap:(acc++[x]).map encTLt=acc.map encTLt++[encTLt x]:=List.map_append
   have w7:=ptake_fn l q e ⟨#[44]⟩ (by omega)
   repeat' (first|refine z0 ?_|apply ds_nil|apply dw_seq2|refine z16 ?_|apply thenD_n|refine z1 ?_|refine z3 ?_|refine z4 ?_|refine z2 ?_|fail)
   (refine ds_callF id (w7) rfl rfl rfl rfl ⟨rfl,trivial⟩ rfl rfl rfl rfl rfl rfl ?_ ?_)
   ·rintro k2 res H2 ⟨rfl,rfl,rfl⟩;exact⟨rfl,rfl⟩
   rintro k2 res H2 ⟨rfl,rfl,rfl⟩
   change DS _ _ _ _ _ _ _ _
   clear w7
   cases hc:seesT l q ⟨#[44]⟩ with
   | true =>
    have:=seesT_lt hc
    repeat' (first|refine z0 ?_|apply ds_nil|apply dw_skip|refine z19 ?_|apply thenD_n|apply inB_n)
    exact⟨(q + 1,acc++[x],n),⟨if_pos rfl,by show q + 1≤l.length;omega,by show l.length < n + (q + 1);omega,by show (acc++[x]).length≤q + 1;rw [List.length_append];simp;omega⟩,ent_ren (fun x=>match x with|0=>0|1=>1|2=>2|_=>_) ⟨rfl,rfl,rfl,trivial⟩ ⟨rfl,rfl,rfl,by dsimp only;rw [hap];rfl,trivial⟩ rfl rfl rfl rfl rfl rfl,by show n < n + 1;omega⟩
   | false =>
    rw [if_neg (fun h=>Bool.noConfusion h)]
    dsimp only
    have w8:=need_fn l q e ⟨#[46]⟩ (by omega)
    repeat' (first|refine z0 ?_|apply ds_nil|apply dw_seq2|refine z16 ?_|apply dw_exit|refine z18 ?_|apply thenD_n|apply thenD_e|refine z17 ?_|(apply inB_x;exact rfl))
    (refine ds_callE id (w8) rfl rfl rfl rfl ⟨rfl,trivial⟩ rfl rfl rfl rfl rfl rfl ?_ ?_ ?_)
    ·rintro v ⟨h,rfl⟩;exact⟨q,by rw [h];rfl,rfl⟩
    ·rintro k2 res H2 ⟨_,rfl,rfl,rfl⟩;exact⟨rfl,rfl⟩
    rintro k2 res H2 ⟨h8,rfl,rfl,rfl⟩
    change DS _ _ _ _ _ _ _ _
    clear w8
    have:=seesT_lt h8
    rw [h8,if_pos rfl]
    repeat' ((fail_if_success (apply dw_stopS 11));(first|apply ds_nil|apply thenD_n))
    refine dw_ent (ent_cellseal 2 4 6 rfl rfl rfl rfl rfl) ?_
    repeat' (first|refine z0 ?_|apply ds_nil|apply dw_seq2|refine z16 ?_|apply dw_ret|apply thenD_n|refine z3 ?_|fail)
    exact⟨.inl rfl,_,rfl,id,1,.agg [.d (.int .i64 (hereT l e i)),.d (.str s),.d (.slice 2 (ts.map encTTm)),.d (.int .i64 f),.d (.slice 5 (acc.map encTLt++[encTLt x]))],prH l (q + 1) e,rfl,⟨rfl,trivial⟩,rfl,rfl,rfl,rfl,rfl,rfl,⟨hereT l e i,s,ts,f,acc++[x]⟩,q + 1,rfl,rfl,by dsimp only [truV];rw [hap],rfl⟩
section
variable {Γ : Ctx} {k : Nat} {L : Sl} {H : Hp}
theorem ev_bin_run {b:BinOp} {t t2 ty:TypeId} {x:Operand} {u v:Value} {r:Bool} (hx:opSV L x = .val u) (hxo:opOkB x=true)
  (h1:∀ w,(eqGuard b t x (.const v) u v).run Γ.P w = .ok () w) (h2:∀ w,(binOp b t u v).run Γ.P w = .ok (.bool r) w):Ev Γ (lo k) L H (.binOp b t x (.const v) t2) ty (.d (.bool r)):=by
 unfold Ev
 intro e a w m
 have hr:=m.op x (opOkB_spec hxo)
 rw [hx] at hr
 have hv:a.eval x=u:=hr
 refine⟨.bool r,fun _ _ _ _ w' _=>?_,.bool⟩
 have hc:a.eval (.const v)=v:=rfl
 simp [execOp,hv,hc,h1,h2]
theorem ev_assert_run {t t2 ty:TypeId} {x:Operand} {kd:IntKind} {n:Int} (hx:opSV L x = .val (.iface t (.int kd n))) (hxo:opOkB x=true)
  (hrun:∀ w,(Instr.typeAssert (.iface t (.int kd n)) t2 t true).run Γ.P w = .ok (.tuple #[.int kd n,.bool true]) w) (hn:(Lit.int kd n).wf=true):Ev Γ (lo k) L H (.typeAssert x t2 t true) ty (.tup [.d (.int kd n),.d (.bool true)]):=by
 unfold Ev
 intro e a w m
 have hr:=m.op x (opOkB_spec hxo)
 rw [hx] at hr
 have hv:a.eval x = .iface t (.int kd n):=hr
 refine⟨.tuple #[.int kd n,.bool true],fun _ _ _ _ w' _=>?_,_,rfl,⟨.int hn,.bool,trivial⟩⟩
 simp [execOp,hv,hrun]
end
abbrev treeV (rs:List TRu):SV:=.agg [.d (.slice 5 (rs.map encTRu))]
def parseMay (l:List Tok) (e:Int) (v:Value) (H:Hp):Prop:=∃ j acc,rulesGo l e (l.length + 1) 0 [] = .error j∧v=plV (hereT l e j)∧H=[(1,.blk 24 [.row 4]),(2,.blk 3 [.d (.int .i64 0)]),(3,.blk 25 [.d (.int .i64 0)]),(4,.row 47 5 acc)]
def parseRC (l:List Tok) (e:Int) (_:Nat) (H:Hp):Prop:=∃ j,rulesGo l e (l.length + 1) 0 [] = .error j∧Hp.get H 1=some (.blk 24 [.nils])∧Hp.get H 2=some (.blk 3 [.d (.int .i64 (hereT l e j))])∧Hp.get H 3=some (.blk 25 [.d (.int .i64 1)])
def parseR (l:List Tok) (e:Int) (k:Nat) (r:SV) (H:Hp):Prop:=k=1∧H=[]∧r=match rulesGo l e (l.length + 1) 0 [] with
 | .ok rs=>.tup [treeV rs,.d (.int .i64 0),.d (.int .i64 0)]
 | .error j=>.tup [.agg [.nils],.d (.int .i64 (hereT l e j)),.d (.int .i64 1)]
set_option maxHeartbeats 8000000 in
theorem parse1_catch (l:List Tok) (e:Int) (hh:∀ j,(Lit.int .i64 (hereT l e j)).wf=true):CatchOk false Tryz.prog tab tab_ok 57 [1,2,3] 4 (parseMay l e) (parseRC l e):=by
 refine catch_of _ Tryz.func57 rfl rfl rfl (by decide) (by decide) (by decide) ?_
 rintro O w0 E0 β0 v k H ⟨j,acc,hj,rfl,rfl⟩
 repeat' (first|refine z0 ?_|apply dw_seq2|refine z16 ?_|fail)
 change DS _ _ _ _ _ _ _ _
 refine ds_ev (ev_bin_run (r:=true) rfl rfl (fun w=>rfl) (fun w=>by kernel_rfl)) rfl rfl ?_
 repeat' (first|refine z0 ?_|apply ds_nil|apply dw_seq2|refine z16 ?_|refine z18 ?_|apply thenD_n)
 refine ds_ev (ev_assert_run rfl rfl (fun w=>by kernel_rfl) (hh j)) rfl rfl ?_
 repeat' (first|refine z0 ?_|apply ds_nil|apply dw_seq2|refine z16 ?_|apply dw_skip|refine z19 ?_|apply thenD_n|refine z3 ?_|fail)
 exact⟨.inl rfl,j,hj,rfl,rfl,rfl⟩
set_option maxHeartbeats 8000000 in
theorem parse1_idle:IdleOk false Tryz.prog 57:=by
 refine idle_of tab tab_ok Tryz.func57 rfl rfl (by decide) (by decide) ?_
 intro w0 N hN
 obtain⟨n,rfl⟩:∃ n,N=n + Tryz.f57.ntmps:=⟨N - Tryz.f57.ntmps,by omega⟩
 repeat' (first|refine z0 ?_|apply dw_seq2|refine z16 ?_|fail)
 change DS _ _ _ _ _ _ _ _
 refine ds_ev (ev_bin_run (r:=false) rfl rfl (fun w=>rfl) (fun w=>by kernel_rfl)) rfl rfl ?_
 repeat' (first|apply ds_nil|apply dw_skip|refine z19 ?_|apply thenD_n)
 exact .inl rfl
set_option maxHeartbeats 8000000 in
theorem pparse_fn (l:List Tok) (e:Int) (hh:∀ j,(Lit.int .i64 (hereT l e j)).wf=true) (hl:l.length≤900000) (hok:l.all tokOk=true):FnOk false Tryz.prog tab tab_ok 31 [.loc 0 0] 1 1 (prH l 0 e) (parseR l e):=by
 refine FnOk.kept ?_
 have ll:(l.map encTok).length=l.length:=List.length_map _
 refine fn_enterDef (g:=57) (JA:=4) (kA:=4) (LA:=[(2,.loc 1 0),(3,.loc 2 0),(4,.loc 3 0),(0,.loc 0 0)]) (HA:=[(0,prB l 0 e),(1,.blk 24 [.nils]),(2,.blk 3 [.d (.int .i64 0)]),(3,.blk 25 [.d (.int .i64 0)])]) (ids:=[1,2,3]) (rs:=[(2,1),(3,2),(4,3)]) (may:=parseMay l e) (RC:=parseRC l e) _ Tryz.func31 rfl rfl (by kernel_rfl) (by kernel_rfl) (by decide) (by decide) (by decide) rfl rfl (by decide) ?_ ?_ parse1_idle (parse1_catch l e hh) ?_
 ·intro O w0 E0 β0
  repeat' (first|apply ds_nil|refine z16 ?_|refine z1 ?_|fail)
  exact⟨rfl,ent_ren id ⟨rfl,rfl,rfl,rfl,trivial⟩ ⟨rfl,rfl,rfl,rfl,trivial⟩ rfl rfl rfl rfl rfl rfl⟩
 ·intro O w0 E0 β0
  refine dw_ent (ent_cellrow 1 0 47 5 rfl rfl rfl) ?_
  repeat' (first|apply dw_seq2|apply dw_block)
  refine ds_loop (ι:=Nat × List TRu × Nat) (fun x=>⟨5,[(0,.loc 0 0),(2,.loc 1 0),(3,.loc 2 0),(4,.loc 3 0)],[(0,prB l x.1 e),(1,.blk 24 [.row 4]),(2,.blk 3 [.d (.int .i64 0)]),(3,.blk 25 [.d (.int .i64 0)]),(4,.row 47 5 (x.2.1.map encTRu))]⟩)
   (fun x=>rulesGo l e (l.length + 1) 0 []=rulesGo l e x.2.2 x.1 x.2.1∧x.1≤l.length∧l.length < x.2.2 + x.1∧x.2.1.length≤x.1) (fun x=>x.2.2) (0,[],l.length + 1) ⟨rfl,Nat.zero_le _,Nat.lt_succ_self _,Nat.le_refl _⟩ (ent_ren id ⟨rfl,rfl,rfl,rfl,trivial⟩ ⟨rfl,rfl,rfl,rfl,rfl,trivial⟩ rfl rfl rfl rfl rfl rfl) ?_
  rintro⟨j,acc,n⟩ ⟨ht,hj,hn,ha⟩
  dsimp only at ht hj hn ha ⊢
  obtain⟨n,rfl⟩:∃ m,n=m + 1:=⟨n - 1,by omega⟩
  rw [rulesGo_succ l e n j acc] at ht
  by_cases hjl:j < l.length
  ·rw [if_pos hjl] at ht
   have w1:=prule_fn l j e hj hl hok
   repeat' (first|refine z0 ?_|apply ds_nil|refine z5 ?_|refine z10 ?_|apply dw_seq2|refine z16 ?_|refine z20 ?_|apply dw_block|apply dw_skip|apply dw_exit|apply thenD_n|apply thenD_e|refine z17 ?_|refine z3 ?_|(refine z23 ?_ ?_ <;> intro hg)|fail)
   all_goals try (exfalso;omega)
   (refine ds_callE id (w1) rfl rfl rfl rfl ⟨rfl,trivial⟩ rfl rfl rfl rfl rfl rfl ?_ ?_ ?_)
   ·rintro v ⟨q,h,rfl⟩
    exact⟨by intro p hp;simp only [List.mem_cons,List.not_mem_nil,or_false] at hp;rcases hp with rfl|rfl|rfl <;> rfl,q,acc.map encTRu,by rw [ht,h],rfl,rfl⟩
   ·rintro k2 res H2 ⟨x,q,_,rfl,rfl,rfl⟩;exact⟨rfl,rfl⟩
   rintro k2 res H2 ⟨x,q,h6,rfl,rfl,rfl⟩
   change DS _ _ _ _ _ _ _ _
   clear w1
   obtain⟨q1,q2⟩:=ruleT_lt h6
   rw [h6] at ht
   dsimp only at ht
   have lac:(acc.map encTRu).length=acc.length:=List.length_map _
   have hap:(acc++[x]).map encTRu=acc.map encTRu++[encTRu x]:=List.map_append
   repeat' (first|refine z0 ?_|apply ds_nil|refine z16 ?_|apply thenD_n|apply inB_n|refine z1 ?_|refine z3 ?_|refine z4 ?_|refine z2 ?_|fail)
   all_goals try (exfalso;omega)
   exact⟨(q,acc++[x],n),⟨ht,q2,by show l.length < n + q;omega,by show (acc++[x]).length≤q;rw [List.length_append];simp;omega⟩,ent_ren (fun x=>match x with|0=>0|1=>1|2=>2|3=>3|_=>_) ⟨rfl,rfl,rfl,rfl,trivial⟩ ⟨rfl,rfl,rfl,rfl,by dsimp only;rw [hap];rfl,trivial⟩ rfl rfl rfl rfl rfl rfl,by show n < n + 1;omega⟩
  ·rw [if_neg hjl] at ht
   repeat' ((fail_if_success (apply dw_stopS 5));(first|refine z0 ?_|refine z5 ?_|refine z10 ?_|apply dw_seq2|refine z16 ?_|refine z20 ?_|apply dw_block|apply dw_skip|apply dw_exit|apply thenD_n|apply thenD_e|refine z17 ?_|(refine z23 ?_ ?_ <;> intro hg)|fail))
   all_goals try (exfalso;omega)
   refine dw_ent (ent_cellseal 1 0 4 rfl rfl rfl rfl rfl) ?_
   repeat' (first|refine z0 ?_|apply ds_nil|apply dw_seq2|refine z16 ?_|apply dw_ret|apply thenD_n|refine z3 ?_|fail)
   unfold parseR
   rw [ht]
   exact⟨.inl rfl,_,rfl,id,1,_,[],rfl,trivial,rfl,rfl,rfl,rfl,rfl,rfl,rfl,rfl,rfl⟩
 ·rintro k H ⟨j,hj,h1,h2,h3⟩
  unfold parseR
  rw [hj]
  refine⟨.tup [.agg [.nils],.d (.int .i64 (hereT l e j)),.d (.int .i64 1)],?_,id,1,_,[],rfl,trivial,rfl,rfl,rfl,rfl,rfl,rfl,rfl,rfl,rfl⟩
  have e1:resOne (locSl [(2,1),(3,2),(4,3)]) H tab (.cell 2 24)=some (.agg [.nils]):=by
   show (match Hp.get H 1 with
    | some (.blk _ cs)=>(match (tiGet tab 24).sh with
     | .struct _=>(match Nat.ble (0 + (tiGet tab 24).cells) cs.length with
      | true=>some (SV.agg ((cs.drop 0).take (tiGet tab 24).cells))
      | false=>none)
     | .other=>none
     | _=>cs[0]?)
    | _=>none)=_
   rw [h1];rfl
  have e2:resOne (locSl [(2,1),(3,2),(4,3)]) H tab (.cell 3 3)=some (.d (.int .i64 (hereT l e j))):=by
   show (match Hp.get H 2 with
    | some (.blk _ cs)=>(match (tiGet tab 3).sh with
     | .struct _=>(match Nat.ble (0 + (tiGet tab 3).cells) cs.length with
      | true=>some (SV.agg ((cs.drop 0).take (tiGet tab 3).cells))
      | false=>none)
     | .other=>none
     | _=>cs[0]?)
    | _=>none)=_
   rw [h2];rfl
  have e3:resOne (locSl [(2,1),(3,2),(4,3)]) H tab (.cell 4 25)=some (.d (.int .i64 1)):=by
   show (match Hp.get H 3 with
    | some (.blk _ cs)=>(match (tiGet tab 25).sh with
     | .struct _=>(match Nat.ble (0 + (tiGet tab 25).cells) cs.length with
      | true=>some (SV.agg ((cs.drop 0).take (tiGet tab 25).cells))
      | false=>none)
     | .other=>none
     | _=>cs[0]?)
    | _=>none)=_
   rw [h3];rfl
  show resSV _ H tab [.cell 2 24,.cell 3 3,.cell 4 25]=_
  simp only [resSV,resL,e1,e2,e3]
abbrev elTTm (t:TTm):SV:=.agg [.d (.str t.var),.d (.int .i64 t.n)]
abbrev elTLt (x:TLt):SV:=.agg [.d (.int .i64 x.kind),.d (.int .i64 x.at_),.d (.int .i64 x.op),.d (.str x.name),.d (.slice 2 (x.terms.map encTTm))]
abbrev elTRu (x:TRu):SV:=.agg [.d (.int .i64 x.at_),.d (.str x.name),.d (.slice 2 (x.terms.map encTTm)),.d (.int .i64 x.fold),.d (.slice 5 (x.body.map encTLt))]
attribute [local irreducible] DT
set_option maxHeartbeats 8000000 in
theorem indexTm_fn {f:FuncId} {caps:List SV} (p:TTm→Bool) (l:List (TTm)) (hcap:SV.lowL 0 caps=true) (hp:∀ x∈l,Fn f (elTTm x::caps) (fun r=>r = .d (.bool (p x)))):Fn 111 [.d (.slice 2 (l.map encTTm)),.fn f caps] (fun r=>r = .d (.int .i64 (idxF p l))):=by
 refine fnp_enter' _ Tryz.func111 rfl rfl (by kernel_rfl) ?_
 intro O w0 E0 β0
 refine dw_len_map (t:=0) rfl fun hb=>?_
 repeat' (first|refine z0 ?_|apply ds_nil|apply dw_seq2|refine z16 ?_|apply dw_block|apply thenD_n)
 refine ds_loop (ι:=Nat) (fun i=>⟨0,[(0,.d (.slice 2 (l.map encTTm))),(1,.fn f caps),(7,.d (.int .i64 l.length)),(8,.d (.int .i64 i))],[]⟩)
  (fun i=>i≤l.length∧∀ j (hj:j < l.length),j < i→p l[j]=false) (fun i=>l.length - i) 0 ⟨Nat.zero_le _,fun j _ h=>absurd h (Nat.not_lt_zero j)⟩
  (ent_ren id ⟨rfl,congrArg (SV.fn f) (SV.renL_id caps).symm,by simp;rfl,rfl,trivial⟩ trivial (by simp [Sl.low,SV.low,hcap]) rfl rfl rfl rfl rfl) ?_
 rintro i ⟨h1,h2⟩
 repeat' (first|refine z0 ?_|apply ds_nil|apply dw_seq2|refine z16 ?_|apply thenD_n)
 refine dw_condP rfl (fun h=>?_) (fun h=>?_)
 ·have hi:i < l.length:=by omega
  have hpx:=hp l[i] (List.getElem_mem hi)
  repeat' (first|refine z0 ?_|apply ds_nil|apply dw_seq2|refine z16 ?_|apply dw_block|apply dw_skip|apply thenD_n|(apply ds_callV;exact rfl;exact rfl;exact rfl;exact rfl;apply hpx;exact rfl;(assumption);exact rfl;rintro _ rfl))
  refine dw_cond rfl (fun hb=>?_) (fun hb=>?_)
  ·repeat' (first|refine z0 ?_|apply ds_nil|apply dw_seq2|refine z16 ?_|apply dw_ret|apply thenD_n|apply thenD_r|apply inB_r)
   exact ret_i rfl (idxF_hit h2 hi hb).symm
  ·repeat' (first|refine z0 ?_|apply ds_nil|refine z16 ?_|apply dw_skip|apply thenD_n|apply inB_n)
   exact⟨i + 1,⟨hi,none_step h2 hi hb⟩,ent_ren id ⟨rfl,congrArg (SV.fn f) (SV.renL_id caps).symm,rfl,rfl,trivial⟩ trivial (by simp [Sl.low,SV.low,hcap]) rfl rfl rfl rfl rfl,by omega⟩
 ·repeat' (first|refine z0 ?_|apply ds_nil|apply dw_seq2|refine z16 ?_|apply dw_exit|apply dw_ret|apply thenD_n|apply thenD_e|refine z17 ?_|fail)
  exact ret_i rfl (idxF_none fun j hj=>h2 j hj (by omega)).symm
set_option maxHeartbeats 8000000 in
theorem containsTm_fn {f:FuncId} {caps:List SV} (p:TTm→Bool) (l:List (TTm)) (hcap:SV.lowL 0 caps=true) (hp:∀ x∈l,Fn f (elTTm x::caps) (fun r=>r = .d (.bool (p x)))):Fn 98 [.d (.slice 2 (l.map encTTm)),.fn f caps] (fun r=>r = .d (.bool (l.any p))):=by
 refine fnp_enter' _ Tryz.func98 rfl rfl (by kernel_rfl) ?_
 intro O w0 E0 β0
 have hx:=indexTm_fn p l hcap hp
 have hlow:SV.lowL 0 [.d (.slice 2 (l.map encTTm)),.fn f caps]=true:=by simp [SV.lowL,SV.low,hcap]
 repeat' (first|refine z0 ?_|apply ds_nil|apply dw_seq2|refine z16 ?_|apply dw_ret|apply thenD_n|refine z21 ?_ (hc:=by apply hx)|fail)
 exact ret_b rfl (idxF_any p l)
set_option maxHeartbeats 8000000 in
theorem indexTl_fn {f:FuncId} {caps:List SV} (p:TLt→Bool) (l:List (TLt)) (hcap:SV.lowL 0 caps=true) (hp:∀ x∈l,Fn f (elTLt x::caps) (fun r=>r = .d (.bool (p x)))):Fn 95 [.d (.slice 5 (l.map encTLt)),.fn f caps] (fun r=>r = .d (.int .i64 (idxF p l))):=by
 refine fnp_enter' _ Tryz.func95 rfl rfl (by kernel_rfl) ?_
 intro O w0 E0 β0
 refine dw_len_map (t:=0) rfl fun hb=>?_
 repeat' (first|refine z0 ?_|apply ds_nil|apply dw_seq2|refine z16 ?_|apply dw_block|apply thenD_n)
 refine ds_loop (ι:=Nat) (fun i=>⟨0,[(0,.d (.slice 5 (l.map encTLt))),(1,.fn f caps),(7,.d (.int .i64 l.length)),(8,.d (.int .i64 i))],[]⟩)
  (fun i=>i≤l.length∧∀ j (hj:j < l.length),j < i→p l[j]=false) (fun i=>l.length - i) 0 ⟨Nat.zero_le _,fun j _ h=>absurd h (Nat.not_lt_zero j)⟩
  (ent_ren id ⟨rfl,congrArg (SV.fn f) (SV.renL_id caps).symm,by simp;rfl,rfl,trivial⟩ trivial (by simp [Sl.low,SV.low,hcap]) rfl rfl rfl rfl rfl) ?_
 rintro i ⟨h1,h2⟩
 repeat' (first|refine z0 ?_|apply ds_nil|apply dw_seq2|refine z16 ?_|apply thenD_n)
 refine dw_condP rfl (fun h=>?_) (fun h=>?_)
 ·have hi:i < l.length:=by omega
  have hpx:=hp l[i] (List.getElem_mem hi)
  repeat' (first|refine z0 ?_|apply ds_nil|apply dw_seq2|refine z16 ?_|apply dw_block|apply dw_skip|apply thenD_n|(apply ds_callV;exact rfl;exact rfl;exact rfl;exact rfl;apply hpx;exact rfl;(assumption);exact rfl;rintro _ rfl))
  refine dw_cond rfl (fun hb=>?_) (fun hb=>?_)
  ·repeat' (first|refine z0 ?_|apply ds_nil|apply dw_seq2|refine z16 ?_|apply dw_ret|apply thenD_n|apply thenD_r|apply inB_r)
   exact ret_i rfl (idxF_hit h2 hi hb).symm
  ·repeat' (first|refine z0 ?_|apply ds_nil|refine z16 ?_|apply dw_skip|apply thenD_n|apply inB_n)
   exact⟨i + 1,⟨hi,none_step h2 hi hb⟩,ent_ren id ⟨rfl,congrArg (SV.fn f) (SV.renL_id caps).symm,rfl,rfl,trivial⟩ trivial (by simp [Sl.low,SV.low,hcap]) rfl rfl rfl rfl rfl,by omega⟩
 ·repeat' (first|refine z0 ?_|apply ds_nil|apply dw_seq2|refine z16 ?_|apply dw_exit|apply dw_ret|apply thenD_n|apply thenD_e|refine z17 ?_|fail)
  exact ret_i rfl (idxF_none fun j hj=>h2 j hj (by omega)).symm
set_option maxHeartbeats 8000000 in
theorem containsTl_fn {f:FuncId} {caps:List SV} (p:TLt→Bool) (l:List (TLt)) (hcap:SV.lowL 0 caps=true) (hp:∀ x∈l,Fn f (elTLt x::caps) (fun r=>r = .d (.bool (p x)))):Fn 63 [.d (.slice 5 (l.map encTLt)),.fn f caps] (fun r=>r = .d (.bool (l.any p))):=by
 refine fnp_enter' _ Tryz.func63 rfl rfl (by kernel_rfl) ?_
 intro O w0 E0 β0
 have hx:=indexTl_fn p l hcap hp
 have hlow:SV.lowL 0 [.d (.slice 5 (l.map encTLt)),.fn f caps]=true:=by simp [SV.lowL,SV.low,hcap]
 repeat' (first|refine z0 ?_|apply ds_nil|apply dw_seq2|refine z16 ?_|apply dw_ret|apply thenD_n|refine z21 ?_ (hc:=by apply hx)|fail)
 exact ret_b rfl (idxF_any p l)
set_option maxHeartbeats 8000000 in
theorem indexTr_fn {f:FuncId} {caps:List SV} (p:TRu→Bool) (l:List (TRu)) (hcap:SV.lowL 0 caps=true) (hp:∀ x∈l,Fn f (elTRu x::caps) (fun r=>r = .d (.bool (p x)))):Fn 62 [.d (.slice 5 (l.map encTRu)),.fn f caps] (fun r=>r = .d (.int .i64 (idxF p l))):=by
 refine fnp_enter' _ Tryz.func62 rfl rfl (by kernel_rfl) ?_
 intro O w0 E0 β0
 refine dw_len_map (t:=0) rfl fun hb=>?_
 repeat' (first|refine z0 ?_|apply ds_nil|apply dw_seq2|refine z16 ?_|apply dw_block|apply thenD_n)
 refine ds_loop (ι:=Nat) (fun i=>⟨0,[(0,.d (.slice 5 (l.map encTRu))),(1,.fn f caps),(7,.d (.int .i64 l.length)),(8,.d (.int .i64 i))],[]⟩)
  (fun i=>i≤l.length∧∀ j (hj:j < l.length),j < i→p l[j]=false) (fun i=>l.length - i) 0 ⟨Nat.zero_le _,fun j _ h=>absurd h (Nat.not_lt_zero j)⟩
  (ent_ren id ⟨rfl,congrArg (SV.fn f) (SV.renL_id caps).symm,by simp;rfl,rfl,trivial⟩ trivial (by simp [Sl.low,SV.low,hcap]) rfl rfl rfl rfl rfl) ?_
 rintro i ⟨h1,h2⟩
 repeat' (first|refine z0 ?_|apply ds_nil|apply dw_seq2|refine z16 ?_|apply thenD_n)
 refine dw_condP rfl (fun h=>?_) (fun h=>?_)
 ·have hi:i < l.length:=by omega
  have hpx:=hp l[i] (List.getElem_mem hi)
  repeat' (first|refine z0 ?_|apply ds_nil|apply dw_seq2|refine z16 ?_|apply dw_block|apply dw_skip|apply thenD_n|(apply ds_callV;exact rfl;exact rfl;exact rfl;exact rfl;apply hpx;exact rfl;(assumption);exact rfl;rintro _ rfl))
  refine dw_cond rfl (fun hb=>?_) (fun hb=>?_)
  ·repeat' (first|refine z0 ?_|apply ds_nil|apply dw_seq2|refine z16 ?_|apply dw_ret|apply thenD_n|apply thenD_r|apply inB_r)
   exact ret_i rfl (idxF_hit h2 hi hb).symm
  ·repeat' (first|refine z0 ?_|apply ds_nil|refine z16 ?_|apply dw_skip|apply thenD_n|apply inB_n)
   exact⟨i + 1,⟨hi,none_step h2 hi hb⟩,ent_ren id ⟨rfl,congrArg (SV.fn f) (SV.renL_id caps).symm,rfl,rfl,trivial⟩ trivial (by simp [Sl.low,SV.low,hcap]) rfl rfl rfl rfl rfl,by omega⟩
 ·repeat' (first|refine z0 ?_|apply ds_nil|apply dw_seq2|refine z16 ?_|apply dw_exit|apply dw_ret|apply thenD_n|apply thenD_e|refine z17 ?_|fail)
  exact ret_i rfl (idxF_none fun j hj=>h2 j hj (by omega)).symm
set_option maxHeartbeats 8000000 in
theorem containsTr_fn {f:FuncId} {caps:List SV} (p:TRu→Bool) (l:List (TRu)) (hcap:SV.lowL 0 caps=true) (hp:∀ x∈l,Fn f (elTRu x::caps) (fun r=>r = .d (.bool (p x)))):Fn 40 [.d (.slice 5 (l.map encTRu)),.fn f caps] (fun r=>r = .d (.bool (l.any p))):=by
 refine fnp_enter' _ Tryz.func40 rfl rfl (by kernel_rfl) ?_
 intro O w0 E0 β0
 have hx:=indexTr_fn p l hcap hp
 have hlow:SV.lowL 0 [.d (.slice 5 (l.map encTRu)),.fn f caps]=true:=by simp [SV.lowL,SV.low,hcap]
 repeat' (first|refine z0 ?_|apply ds_nil|apply dw_seq2|refine z16 ?_|apply dw_ret|apply thenD_n|refine z21 ?_ (hc:=by apply hx)|fail)
 exact ret_b rfl (idxF_any p l)
theorem not_any {α:Type} (p:α→Bool):∀ l:List α,(!l.any fun t=>!p t)=l.all p
 | []=>rfl
 | a::l=>by rw [List.any_cons,List.all_cons,← not_any p l];cases p a <;> rfl
set_option maxHeartbeats 8000000 in
theorem tokenVar_fn (s:ByteArray):Fn 112 [.d (.str s)] (fun r=>r = .d (.bool (oneS 2 s))):=by
 refine fnp_enter' _ Tryz.func112 rfl rfl (by kernel_rfl) ?_
 intro O w0 E0 β0
 repeat' (first|refine z0 ?_|apply ds_nil|apply dw_seq2|refine z16 ?_|apply dw_ret|apply thenD_n|refine z21 ?_ (hc:=by apply one_fn)|fail)
 exact ret_b rfl rfl
set_option maxHeartbeats 8000000 in
theorem ttm_fn (t:TTm):Fn 100 [elTTm t] (fun r=>r = .d (.bool (tmOk t))):=by
 refine fnp_enter' _ Tryz.func100 rfl rfl (by kernel_rfl) ?_
 intro O w0 E0 β0
 have w1:=tokenVar_fn t.var
 unfold tmOk
 by_cases hv:t.var=⟨#[]⟩
 ·rw [if_pos hv]
  repeat' (first|refine z0 ?_|refine z12 ?_|apply ds_nil|apply dw_seq2|refine z16 ?_|apply dw_skip|apply dw_ret|apply thenD_n|apply thenD_r|refine z21 ?_ (hc:=by apply w1)|refine z1 ?_|(refine z23 ?_ ?_ <;> intro hg)|((fail_if_success (apply ds_known;exact rfl));apply ds_guardP;exact rfl;exact rfl;exact rfl;all_goals intro hg)|((fail_if_success (apply ds_known;exact rfl));apply ds_guardB;exact rfl;exact rfl;exact rfl;all_goals intro hg))
  all_goals try (exfalso;exact absurd hv (by assumption))
  all_goals exact ret_b rfl (by first|(simp_all;done)|(simp_all;omega))
 ·rw [if_neg hv]
  cases ho:oneS 2 t.var
  all_goals
   rw [ho] at w1
   repeat' (first|refine z0 ?_|refine z12 ?_|apply ds_nil|apply dw_seq2|refine z16 ?_|apply dw_skip|apply dw_ret|apply thenD_n|apply thenD_r|refine z21 ?_ (hc:=by apply w1)|refine z1 ?_|(refine z23 ?_ ?_ <;> intro hg)|((fail_if_success (apply ds_known;exact rfl));apply ds_guardP;exact rfl;exact rfl;exact rfl;all_goals intro hg))
  all_goals try (exfalso;exact absurd (by assumption) hv)
  all_goals exact ret_b rfl (by first|(simp_all;done)|(simp_all;omega))
set_option maxHeartbeats 8000000 in
theorem ttm1_fn (t:TTm):Fn 99 [elTTm t] (fun r=>r = .d (.bool (!tmOk t))):=by
 refine fnp_enter' _ Tryz.func99 rfl rfl (by kernel_rfl) ?_
 intro O w0 E0 β0
 have w1:=ttm_fn t
 repeat' (first|refine z0 ?_|apply ds_nil|apply dw_seq2|refine z16 ?_|apply dw_ret|apply thenD_n|refine z21 ?_ (hc:=by apply w1)|refine z1 ?_|fail)
 exact ret_b rfl rfl
set_option maxHeartbeats 8000000 in
theorem ttms_fn (l:List TTm):Fn 66 [.d (.slice 2 (l.map encTTm))] (fun r=>r = .d (.bool (tmsOk l))):=by
 refine fnp_enter' _ Tryz.func66 rfl rfl (by kernel_rfl) ?_
 intro O w0 E0 β0
 have w1:=containsTm_fn (caps:=[]) (f:=99) (fun t=>!tmOk t) l rfl (fun x _=>ttm1_fn x)
 repeat' (first|refine z0 ?_|apply ds_nil|apply dw_seq2|refine z16 ?_|apply dw_ret|apply thenD_n|refine z21 ?_ (hc:=by apply w1)|fail)
 refine ret_b rfl ?_
 exact not_any tmOk l
set_option maxHeartbeats 8000000 in
theorem twithin_fn (n a b:Int):Fn 67 [.d (.int .i64 n),.d (.int .i64 a),.d (.int .i64 b)] (fun r=>r = .d (.bool (decide (a≤n∧n≤b)))):=by
 refine fnp_enter' _ Tryz.func67 rfl rfl (by kernel_rfl) ?_
 intro O w0 E0 β0
 repeat' (first|refine z0 ?_|refine z12 ?_|apply ds_nil|apply dw_seq2|refine z16 ?_|apply dw_ret|apply thenD_n|((fail_if_success (apply ds_known;exact rfl));apply ds_guardP;exact rfl;exact rfl;exact rfl;all_goals intro hg))
 all_goals exact ret_b rfl (by first|(simp_all;done)|(simp_all;omega))
set_option maxHeartbeats 8000000 in
theorem tlit_fn (x:TLt):Fn 69 [elTLt x] (fun r=>r = .d (.bool (tlOk x))):=by
 refine fnp_enter' _ Tryz.func69 rfl rfl (by kernel_rfl) ?_
 intro O w0 E0 β0
 have w1:=ttms_fn x.terms
 have w2:=treeName_fn x.name
 have w3:=twithin_fn x.op 1 4
 have w4:=twithin_fn x.op 5 7
 have lt:(x.terms.map encTTm).length=x.terms.length:=List.length_map _
 unfold tlOk
 generalize tmsOk x.terms=b1 at *
 generalize nameS x.name=b2 at *
 cases b1 <;> cases b2 <;> repeat' (first|refine z0 ?_|refine z12 ?_|apply ds_nil|apply dw_seq2|refine z16 ?_|apply dw_block|apply dw_skip|apply dw_ret|apply thenD_n|apply inB_n|refine z21 ?_ (hc:=by apply w1)|refine z21 ?_ (hc:=by apply w2)|refine z21 ?_ (hc:=by apply w3)|refine z21 ?_ (hc:=by apply w4)|refine z1 ?_|(refine z23 ?_ ?_ <;> intro hg)|((fail_if_success (apply ds_known;exact rfl));apply ds_guardP;exact rfl;exact rfl;exact rfl;all_goals intro hg))
 all_goals try (exfalso;omega)
 all_goals first|exact ret_b rfl (by first|(simp_all;done)|(simp_all;omega))
set_option maxHeartbeats 8000000 in
theorem tlit1_fn (x:TLt):Fn 68 [elTLt x] (fun r=>r = .d (.bool (!tlOk x))):=by
 refine fnp_enter' _ Tryz.func68 rfl rfl (by kernel_rfl) ?_
 intro O w0 E0 β0
 have w1:=tlit_fn x
 repeat' (first|refine z0 ?_|apply ds_nil|apply dw_seq2|refine z16 ?_|apply dw_ret|apply thenD_n|refine z21 ?_ (hc:=by apply w1)|refine z1 ?_|fail)
 exact ret_b rfl rfl
set_option maxHeartbeats 8000000 in
theorem muchL_fn (x:TLt):Fn 64 [elTLt x] (fun r=>r = .d (.bool (decide (3 < x.terms.length)))):=by
 refine fnp_enter' _ Tryz.func64 rfl rfl (by kernel_rfl) ?_
 intro O w0 E0 β0
 have lt:(x.terms.map encTTm).length=x.terms.length:=List.length_map _
 repeat' (first|refine z0 ?_|apply ds_nil|apply dw_seq2|refine z16 ?_|apply dw_ret|apply thenD_n|refine z1 ?_|fail)
 exact ret_b rfl (by rw [lt];apply decide_eq_decide.2;omega)
set_option maxHeartbeats 8000000 in
theorem much_fn (r:TRu):Fn 41 [elTRu r] (fun o=>o = .d (.bool (muchT r))):=by
 refine fnp_enter' _ Tryz.func41 rfl rfl (by kernel_rfl) ?_
 intro O w0 E0 β0
 have lt:(r.terms.map encTTm).length=r.terms.length:=List.length_map _
 have lb:(r.body.map encTLt).length=r.body.length:=List.length_map _
 have w1:=containsTl_fn (caps:=[]) (f:=64) (fun x=>decide (3 < x.terms.length)) r.body rfl (fun x _=>muchL_fn x)
 unfold muchT
 generalize (r.body.any fun x=>decide (3 < x.terms.length))=b at *
 cases b <;> repeat' (first|refine z0 ?_|refine z12 ?_|apply ds_nil|apply dw_seq2|refine z16 ?_|apply dw_ret|apply thenD_n|refine z21 ?_ (hc:=by apply w1)|refine z1 ?_|((fail_if_success (apply ds_known;exact rfl));apply ds_guardP;exact rfl;exact rfl;exact rfl;all_goals intro hg))
 all_goals try (exfalso;omega)
 all_goals first|exact ret_b rfl (by first|(simp_all;done)|(simp_all;omega))
set_option maxHeartbeats 8000000 in
theorem trule0_fn (r:TRu):Fn 43 [elTRu r] (fun o=>o = .d (.bool (truOk r))):=by
 refine fnp_enter' _ Tryz.func43 rfl rfl (by kernel_rfl) ?_
 intro O w0 E0 β0
 have lt:(r.terms.map encTTm).length=r.terms.length:=List.length_map _
 have lb:(r.body.map encTLt).length=r.body.length:=List.length_map _
 have w1:=treeName_fn r.name
 have w2:=ttms_fn r.terms
 have w3:=twithin_fn r.fold 0 4
 have w4:=containsTl_fn (caps:=[]) (f:=68) (fun x=>!tlOk x) r.body rfl (fun x _=>tlit1_fn x)
 have e4:=not_any tlOk r.body
 have e1:(r.terms=[])↔r.terms.length=0:=List.length_eq_zero_iff.symm
 have e2:(r.body=[])↔r.body.length=0:=List.length_eq_zero_iff.symm
 unfold truOk
 rw [← e4]
 generalize (r.body.any fun x=>!tlOk x)=b4 at *
 generalize tmsOk r.terms=b1 at *
 generalize nameS r.name=b2 at *
 clear e4
 cases b1 <;> cases b2 <;> cases b4 <;> repeat' (first|refine z0 ?_|refine z12 ?_|apply ds_nil|apply dw_seq2|refine z16 ?_|apply dw_skip|apply dw_ret|refine z18 ?_|refine z19 ?_|apply thenD_n|apply thenD_r|refine z21 ?_ (hc:=by apply w1)|refine z21 ?_ (hc:=by apply w2)|refine z21 ?_ (hc:=by apply w3)|refine z21 ?_ (hc:=by apply w4)|refine z1 ?_|(refine z23 ?_ ?_ <;> intro hg)|(apply dw_cond;exact rfl;all_goals intro hg)|((fail_if_success (apply ds_known;exact rfl));apply ds_guardP;exact rfl;exact rfl;exact rfl;all_goals intro hg))
 all_goals try (exfalso;omega)
 all_goals first|exact ret_b rfl (by first|(simp_all;done)|(simp_all;omega))
set_option maxHeartbeats 8000000 in
theorem trule1_fn (r:TRu):Fn 42 [elTRu r] (fun o=>o = .d (.bool (!truOk r))):=by
 refine fnp_enter' _ Tryz.func42 rfl rfl (by kernel_rfl) ?_
 intro O w0 E0 β0
 have w1:=trule0_fn r
 repeat' (first|refine z0 ?_|apply ds_nil|apply dw_seq2|refine z16 ?_|apply dw_ret|apply thenD_n|refine z21 ?_ (hc:=by apply w1)|refine z1 ?_|fail)
 exact ret_b rfl rfl
set_option maxHeartbeats 8000000 in
theorem tcheck_fn (rs:List TRu):Fn 17 [.agg [.d (.slice 5 (rs.map encTRu))]] (fun o=>o = .d (.int .i64 (checkT rs))):=by
 refine fnp_enter' _ Tryz.func17 rfl rfl (by kernel_rfl) ?_
 intro O w0 E0 β0
 have lr:(rs.map encTRu).length=rs.length:=List.length_map _
 have w1:=containsTr_fn (caps:=[]) (f:=41) muchT rs rfl (fun x _=>much_fn x)
 have w2:=containsTr_fn (caps:=[]) (f:=42) (fun x=>!truOk x) rs rfl (fun x _=>trule1_fn x)
 unfold checkT
 rw [← not_any truOk rs]
 generalize (rs.any fun x=>!truOk x)=b1 at *
 generalize rs.any muchT=b2 at *
 cases b1 <;> cases b2 <;> repeat' (first|refine z0 ?_|refine z12 ?_|apply ds_nil|apply dw_seq2|refine z16 ?_|apply dw_block|apply dw_skip|apply dw_ret|refine z18 ?_|refine z19 ?_|apply thenD_n|apply thenD_r|apply inB_n|apply inB_r|refine z21 ?_ (hc:=by apply w1)|refine z21 ?_ (hc:=by apply w2)|refine z1 ?_|((fail_if_success (apply ds_known;exact rfl));apply ds_guardP;exact rfl;exact rfl;exact rfl;all_goals intro hg))
 all_goals try (exfalso;omega)
 all_goals exact ret_i rfl (by first|(simp_all;done)|(simp_all;omega))
end Go.Proofs.YtapciiffpnociabGreatDoor
namespace Go.Proofs.YtapciiffpnociabGreatDoor
open Go Go.RowKit
theorem chain_atT {s:ByteArray}:∀ (l:List Tok) (i:Nat),Chain s i l→∀ t∈l,0≤t.at_∧t.at_≤s.size
 | [],_,_,_,ht=>nomatch ht
 | t::l,i,h,x,hx=>by
  obtain⟨j,_,hat,⟨hj,_,_⟩,_,_,h5⟩:=h
  rcases List.mem_cons.1 hx with rfl|hx
  ·omega
  ·exact chain_atT l _ h5 x hx
theorem chain_lenT {s:ByteArray}:∀ (l:List Tok) (i:Nat),Chain s i l→i≤s.size→l.length + i≤s.size
 | [],_,_,h=>by simpa using h
 | t::l,i,h,hi=>by
  obtain⟨j,hij,hat,⟨hj,h1,h2⟩,h3,h4,h5⟩:=h
  have hk:=tokErr_kind h2
  have hp:=tokAt_pos (s.data.toList.drop j) (by rw [h1];exact hk)
  rw [h1] at hp
  have:=chain_lenT l _ h5 (by omega)
  rw [List.length_cons]
  omega
def encParse (q:List TRu × Int × Int):SV:=.tup [treeV q.1,.d (.int .i64 q.2.1),.d (.int .i64 q.2.2)]
attribute [local irreducible] DW DS DL DQ Ev FnOk FnP FnOkE thenD inBlockD
set_option maxHeartbeats 8000000 in
theorem tparse_fn (s:ByteArray):Fn 12 [.d (.str s)] (fun r=>r=encParse (parseS s)):=by
 refine fnp_enter' _ Tryz.func12 rfl rfl (by kernel_rfl) ?_
 intro O w0 E0 β0
 have w1:=scan_fn s
 unfold encScan at w1
 obtain⟨⟨l,p,er⟩,hq⟩:∃ q,q=scanS s:=⟨_,rfl⟩
 unfold parseS
 rw [← hq] at w1 ⊢
 dsimp only at w1 ⊢
 unfold encParse
 by_cases he:er=0
 ·subst he
  obtain⟨hc,hs,hp⟩:=scanS_chain s l p hq.symm
  have hok:=scanS_all hq.symm
  have hlen:=chain_lenT l 0 hc (Nat.zero_le _)
  have hat:=chain_atT l 0 hc
  have w2:=pparse_fn l s.size (fun j=>by
   unfold hereT
   by_cases hj:j < l.length
   ·rw [List.getElem?_eq_getElem hj]
    have:=hat _ (List.getElem_mem hj)
    exact i64_wf (by dsimp only;omega) (by dsimp only;omega)
   ·rw [List.getElem?_eq_none (by omega)]
    exact i64_wf (by dsimp only;omega) (by dsimp only;omega)) (by omega) hok
  rw [if_neg (by simp)]
  repeat' (first|refine z0 ?_|apply ds_nil|apply dw_seq2|refine z16 ?_|apply dw_skip|refine z19 ?_|apply thenD_n|refine z21 ?_ (hc:=by apply w1)|refine z1 ?_|fail)
  all_goals try (exfalso;omega)
  refine ds_callF (fun _=>1) w2 rfl rfl rfl rfl ⟨rfl,trivial⟩ rfl rfl rfl rfl rfl rfl ?_ ?_
  ·rintro k2 res H2 hR
   unfold parseR at hR
   cases hr:rulesGo l s.size (l.length + 1) 0 [] with
   | error j=>rw [hr] at hR;obtain⟨rfl,rfl,rfl⟩:=hR;exact⟨rfl,rfl⟩
   | ok rs=>rw [hr] at hR;obtain⟨rfl,rfl,rfl⟩:=hR;exact⟨rfl,rfl⟩
  rintro k2 res H2 hR
  unfold parseR at hR
  clear w2
  cases hr:rulesGo l s.size (l.length + 1) 0 [] with
  | error j =>
   rw [hr] at hR
   obtain⟨rfl,rfl,rfl⟩:=hR
   change DS _ _ _ _ _ _ _ _
   dsimp only
   repeat' (first|refine z0 ?_|apply ds_nil|apply dw_seq2|refine z16 ?_|apply dw_skip|refine z18 ?_|refine z19 ?_|apply thenD_n|refine z1 ?_|refine z3 ?_|fail)
   all_goals try (exfalso;omega)
   refine dw_ent (ent_cellnil 0 0 5 rfl rfl rfl) ?_
   repeat' (first|apply dw_ret|apply thenD_r)
   exact⟨.inl rfl,_,rfl,rfl,rfl⟩
  | ok rs =>
   rw [hr] at hR
   obtain⟨rfl,rfl,rfl⟩:=hR
   change DS _ _ _ _ _ _ _ _
   dsimp only
   have w3:=tcheck_fn rs
   by_cases hk:checkT rs=0
   ·rw [if_pos hk]
    rw [hk] at w3
    repeat' (first|refine z0 ?_|apply ds_nil|apply dw_seq2|refine z16 ?_|apply dw_skip|apply dw_ret|refine z18 ?_|refine z19 ?_|apply thenD_n|refine z21 ?_ (hc:=by apply w3)|refine z1 ?_|refine z3 ?_|fail)
    all_goals try (exfalso;omega)
    exact⟨.inl rfl,_,rfl,rfl,rfl⟩
   ·rw [if_neg hk]
    repeat' (first|refine z0 ?_|apply ds_nil|apply dw_seq2|refine z16 ?_|apply dw_skip|refine z18 ?_|apply thenD_n|refine z21 ?_ (hc:=by apply w3)|refine z1 ?_|refine z3 ?_|(refine z23 ?_ ?_ <;> intro hg)|fail)
    all_goals try (exfalso;omega)
    refine dw_ent (ent_cellnil 0 0 5 rfl rfl rfl) ?_
    repeat' (first|apply dw_ret|apply thenD_r)
    exact⟨.inl rfl,_,rfl,rfl,rfl⟩
 ·rw [if_pos he]
  repeat' (first|refine z0 ?_|apply ds_nil|apply dw_seq2|refine z16 ?_|apply dw_skip|apply thenD_n|refine z21 ?_ (hc:=by apply w1)|refine z1 ?_|refine z3 ?_|(refine z23 ?_ ?_ <;> intro hg)|fail)
  all_goals try (exfalso;omega)
  refine dw_ent (ent_cellnil 0 0 5 rfl rfl rfl) ?_
  repeat' (first|apply dw_ret|apply thenD_r)
  exact⟨.inl rfl,_,rfl,rfl,rfl⟩
end Go.Proofs.YtapciiffpnociabGreatDoor
