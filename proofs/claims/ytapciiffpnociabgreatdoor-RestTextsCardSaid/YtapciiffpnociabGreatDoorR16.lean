/- Several texts in one: TreZ TreLi TrePo GxArg ShwH ShwM TrePa TokK TokM TokS. Condition: none. -/
import Derived.Test.YtapciiffpnociabGreatDoorR15
import Derived.Test.YtapciiffpnociabGreatDoorR12
import Derived.Test.YtapciiffpnociabGreatDoorR14
import Derived.Test.YtapciiffpnociabGreatDoorR09
import Derived.Test.YtapciiffpnociabGreatDoorR02
import Derived.Test.YtapciiffpnociabGreatDoorR13
import Derived.Test.YtapciiffpnociabGreatDoorR10
import Derived.Test.YtapciiffpnociabGreatDoorR08
namespace Go.Proofs.YtapciiffpnociabGreatDoor
open Go Go.RowKit
theorem rdIs_true {α:Type} {p:PR α} {x:α} {k m:Nat} {g:Bool} (h:rdIs (rdP true k p) x m g):g=true∧m=k:=by
 cases g with
 | false=>cases h
 | true=>injection (show Except.error k=Except.error m from h) with h;exact⟨rfl,h.symm⟩
theorem need_is {l:List Tok} {i j:Nat} {f g:Bool} {s:ByteArray} (h:(f=false∧g=false∧j=i + 1∧seesT l i s=true)∨(g=true∧j=i∧(f=false→seesT l i s=false))) :
  rdIs (rdP f i (if seesT l i s=true then .ok ((),i + 1) else .error i)) () j g:=by
 rcases h with ⟨rfl,rfl,rfl,h⟩|⟨rfl,rfl,h⟩
 ·show (if seesT l i s=true then _ else _)=_;rw [if_pos h]
 ·cases f with
  | true=>rfl
  | false=>show (if seesT l j s=true then _ else _)=_;rw [h rfl];rfl
theorem need_lt {l:List Tok} {i j:Nat} {f g:Bool} {s:ByteArray} (hi:i≤l.length) (h:(f=false∧g=false∧j=i + 1∧seesT l i s=true)∨(g=true∧j=i∧(f=false→seesT l i s=false))):j≤l.length:=by
 rcases h with ⟨_,_,rfl,h⟩|⟨_,rfl,_⟩
 ·exact seesT_lt h
 ·exact hi
theorem rdIs_lt {α:Type} {p:PR α} {l:List Tok} {i:Nat} {x:α} {k:Nat} {f g:Bool} (hi:i≤l.length) (ho:∀ j y,p = .ok (y,j)→j≤l.length) (he:∀ j,p = .error j→j≤l.length) (h:rdIs (rdP f i p) x k g):k≤l.length:=by
 cases f with
 | true=>obtain⟨_,rfl⟩:=rdIs_true h;exact hi
 | false=>cases g with
  | false=>exact ho _ _ h
  | true=>exact he _ h
theorem term_le {l:List Tok} {i k:Nat} {t:TTm} {f g:Bool} (hi:i≤l.length) (h:rdIs (rdP f i (termT l i)) t k g):k≤l.length:=rdIs_lt hi (fun _ _ h=>(termT_lt h).2) (fun _ h=>termT_err hi h) h
theorem name_le {l:List Tok} {i k:Nat} {t:ByteArray} {f g:Bool} (hi:i≤l.length) (h:rdIs (rdP f i (nameT l i)) t k g):k≤l.length:=rdIs_lt hi (fun _ _ h=>(nameT_lt h).2) (fun _ h=>nameT_err hi h) h
theorem terms_le {l:List Tok} {i k:Nat} {head:Bool} {t:List TTm × Int} {f g:Bool} (hi:i≤l.length) (h:rdIs (rdP f i (termsT l i head)) t k g):k≤l.length:=rdIs_lt hi (fun _ _ h=>(termsT_lt h).2) (fun _ h=>termsT_err hi h) h
theorem lit_not {l:List Tok} {e:Int} {i k m:Nat} {s:ByteArray} {x:List TTm × Int} {g g2:Bool} (hn:seesT l i ⟨#[110,111,116]⟩=true) (h1:rdIs (rdP false (i + 1) (nameT l (i + 1))) s k g) (h2:rdIs (rdP g k (termsT l k false)) x m g2) :
  rdIs (rdP false i (litT l e i)) (⟨2,hereT l e i,0,s,x.1⟩:TLt) m g2:=by
 obtain⟨ts,z⟩:=x
 unfold rdP litT
 rw [hn]
 dsimp only
 cases g with
 | true =>
  obtain⟨rfl,rfl⟩:=rdIs_true h2
  rw [show nameT l (i + 1) = .error m from h1]
  rfl
 | false =>
  rw [show nameT l (i + 1) = .ok (s,k) from h1]
  dsimp only
  cases g2 with
  | true=>rw [show termsT l k false = .error m from h2];rfl
  | false=>rw [show termsT l k false = .ok ((ts,z),m) from h2];rfl
theorem lit_yes {l:List Tok} {e:Int} {i k m:Nat} {s:ByteArray} {x:List TTm × Int} {g g2:Bool} (hn:seesT l i ⟨#[110,111,116]⟩=false) (ht:isTestT l i=false) (h1:rdIs (rdP false i (nameT l i)) s k g) (h2:rdIs (rdP g k (termsT l k false)) x m g2) :
  rdIs (rdP false i (litT l e i)) (⟨1,hereT l e i,0,s,x.1⟩:TLt) m g2:=by
 obtain⟨ts,z⟩:=x
 unfold rdP litT
 rw [hn,ht]
 dsimp only
 cases g with
 | true =>
  obtain⟨rfl,rfl⟩:=rdIs_true h2
  rw [show nameT l i = .error m from h1]
  rfl
 | false =>
  rw [show nameT l i = .ok (s,k) from h1]
  dsimp only
  cases g2 with
  | true=>rw [show termsT l k false = .error m from h2];rfl
  | false=>rw [show termsT l k false = .ok ((ts,z),m) from h2];rfl
theorem lit_op {l:List Tok} {e:Int} {i:Nat} (hn:seesT l i ⟨#[110,111,116]⟩=false) (ht:isTestT l i=true):litT l e i=match testT l i with
   | .error k=>.error k
   | .ok ((kind,op,ts),k)=>.ok (⟨kind,hereT l e i,op,⟨#[]⟩,ts⟩,k):=by
 unfold litT
 rw [hn,ht]
 rfl
theorem lit_test2 {l:List Tok} {e F:Int} {i k k' m:Nat} {a b:TTm} {f g g' g3:Bool} (hn:f=false→seesT l i ⟨#[110,111,116]⟩=false∧isTestT l i=true) (h1:rdIs (rdP f i (termT l i)) a k g) (hF:F=foldG opsR (textT l k g) 8)
  (h2:rdIs (rdP g k (if F=0 then .error k else .ok ((),k + 1))) () k' g') (h3:rdIs (rdP g' k' (termT l k')) b m g3) (h5:F < 5):rdIs (rdP f i (litT l e i)) (⟨3,hereT l e i,F,⟨#[]⟩,[a,b]⟩:TLt) m g3:=by
 cases f with
 | true =>
  obtain⟨rfl,rfl⟩:=rdIs_true h1
  obtain⟨rfl,rfl⟩:=rdIs_true h2
  obtain⟨rfl,rfl⟩:=rdIs_true h3
  rfl
 | false =>
  obtain⟨n1,n2⟩:=hn rfl
  unfold rdP
  dsimp only
  rw [lit_op n1 n2]
  unfold testT
  cases g with
  | true =>
   obtain⟨rfl,rfl⟩:=rdIs_true h2
   obtain⟨rfl,rfl⟩:=rdIs_true h3
   rw [show termT l i = .error m from h1]
   rfl
  | false =>
   rw [show termT l i = .ok (a,k) from h1]
   dsimp only
   rw [foldO_is,← hF]
   by_cases hz:F=0
   ·rw [if_pos hz] at h2
    rw [if_pos hz]
    cases g' with
    | false=>cases h2
    | true =>
     obtain⟨rfl,rfl⟩:=rdIs_true h3
     injection (show Except.error k=Except.error m from h2) with h
     subst h
     rfl
   ·rw [if_neg hz] at h2
    rw [if_neg hz]
    cases g' with
    | true=>cases h2
    | false =>
     injection (show Except.ok ((),k + 1)=Except.ok ((),k') from h2) with h
     injection h with _ h
     subst h
     cases g3 with
     | true=>rw [show termT l (k + 1) = .error m from h3];rfl
     | false =>
      rw [show termT l (k + 1) = .ok (b,m) from h3]
      dsimp only
      rw [if_pos h5]
      rfl
theorem lit_test3 {l:List Tok} {e F:Int} {i k k' m m' q:Nat} {a b c:TTm} {f g g' g3 g4 g5:Bool} (hn:f=false→seesT l i ⟨#[110,111,116]⟩=false∧isTestT l i=true) (h1:rdIs (rdP f i (termT l i)) a k g) (hF:F=foldG opsR (textT l k g) 8)
  (h2:rdIs (rdP g k (if F=0 then .error k else .ok ((),k + 1))) () k' g') (h3:rdIs (rdP g' k' (termT l k')) b m g3) (h5:¬ F < 5)
  (h4:rdIs (rdP g3 m (if seesT l m ⟨#[61]⟩=true then .ok ((),m + 1) else .error m)) () m' g4) (h6:rdIs (rdP g4 m' (termT l m')) c q g5):rdIs (rdP f i (litT l e i)) (⟨4,hereT l e i,F,⟨#[]⟩,[a,b,c]⟩:TLt) q g5:=by
 cases f with
 | true =>
  obtain⟨rfl,rfl⟩:=rdIs_true h1
  obtain⟨rfl,rfl⟩:=rdIs_true h2
  obtain⟨rfl,rfl⟩:=rdIs_true h3
  obtain⟨rfl,rfl⟩:=rdIs_true h4
  obtain⟨rfl,rfl⟩:=rdIs_true h6
  rfl
 | false =>
  obtain⟨n1,n2⟩:=hn rfl
  unfold rdP
  dsimp only
  rw [lit_op n1 n2]
  unfold testT
  cases g with
  | true =>
   obtain⟨rfl,rfl⟩:=rdIs_true h2
   obtain⟨rfl,rfl⟩:=rdIs_true h3
   obtain⟨rfl,rfl⟩:=rdIs_true h4
   obtain⟨rfl,rfl⟩:=rdIs_true h6
   rw [show termT l i = .error q from h1]
   rfl
  | false =>
   rw [show termT l i = .ok (a,k) from h1]
   dsimp only
   rw [foldO_is,← hF]
   rw [if_neg (show ¬ F=0 by omega)] at h2 ⊢
   cases g' with
   | true=>cases h2
   | false =>
    injection (show Except.ok ((),k + 1)=Except.ok ((),k') from h2) with h
    injection h with _ h
    subst h
    cases g3 with
    | true =>
     obtain⟨rfl,rfl⟩:=rdIs_true h4
     obtain⟨rfl,rfl⟩:=rdIs_true h6
     rw [show termT l (k + 1) = .error q from h3]
     rfl
    | false =>
     rw [show termT l (k + 1) = .ok (b,m) from h3]
     dsimp only
     rw [if_neg h5]
     by_cases hs:seesT l m ⟨#[61]⟩=true
     ·rw [if_pos hs]
      have h4:rdIs (if seesT l m ⟨#[61]⟩=true then Except.ok ((),m + 1) else Except.error m:PR Unit) () m' g4:=h4
      rw [if_pos hs] at h4
      cases g4 with
      | true=>cases h4
      | false =>
       injection (show Except.ok ((),m + 1)=Except.ok ((),m') from h4) with h
       injection h with _ h
       subst h
       cases g5 with
       | true=>rw [show termT l (m + 1) = .error q from h6];rfl
       | false=>rw [show termT l (m + 1) = .ok (c,q) from h6];rfl
     ·rw [if_neg hs]
      have h4:rdIs (if seesT l m ⟨#[61]⟩=true then Except.ok ((),m + 1) else Except.error m:PR Unit) () m' g4:=h4
      rw [if_neg hs] at h4
      cases g4 with
      | false=>cases h4
      | true =>
       injection (show Except.error m=Except.error m' from h4) with h
       subst h
       obtain⟨rfl,rfl⟩:=rdIs_true h6
       rfl
attribute [local irreducible] DW DS DL DQ Ev FnOk FnP FnOkE thenD inBlockD
attribute [local irreducible] foldG
def nameB (l:List Tok) (i:Nat):Bool→Bool
 | true=>false
 | false=>!isTestT l i
abbrev litN (kind at_ op:Int) (name:ByteArray):HB:=.blk 51 [.d (.int .i64 kind),.d (.int .i64 at_),.d (.int .i64 op),.d (.str name),.nils]
abbrev litZ:HB:=.blk 51 [.d (.int .i64 0),.d (.int .i64 0),.d (.int .i64 0),.d (.str ⟨#[]⟩),.nils]
theorem rdIs_ex {α:Type} (p:PR α) (x0:α):∃ x k g,rdIs p x k g:=by
 cases p with
 | ok y=>exact⟨y.1,y.2,false,rfl⟩
 | error k=>exact⟨x0,k,true,rfl⟩
theorem rdBl {f:FuncId} {args:List SV} {l:List Tok} {i:Nat} {e:Int} {fl:Bool} {α:Type} {p:PR α} {enc:α→SV} (h:RdC f args l i e fl p enc) (hlow:∀ x,(enc x).low 0=true) :
  FnBl false Tryz.prog tab tab_ok f args 76 [.d (.slice 3 (l.map encTok)),.d (.int .i64 i),.d (.int .i64 e),.d (.bool fl)] (fun r cs'=>∃ x,∃ k:Nat,∃ g,r=enc x∧cs' = [.d (.slice 3 (l.map encTok)),.d (.int .i64 k),.d (.int .i64 e),.d (.bool g)]∧rdIs p x k g):=by
 unfold FnBl
 refine h.imp ?_
 rintro _ r H ⟨_,x,k,g,rfl,rfl,hp⟩
 exact⟨_,⟨x,k,g,rfl,rfl,hp⟩,hlow x,rfl,rfl⟩
set_option maxHeartbeats 8000000 in
theorem rlit_out (l:List Tok) (i:Nat) (e:Int) (f:Bool) (hi:i≤l.length) (hl:l.length≤900000) (hok:l.all tokOk=true):RdC 38 [.loc 0 0] l i e f (rdP f i (litT l e i)) tlV:=by
 refine fn_enterR _ Tryz.func38 rfl rfl (by kernel_rfl) ?_
 intro O w0 E0 β0
 have ll:(l.map encTok).length=l.length:=List.length_map _
 have w0:=rhere_fn l i e f
 have w1:=rtext_fn l i e f
 repeat' (first|refine z0 ?_|apply ds_nil|apply dw_seq2|refine z16 ?_|apply thenD_n|refine z1 ?_|fail)
 (refine ds_callF id (w0) rfl rfl rfl rfl ⟨rfl,trivial⟩ rfl rfl rfl rfl rfl rfl ?_ ?_)
 ·rintro k2 res H2 ⟨rfl,rfl,rfl⟩;exact⟨rfl,rfl⟩
 rintro k2 res H2 ⟨rfl,rfl,rfl⟩
 change DS _ _ _ _ _ _ _ _
 clear w0
 repeat' (first|refine z0 ?_|apply ds_nil|apply dw_seq2|refine z16 ?_|apply thenD_n|refine z1 ?_|refine z3 ?_|fail)
 (refine ds_callF id (w1) rfl rfl rfl rfl ⟨rfl,trivial⟩ rfl rfl rfl rfl rfl rfl ?_ ?_)
 ·rintro k2 res H2 ⟨rfl,rfl,rfl⟩;exact⟨rfl,rfl⟩
 rintro k2 res H2 ⟨rfl,rfl,rfl⟩
 change DS _ _ _ _ _ _ _ _
 by_cases hn:textT l i f=⟨#[110,111,116]⟩
 ·obtain⟨rfl,hs⟩:=(text_is (by decide)).1 hn
  have hil:=seesT_lt hs
  clear w1
  have w2:=rneed_s l i e ⟨#[110,111,116]⟩ (by omega) hn
  have w3:=rtext_fn l (i + 1) e false
  have w4:=rname_out l (i + 1) e false (by omega)
  rw [hn]
  repeat' (first|refine z0 ?_|apply ds_nil|apply dw_seq2|refine z16 ?_|refine z18 ?_|apply thenD_n)
  (refine ds_callF id (w2) rfl rfl rfl rfl ⟨rfl,trivial⟩ rfl rfl rfl rfl rfl rfl ?_ ?_)
  ·rintro k2 res H2 ⟨rfl,rfl,rfl⟩;exact⟨rfl,rfl⟩
  rintro k2 res H2 ⟨rfl,rfl,rfl⟩
  change DS _ _ _ _ _ _ _ _
  clear w2
  repeat' (first|refine z0 ?_|apply ds_nil|apply dw_seq2|refine z16 ?_|apply thenD_n|refine z3 ?_|fail)
  (refine ds_callF id (w3) rfl rfl rfl rfl ⟨rfl,trivial⟩ rfl rfl rfl rfl rfl rfl ?_ ?_)
  ·rintro k2 res H2 ⟨rfl,rfl,rfl⟩;exact⟨rfl,rfl⟩
  rintro k2 res H2 ⟨rfl,rfl,rfl⟩
  change DS _ _ _ _ _ _ _ _
  clear w3
  repeat' (first|refine z0 ?_|refine z12 ?_|apply ds_nil|apply dw_seq2|refine z16 ?_|refine z18 ?_|apply thenD_n)
  (refine ds_callF id (w4) rfl rfl rfl rfl ⟨rfl,trivial⟩ rfl rfl rfl rfl rfl rfl ?_ ?_)
  ·rintro k2 res H2 ⟨rfl,s,k,g,rfl,rfl,_⟩;exact⟨rfl,rfl⟩
  rintro k2 res H2 ⟨rfl,s,k,g,rfl,rfl,h1⟩
  change DS _ _ _ _ _ _ _ _
  clear w4
  have w5:=rterms_out l k e g false (name_le (by omega) h1) hl hok
  repeat' (first|refine z0 ?_|apply ds_nil|apply dw_seq2|refine z16 ?_|apply thenD_n|refine z3 ?_|fail)
  (refine ds_callF id (w5) rfl rfl rfl rfl ⟨rfl,trivial⟩ rfl rfl rfl rfl rfl rfl ?_ ?_)
  ·rintro k2 res H2 ⟨rfl,x,m,g2,rfl,rfl,_⟩;exact⟨rfl,rfl⟩
  rintro k2 res H2 ⟨rfl,x,m,g2,rfl,rfl,h2⟩
  change DS _ _ _ _ _ _ _ _
  clear w5
  repeat' (first|refine z0 ?_|apply ds_nil|apply dw_seq2|refine z16 ?_|apply dw_ret|apply thenD_n|apply thenD_r|refine z3 ?_|fail)
  exact⟨.inl rfl,_,rfl,id,1,_,rdH l m e g2,rfl,⟨rfl,trivial⟩,rfl,rfl,rfl,rfl,rfl,rfl,rfl,⟨2,hereT l e i,0,s,x.1⟩,m,g2,rfl,rfl,lit_not hs h1 h2⟩
 have hns:f=false→seesT l i ⟨#[110,111,116]⟩=false:=fun h=>Bool.eq_false_iff.2 fun h2=>hn ((text_is (by decide)).2 ⟨h,h2⟩)
 generalize ht:textT l i f=t at hn w1
 repeat' (first|refine z0 ?_|apply ds_nil|apply dw_seq2|refine z16 ?_|apply dw_skip|apply thenD_n|(refine z23 ?_ ?_ <;> intro hg)|fail)
 all_goals try (exfalso;exact absurd (by assumption) hn)
 (refine ds_callF id (w1) rfl rfl rfl rfl ⟨rfl,trivial⟩ rfl rfl rfl rfl rfl rfl ?_ ?_)
 ·rintro k2 res H2 ⟨rfl,rfl,rfl⟩;exact⟨rfl,rfl⟩
 rintro k2 res H2 ⟨rfl,rfl,rfl⟩
 change DS _ _ _ _ _ _ _ _
 clear w1
 repeat' ((fail_if_success (apply dw_stopR 6));(first|refine z0 ?_|apply ds_nil|apply thenD_n))
 refine dw_cut (ι:=Unit) (fun _=>⟨3,[(0,.loc 0 0),(2,.loc 1 0),(3,.loc 2 0)],[(0,rdB l i e f),(1,litZ),(2,litN 1 (hereT l e i) 0 ⟨#[]⟩)]⟩) (fun _=>nameB l i f=false) ?_ ?_
 ·by_cases h0:t=⟨#[]⟩
  ·have hb:nameB l i f=false:=by
    cases f with
    | true=>rfl
    | false =>
     unfold nameB isTestT
     cases hl0:l[i]? with
     | none=>rfl
     | some x =>
      have hx:=List.mem_of_getElem? hl0
      rw [h0] at ht
      unfold textT at ht
      rw [hl0] at ht
      exact absurd ht (tok_ne (List.all_eq_true.1 hok x hx))
   clear ht
   repeat' (first|refine z0 ?_|refine z12 ?_|apply ds_nil|apply dw_seq2|refine z16 ?_|apply dw_skip|refine z19 ?_|apply thenD_n|((fail_if_success (apply ds_known;exact rfl));apply ds_guardP;exact rfl;exact rfl;exact rfl;all_goals intro hg))
   all_goals try (exfalso;first|exact absurd h0 (by assumption)|omega)
   exact⟨(),hb,ent_ren id ⟨rfl,rfl,rfl,trivial⟩ ⟨rfl,rfl,rfl,trivial⟩ rfl rfl rfl rfl rfl rfl⟩
  ·obtain⟨rfl,hil⟩:=text_ne (f:=f) (by rw [ht];exact h0)
   have hti:t=l[i].text:=by rw [← ht,text_some hil]
   obtain⟨y0,_,_,y3⟩:=tok_first (List.all_eq_true.1 hok _ (List.getElem_mem hil))
   subst hti
   have w3:=isSmall_fn l[i].text[0]
   rw [y3] at w3
   by_cases hk:l[i].kind=1
   ·have hte:isTestT l i=false:=by unfold isTestT;rw [List.getElem?_eq_getElem hil];exact decide_eq_false (by omega)
    rw [decide_eq_true hk] at w3
    have w4:=rname_out l i e false (by omega)
    clear ht
    repeat' (first|refine z0 ?_|refine z12 ?_|apply ds_nil|apply dw_seq2|refine z16 ?_|apply dw_skip|refine z18 ?_|refine z19 ?_|apply thenD_n|refine z21 ?_ (hc:=by apply w3)|((fail_if_success (apply ds_known;exact rfl));apply ds_guardP;exact rfl;exact rfl;exact rfl;all_goals intro hg))
    all_goals try (exfalso;first|exact absurd (by assumption) h0|exact absurd h0 (by assumption)|omega)
    (refine ds_callF id (w4) rfl rfl rfl rfl ⟨rfl,trivial⟩ rfl rfl rfl rfl rfl rfl ?_ ?_)
    ·rintro k2 res H2 ⟨rfl,s,k,g,rfl,rfl,_⟩;exact⟨rfl,rfl⟩
    rintro k2 res H2 ⟨rfl,s,k,g,rfl,rfl,h1⟩
    change DS _ _ _ _ _ _ _ _
    clear w4
    have w5:=rterms_out l k e g false (name_le hi h1) hl hok
    repeat' (first|refine z0 ?_|apply ds_nil|apply dw_seq2|refine z16 ?_|apply thenD_n|refine z3 ?_|fail)
    (refine ds_callF id (w5) rfl rfl rfl rfl ⟨rfl,trivial⟩ rfl rfl rfl rfl rfl rfl ?_ ?_)
    ·rintro k2 res H2 ⟨rfl,x,m,g2,rfl,rfl,_⟩;exact⟨rfl,rfl⟩
    rintro k2 res H2 ⟨rfl,x,m,g2,rfl,rfl,h2⟩
    change DS _ _ _ _ _ _ _ _
    clear w5
    repeat' (first|refine z0 ?_|apply ds_nil|apply dw_seq2|refine z16 ?_|apply dw_ret|apply thenD_n|apply thenD_r|refine z3 ?_|fail)
    exact⟨.inl rfl,_,rfl,id,1,_,rdH l m e g2,rfl,⟨rfl,trivial⟩,rfl,rfl,rfl,rfl,rfl,rfl,rfl,⟨1,hereT l e i,0,s,x.1⟩,m,g2,rfl,rfl,lit_yes (hns rfl) hte h1 h2⟩
   ·have hb:nameB l i false=false:=by unfold nameB isTestT;rw [List.getElem?_eq_getElem hil];dsimp only;rw [decide_eq_true hk];rfl
    rw [decide_eq_false hk] at w3
    clear ht
    repeat' (first|refine z0 ?_|refine z12 ?_|apply ds_nil|apply dw_seq2|refine z16 ?_|apply dw_skip|refine z19 ?_|apply thenD_n|refine z21 ?_ (hc:=by apply w3)|((fail_if_success (apply ds_known;exact rfl));apply ds_guardP;exact rfl;exact rfl;exact rfl;all_goals intro hg))
    all_goals try (exfalso;first|exact absurd (by assumption) h0|exact absurd h0 (by assumption)|omega)
    exact⟨(),hb,ent_ren id ⟨rfl,rfl,rfl,trivial⟩ ⟨rfl,rfl,rfl,trivial⟩ rfl rfl rfl rfl rfl rfl⟩
 intro _ hb
 have hb:nameB l i f=false:=hb
 clear hn
 have hno:f=false→seesT l i ⟨#[110,111,116]⟩=false∧isTestT l i=true:=fun h=>⟨hns h,by subst h;simpa [nameB] using hb⟩
 clear hb hns ht
 have w1:=rterm_out l i e f (by omega) hok
 repeat' (first|refine z0 ?_|apply dw_seq2|refine z16 ?_|fail)
 (refine ds_callF id (w1) rfl rfl rfl rfl ⟨rfl,trivial⟩ rfl rfl rfl rfl rfl rfl ?_ ?_)
 ·rintro k2 res H2 ⟨rfl,a,k,g,rfl,rfl,_⟩;exact⟨rfl,rfl⟩
 rintro k2 res H2 ⟨rfl,a,k,g,rfl,rfl,h1⟩
 change DS _ _ _ _ _ _ _ _
 clear w1
 have hk:=term_le hi h1
 have lo:(opsR.map encT).length=8:=rfl
 obtain⟨s,hs⟩:∃ s,s=textT l k g:=⟨_,rfl⟩
 have hf1:foldG opsR s 1=0:=by unfold foldG;rw [if_neg (fun h=>h.1 rfl)];unfold foldG;rfl
 repeat' (first|(refine ds_bsS opsR rfl rfl rfl rfl rfl rfl rfl rfl rfl rfl rfl rfl ?_)|(first|refine z0 ?_|apply ds_nil|apply dw_seq2|refine z16 ?_|apply dw_block|apply thenD_n|refine z1 ?_|refine z3 ?_|fail))
 refine ds_loop (ι:=Nat) (fun q=>⟨4,[(0,.loc 0 0),(2,.loc 1 0),(3,.loc 2 0),(5,.loc 3 0),(6,.d (.slice 1 (opsR.map encT))),(7,.d (.int .i64 q))],[(0,rdB l k e g),(1,litZ),(2,litN 1 (hereT l e i) (foldG opsR s q) ⟨#[]⟩),(3,.blk 49 [.d (.str a.var),.d (.int .i64 a.n)])]⟩)
  (fun q=>1≤q∧q≤8) (fun q=>8 - q) 1 ⟨by omega,by omega⟩ (ent_ren id ⟨rfl,rfl,rfl,rfl,rfl,rfl,trivial⟩ ⟨rfl,rfl,congrArg (fun z=>some (litN 1 (hereT l e i) z ⟨#[]⟩)) hf1.symm,rfl,trivial⟩ rfl rfl rfl rfl rfl rfl) ?_
 rintro q ⟨hq1,hq⟩
 dsimp only at hq1 hq ⊢
 by_cases hq8:q < 8
 ·have hql:q < opsR.length:=hq8
  have hstep:=foldG_succ (ws:=opsR) (s:=s) hq1 hql
  have w2:FnOk false Tryz.prog tab tab_ok 36 [.loc 0 0] 1 1 (rdH l k e g) (fun _ r H2=>r = .d (.str s)∧H2=rdH l k e g):=(rtext_fn l k e g).imp fun _ _ _ h=>⟨by rw [hs];exact h.2.1,h.2.2⟩
  repeat' (first|refine z0 ?_|apply ds_nil|refine z5 ?_|apply dw_seq2|refine z16 ?_|refine z20 ?_|apply dw_block|apply dw_skip|apply dw_exit|apply thenD_n|apply thenD_e|refine z17 ?_|refine z3 ?_|(refine z23 ?_ ?_ <;> intro hg)|fail)
  all_goals try (exfalso;omega)
  refine dt_callR id w2 (by rintro _ rfl;exact⟨rfl,rfl⟩) ⟨_,rfl⟩ rfl rfl rfl rfl ⟨rfl,trivial⟩ rfl rfl rfl rfl rfl rfl rfl rfl rfl ?_
  rintro _ rfl
  by_cases hsq:s=opsR[q]
  ·rw [if_pos hsq] at hstep
   repeat' (first|refine z0 ?_|apply ds_nil|refine z5 ?_|refine z10 ?_|refine z16 ?_|apply dw_skip|apply thenD_n|apply inB_n|refine z3 ?_|(refine z23 ?_ ?_ <;> intro hg)|fail)
   all_goals try (exfalso;first|omega|exact absurd hsq (by assumption))
   exact⟨q + 1,⟨by omega,by omega⟩,ent_ren id ⟨rfl,rfl,rfl,rfl,rfl,rfl,trivial⟩ ⟨rfl,rfl,congrArg (fun z=>some (litN 1 (hereT l e i) z ⟨#[]⟩)) hstep.symm,rfl,trivial⟩ rfl rfl rfl rfl rfl rfl,by show 8 - (q + 1) < 8 - q;omega⟩
  ·rw [if_neg hsq] at hstep
   repeat' (first|refine z0 ?_|apply ds_nil|refine z5 ?_|refine z10 ?_|refine z16 ?_|apply dw_skip|apply thenD_n|apply inB_n|refine z3 ?_|(refine z23 ?_ ?_ <;> intro hg)|fail)
   all_goals try (exfalso;first|omega|exact absurd (by assumption) hsq)
   exact⟨q + 1,⟨by omega,by omega⟩,ent_ren id ⟨rfl,rfl,rfl,rfl,rfl,rfl,trivial⟩ ⟨rfl,rfl,congrArg (fun z=>some (litN 1 (hereT l e i) z ⟨#[]⟩)) hstep.symm,rfl,trivial⟩ rfl rfl rfl rfl rfl rfl,by show 8 - (q + 1) < 8 - q;omega⟩
 have:q=8:=by omega
 subst this
 clear hq1 hq hq8 hf1
 obtain⟨F,hF⟩:∃ F,F=foldG opsR s 8:=⟨_,rfl⟩
 rw [← hF]
 repeat' ((fail_if_success (apply dw_stopR 17));(first|refine z0 ?_|apply ds_nil|apply dw_seq2|refine z16 ?_|apply dw_exit|refine z19 ?_|apply thenD_n|apply thenD_e|refine z17 ?_|fail))
 all_goals try (exfalso;omega)
 refine dw_cut (ι:=Nat × Bool) (fun x=>⟨4,[(0,.loc 0 0),(2,.loc 1 0),(3,.loc 2 0),(5,.loc 3 0)],[(0,rdB l x.1 e x.2),(1,litZ),(2,litN 1 (hereT l e i) F ⟨#[]⟩),(3,.blk 49 [.d (.str a.var),.d (.int .i64 a.n)])]⟩)
  (fun x=>x.1≤l.length∧rdIs (rdP g k (if F=0 then .error k else .ok ((),k + 1))) () x.1 x.2) ?_ ?_
 ·by_cases hz:F=0
  ·subst hz
   have hr:rdIs (rdP g k (if (0:Int)=0 then .error k else .ok ((),k + 1))) () k true:=by cases g <;> rfl
   repeat' (first|refine z0 ?_|apply ds_nil|apply dw_seq2|refine z16 ?_|refine z18 ?_|apply thenD_n|refine z3 ?_|fail)
   all_goals try (exfalso;omega)
   exact⟨(k,true),⟨hk,hr⟩,ent_ren id ⟨rfl,rfl,rfl,rfl,trivial⟩ ⟨rfl,rfl,rfl,rfl,trivial⟩ rfl rfl rfl rfl rfl rfl⟩
  ·obtain⟨q,hq,hFq,hsq⟩:=foldO_text (s:=s) (by rw [← hF];exact hz)
   rw [← hF] at hFq
   cases g with
   | true=>rw [hF,hs,textT_failed,foldO_none] at hz;exact absurd rfl hz
   | false =>
    have hkl:k < l.length:=by
     refine Classical.byContradiction fun hn=>hz ?_
     have:textT l k false=⟨#[]⟩:=by unfold textT;rw [List.getElem?_eq_none (by omega)]
     rw [hF,hs,this,foldO_none]
    have hr:rdIs (rdP false k (if F=0 then .error k else .ok ((),k + 1))) () (k + 1) false:=by show (if F=0 then _ else _)=_;rw [if_neg hz]
    have w3:=rneed_s l k e opsR[q] (by omega) (by rw [← hs];exact hsq)
    clear hF hs hsq
    subst hFq
    have hq8:q < 8:=hq
    repeat' (first|refine z0 ?_|apply ds_nil|apply dw_seq2|refine z16 ?_|apply thenD_n|refine z3 ?_|(refine z23 ?_ ?_ <;> intro hg)|fail)
    all_goals try (exfalso;omega)
    (refine ds_callF id (w3) rfl rfl rfl rfl ⟨rfl,trivial⟩ rfl rfl rfl rfl rfl rfl ?_ ?_)
    ·rintro k2 res H2 ⟨rfl,rfl,rfl⟩;exact⟨rfl,rfl⟩
    rintro k2 res H2 ⟨rfl,rfl,rfl⟩
    change DS _ _ _ _ _ _ _ _
    clear w3
    repeat' (first|apply ds_nil|apply thenD_n)
    exact⟨(k + 1,false),⟨hkl,hr⟩,ent_ren id ⟨rfl,rfl,rfl,rfl,trivial⟩ ⟨rfl,rfl,rfl,rfl,trivial⟩ rfl rfl rfl rfl rfl rfl⟩
 rintro⟨k',g'⟩ ⟨hk',h2⟩
 dsimp only at hk' h2 ⊢
 rw [hs] at hF
 clear hs
 have w3:=rterm_out l k' e g' (by omega) hok
 repeat' (first|refine z0 ?_|apply dw_seq2|refine z16 ?_|fail)
 (refine ds_callF id (w3) rfl rfl rfl rfl ⟨rfl,trivial⟩ rfl rfl rfl rfl rfl rfl ?_ ?_)
 ·rintro k2 res H2 ⟨rfl,b,m,g3,rfl,rfl,_⟩;exact⟨rfl,rfl⟩
 rintro k2 res H2 ⟨rfl,b,m,g3,rfl,rfl,h3⟩
 change DS _ _ _ _ _ _ _ _
 clear w3
 have hm:=term_le hk' h3
 by_cases h5:F < 5
 ·have hend:=lit_test2 (e:=e) hno h1 hF h2 h3 h5
  clear hno h1 hF h2 h3
  repeat' (first|refine z0 ?_|apply ds_nil|apply dw_seq2|refine z16 ?_|apply dw_skip|apply dw_ret|apply thenD_n|refine z1 ?_|refine z3 ?_|refine z4 ?_|(refine z23 ?_ ?_ <;> intro hg)|fail)
  all_goals try (exfalso;omega)
  exact⟨.inl rfl,_,rfl,id,1,_,rdH l m e g3,rfl,⟨rfl,trivial⟩,rfl,rfl,rfl,rfl,rfl,rfl,rfl,⟨3,hereT l e i,F,⟨#[]⟩,[a,b]⟩,m,g3,rfl,rfl,hend⟩
 obtain⟨m',g4,w4,hd4⟩:=rneed_c l m e g3 ⟨#[61]⟩ (by decide) (by omega)
 have h4:=need_is hd4
 have hm':=need_lt hm hd4
 clear hd4
 repeat' (first|(refine ds_bsR [encTTm a,encTTm b] rfl rfl rfl rfl rfl rfl rfl rfl rfl rfl (by intro x hx;simp only [List.mem_cons,List.not_mem_nil,or_false] at hx;rcases hx with rfl|rfl <;> rfl) rfl rfl rfl ?_)|(first|refine z0 ?_|apply ds_nil|apply dw_seq2|refine z16 ?_|apply dw_skip|apply thenD_n|refine z1 ?_|refine z3 ?_|(refine z23 ?_ ?_ <;> intro hg)|fail))
 all_goals try (exfalso;omega)
 (refine ds_callF id (w4) rfl rfl rfl rfl ⟨rfl,trivial⟩ rfl rfl rfl rfl rfl rfl ?_ ?_)
 ·rintro k2 res H2 ⟨rfl,rfl,rfl⟩;exact⟨rfl,rfl⟩
 rintro k2 res H2 ⟨rfl,rfl,rfl⟩
 change DS _ _ _ _ _ _ _ _
 clear w4
 have w5:=rdBl (rterm_out l m' e g4 (by omega) hok) (fun _=>rfl)
 have hne:=rdIs_ex (rdP g4 m' (termT l m')) (⟨⟨#[]⟩,0⟩:TTm)
 repeat' (first|apply ds_nil|refine z5 ?_|refine z20 ?_|apply thenD_n)
 refine dt_callB 0 w5 rfl rfl rfl rfl rfl rfl rfl rfl (by obtain⟨x,k,g,h⟩:=hne;exact⟨_,_,x,k,g,rfl,rfl,h⟩) ?_
 rintro _ _ ⟨c,q,g5,rfl,rfl,h6⟩
 clear w5 hne
 have hend:=lit_test3 (e:=e) hno h1 hF h2 h3 h5 h4 h6
 clear hno h1 hF h2 h3 h4 h6
 repeat' ((fail_if_success (apply dw_stopS 27));(first|refine z5 ?_|refine z6 ?_|refine z9 ?_|refine z11 ?_|apply thenD_n))
 refine dw_ent (ent_cellseal 2 4 11 rfl rfl rfl rfl rfl) ?_
 repeat' (first|refine z0 ?_|apply ds_nil|apply dw_seq2|refine z16 ?_|apply dw_ret|apply thenD_n|refine z3 ?_|fail)
 exact⟨.inl rfl,_,rfl,id,1,_,rdH l q e g5,rfl,⟨rfl,trivial⟩,rfl,rfl,rfl,rfl,rfl,rfl,rfl,⟨4,hereT l e i,F,⟨#[]⟩,[a,b,c]⟩,q,g5,rfl,rfl,hend⟩
theorem terms_fold {l:List Tok} {i j:Nat} {head:Bool} {x:List TTm × Int} (h:termsT l i head = .ok (x,j)):0≤x.2:=by
 have f0:∀ k,0≤foldT l head k 0:=fun k=>by
  cases head with
  | false=>exact Int.le_refl _
  | true=>rw [foldS_is];exact (foldS_low _ _).1
 have go:∀ (n i:Nat) (acc:List TTm) {x:List TTm × Int} {j:Nat},termsGo l head n i acc = .ok (x,j)→0≤x.2:=by
  intro n
  induction n with
  | zero=>intro i acc x j h;cases h
  | succ n ih =>
   intro i acc x j h
   rw [termsGo_succ] at h
   split at h
   ·cases h
   ·split at h
    ·split at h
     ·injection h with h;injection h with h _;rw [← h];exact f0 i
     ·cases h
    ·exact ih _ _ h
 unfold termsT at h
 split at h
 ·split at h
  ·injection h with h;injection h with h _;rw [← h];exact Int.le_refl _
  ·exact go _ _ _ h
 ·cases h
theorem litT_err {l:List Tok} {e:Int} {i k:Nat} (hi:i≤l.length) (h:litT l e i = .error k):k≤l.length:=by
 unfold litT at h
 split at h
 ·rename_i hn
  have:=seesT_lt hn
  split at h
  ·rename_i k' h1;injection h with h;subst h;exact nameT_err (by omega) h1
  ·rename_i s k' h1
   have:=(nameT_lt h1).2
   split at h
   ·rename_i m h2;injection h with h;subst h;exact termsT_err this h2
   ·cases h
 ·split at h
  ·split at h
   ·rename_i k' h1
    injection h with h;subst h
    unfold testT at h1
    split at h1
    ·rename_i q h2;injection h1 with h1;subst h1;exact termT_err hi h2
    ·rename_i a q h2
     have hq:=(termT_lt h2).2
     split at h1
     ·injection h1 with h1;omega
     ·rename_i hz
      have hql:q < l.length:=by
       refine Classical.byContradiction fun hn=>hz ?_
       have:textT l q false=⟨#[]⟩:=by unfold textT;rw [List.getElem?_eq_none (by omega)]
       rw [foldO_is,this,foldO_none]
      split at h1
      ·rename_i m h3;injection h1 with h1;subst h1;exact termT_err hql h3
      ·rename_i b m h3
       have hm:=(termT_lt h3).2
       split at h1
       ·cases h1
       ·split at h1
        ·rename_i h5
         have:=seesT_lt h5
         split at h1
         ·rename_i r h4;injection h1 with h1;subst h1;exact termT_err this h4
         ·cases h1
        ·injection h1 with h1;omega
   ·cases h
  ·split at h
   ·rename_i k' h1;injection h with h;subst h;exact nameT_err hi h1
   ·rename_i s k' h1
    have:=(nameT_lt h1).2
    split at h
    ·rename_i m h2;injection h with h;subst h;exact termsT_err this h2
    ·cases h
theorem lit_le {l:List Tok} {e:Int} {i k:Nat} {t:TLt} {f g:Bool} (hi:i≤l.length) (h:rdIs (rdP f i (litT l e i)) t k g):k≤l.length:=rdIs_lt hi (fun _ _ h=>(litT_lt h).2) (fun _ h=>litT_err hi h) h
theorem rule_dot {l:List Tok} {e:Int} {i k m:Nat} {s:ByteArray} {x:List TTm × Int} {g g2:Bool} (h1:rdIs (rdP false i (nameT l i)) s k g) (h2:rdIs (rdP g k (termsT l k true)) x m g2) (hx:x.2=0) (hd:textT l m g2=⟨#[46]⟩) {m5:Nat} {g5:Bool}
  (h5:rdIs (rdP g2 m (if seesT l m ⟨#[46]⟩=true then .ok ((),m + 1) else .error m)) () m5 g5):rdIs (ruleT l e i) (⟨hereT l e i,s,x.1,x.2,[]⟩:TRu) m5 g5:=by
 obtain⟨rfl,hs⟩:=(text_is (by decide)).1 hd
 cases g with
 | true=>exact absurd (rdIs_true h2).1 (by decide)
 | false =>
  obtain⟨ts,f⟩:=x
  have hx:f=0:=hx
  subst hx
  unfold ruleT
  rw [show nameT l i = .ok (s,k) from h1]
  dsimp only
  rw [show termsT l k true = .ok ((ts,0),m) from h2]
  dsimp only
  have h5:rdIs (if seesT l m ⟨#[46]⟩=true then .ok ((),m + 1) else .error m:PR Unit) () m5 g5:=h5
  rw [if_pos hs] at h5
  rw [if_pos ⟨rfl,hs⟩]
  cases g5 with
  | true=>cases h5
  | false =>
   injection (show Except.ok ((),m + 1)=Except.ok ((),m5) from h5) with h
   injection h with _ h
   subst h
   rfl
theorem rule_body {l:List Tok} {e:Int} {i k m m3 m4 m5:Nat} {s:ByteArray} {x:List TTm × Int} {b:List TLt} {g g2 g3 g4 g5:Bool} (h1:rdIs (rdP false i (nameT l i)) s k g) (h2:rdIs (rdP g k (termsT l k true)) x m g2) (hx:¬ (¬ 0 < x.2∧textT l m g2=⟨#[46]⟩))
  (h3:rdIs (rdP g2 m (if seesT l m ⟨#[58,45]⟩=true then .ok ((),m + 1) else .error m)) () m3 g3) (h4:rdIs (rdP g3 m3 (litsGo l e (l.length + 1) m3 [])) b m4 g4)
  (h5:rdIs (rdP g4 m4 (if seesT l m4 ⟨#[46]⟩=true then .ok ((),m4 + 1) else .error m4)) () m5 g5):rdIs (ruleT l e i) (⟨hereT l e i,s,x.1,x.2,b⟩:TRu) m5 g5:=by
 obtain⟨ts,f⟩:=x
 unfold ruleT
 cases g with
 | true =>
  obtain⟨rfl,rfl⟩:=rdIs_true h2
  obtain⟨rfl,rfl⟩:=rdIs_true h3
  obtain⟨rfl,rfl⟩:=rdIs_true h4
  obtain⟨rfl,rfl⟩:=rdIs_true h5
  rw [show nameT l i = .error m5 from h1]
  rfl
 | false =>
  rw [show nameT l i = .ok (s,k) from h1]
  dsimp only
  cases g2 with
  | true =>
   obtain⟨rfl,rfl⟩:=rdIs_true h3
   obtain⟨rfl,rfl⟩:=rdIs_true h4
   obtain⟨rfl,rfl⟩:=rdIs_true h5
   rw [show termsT l k true = .error m5 from h2]
   rfl
  | false =>
   have hf:=terms_fold (show termsT l k true = .ok ((ts,f),m) from h2)
   rw [show termsT l k true = .ok ((ts,f),m) from h2]
   dsimp only at hf hx ⊢
   rw [if_neg (show ¬(f=0∧seesT l m ⟨#[46]⟩=true) from fun h=>hx ⟨by omega,(text_is (by decide)).2 ⟨rfl,h.2⟩⟩)]
   have h3:rdIs (if seesT l m ⟨#[58,45]⟩=true then .ok ((),m + 1) else .error m:PR Unit) () m3 g3:=h3
   by_cases hs:seesT l m ⟨#[58,45]⟩=true
   ·rw [if_pos hs] at h3
    rw [if_pos hs]
    cases g3 with
    | true=>cases h3
    | false =>
     injection (show Except.ok ((),m + 1)=Except.ok ((),m3) from h3) with h
     injection h with _ h
     subst h
     cases g4 with
     | true =>
      obtain⟨rfl,rfl⟩:=rdIs_true h5
      rw [show litsGo l e (l.length + 1) (m + 1) [] = .error m5 from h4]
      rfl
     | false =>
      rw [show litsGo l e (l.length + 1) (m + 1) [] = .ok (b,m4) from h4]
      dsimp only
      have h5:rdIs (if seesT l m4 ⟨#[46]⟩=true then .ok ((),m4 + 1) else .error m4:PR Unit) () m5 g5:=h5
      by_cases hp:seesT l m4 ⟨#[46]⟩=true
      ·rw [if_pos hp] at h5
       rw [if_pos hp]
       cases g5 with
       | true=>cases h5
       | false =>
        injection (show Except.ok ((),m4 + 1)=Except.ok ((),m5) from h5) with h
        injection h with _ h
        subst h
        rfl
      ·rw [if_neg hp] at h5
       rw [if_neg hp]
       cases g5 with
       | false=>cases h5
       | true =>
        injection (show Except.error m4=Except.error m5 from h5) with h
        subst h
        rfl
   ·rw [if_neg hs] at h3
    rw [if_neg hs]
    cases g3 with
    | false=>cases h3
    | true =>
     injection (show Except.error m=Except.error m3 from h3) with h
     subst h
     obtain⟨rfl,rfl⟩:=rdIs_true h4
     obtain⟨rfl,rfl⟩:=rdIs_true h5
     rfl
def lsInv (l:List Tok) (e:Int) (p:PR (List TLt)) (m:Nat) (b:List TLt) (more fl:Bool) (n:Nat):Prop:=m≤l.length∧match fl,more with
 | true,_=>p = .error m
 | false,true=>p=litsGo l e n m b∧l.length < n + m∧b.length≤m
 | false,false=>p = .ok (b,m)
def rsInv (l:List Tok) (e:Int) (j:Nat) (acc:List TRu) (fl:Bool) (n:Nat):Prop:=j≤l.length∧match fl with
 | true=>rulesGo l e (l.length + 1) 0 [] = .error j
 | false=>rulesGo l e (l.length + 1) 0 []=rulesGo l e n j acc∧l.length < n + j∧acc.length≤j
def rsM:Bool→Nat→Nat
 | true,_=>0
 | false,n=>n + 1
abbrev ruB (at_:Int) (s:ByteArray) (ts:List TTm) (f:Int) (body:SV):HB:=.blk 47 [.d (.int .i64 at_),.d (.str s),.d (.slice 2 (ts.map encTTm)),.d (.int .i64 f),body]
set_option maxHeartbeats 8000000 in
theorem parseOf_fn (s:ByteArray):Fn 13 [.d (.str s)] (fun r=>r=encParse (parseS s)):=by
 refine fnp_enter' _ Tryz.func13 rfl rfl (by kernel_rfl) ?_
 intro O w0 E0 β0
 have w1:=scanOf_fn s
 unfold encScan at w1
 obtain⟨⟨l,p,er⟩,hq⟩:∃ q,q=scanS s:=⟨_,rfl⟩
 unfold parseS
 rw [← hq] at w1 ⊢
 dsimp only at w1 ⊢
 unfold encParse
 by_cases he:er=0
 ·subst he
  obtain⟨hc,hs,hp⟩:=scanS_chain s l p hq.symm
  have hok:=scanS_all hq.symm
  have hlen:=chain_lenT l 0 hc (Nat.zero_le _)
  obtain⟨e,hee⟩:∃ e:Int,e=s.size:=⟨_,rfl⟩
  rw [if_neg (by simp)]
  rw [← hee]
  repeat' (first|refine z0 ?_|apply ds_nil|apply dw_seq2|refine z16 ?_|apply dw_block|apply dw_skip|refine z19 ?_|apply thenD_n|refine z21 ?_ (hc:=by apply w1)|refine z1 ?_|refine z3 ?_|fail)
  all_goals try (exfalso;omega)
  refine dw_ent (ent_cellrow 2 0 47 5 rfl rfl rfl) ?_
  have htot:∀ j,(Lit.int .i64 (hereT l e j)).wf=true:=fun j=>by
   have hat:=chain_atT l 0 hc
   unfold hereT
   by_cases hj:j < l.length
   ·rw [List.getElem?_eq_getElem hj]
    have:=hat _ (List.getElem_mem hj)
    exact i64_wf (by dsimp only;omega) (by dsimp only;omega)
   ·rw [List.getElem?_eq_none (by omega)]
    exact i64_wf (by dsimp only;omega) (by dsimp only;omega)
  refine ds_loop (ι:=Nat × List TRu × Bool × Nat) (fun x=>⟨4,[(2,.loc 1 0),(3,.d (.int .i64 0)),(4,.d (.int .i64 0)),(5,.d (.slice 3 (l.map encTok))),(8,.loc 0 0),(9,.loc 2 0)],[(0,rdB l x.1 e x.2.2.1),(1,.blk 24 [.nils]),(2,.blk 24 [.row 3]),(3,.row 47 5 (x.2.1.map encTRu))]⟩)
   (fun x=>rsInv l e x.1 x.2.1 x.2.2.1 x.2.2.2) (fun x=>rsM x.2.2.1 x.2.2.2) (0,[],false,l.length + 1) ⟨Nat.zero_le _,rfl,Nat.lt_succ_self _,Nat.le_refl _⟩
   (ent_ren (fun x=>match x with|0=>1|1=>0|x=>x) ⟨rfl,rfl,rfl,rfl,rfl,rfl,trivial⟩ ⟨by rw [hee];rfl,rfl,rfl,rfl,trivial⟩ rfl rfl rfl rfl rfl rfl) ?_
  clear w1 hq hc
  rintro⟨j,acc,fl,n⟩ ⟨hj,hinv⟩
  dsimp only at hj hinv ⊢
  have ll:(l.map encTok).length=l.length:=List.length_map _
  cases fl with
  | true =>
   have hinv:rulesGo l e (l.length + 1) 0 [] = .error j:=hinv
   rw [hinv]
   dsimp only
   have w2:=rhere_fn l j e true
   repeat' (first|refine z0 ?_|refine z12 ?_|apply ds_nil|apply dw_seq2|refine z16 ?_|apply dw_exit|refine z18 ?_|refine z19 ?_|apply thenD_n|apply thenD_e|refine z17 ?_|fail)
   all_goals try (exfalso;omega)
   (refine ds_callF id (w2) rfl rfl rfl rfl ⟨rfl,trivial⟩ rfl rfl rfl rfl rfl rfl ?_ ?_)
   ·rintro k2 res H2 ⟨rfl,rfl,rfl⟩;exact⟨rfl,rfl⟩
   rintro k2 res H2 ⟨rfl,rfl,rfl⟩
   change DS _ _ _ _ _ _ _ _
   clear w2
   repeat' (first|refine z0 ?_|apply ds_nil|apply thenD_n|refine z3 ?_|fail)
   refine dw_ent (ent_cellnil 1 0 5 rfl rfl rfl) ?_
   repeat' (first|apply dw_ret|apply thenD_r)
   exact⟨.inl rfl,_,rfl,rfl,rfl⟩
  | false =>
   obtain⟨hgo,hn,ha⟩:rulesGo l e (l.length + 1) 0 []=rulesGo l e n j acc∧l.length < n + j∧acc.length≤j:=hinv
   obtain⟨n,rfl⟩:∃ m,n=m + 1:=⟨n - 1,by omega⟩
   rw [rulesGo_succ l e n j acc] at hgo
   by_cases hjl:j < l.length
   ·rw [if_pos hjl] at hgo
    have w2:=rhere_fn l j e false
    have w3:=rname_out l j e false (by omega)
    repeat' (first|refine z0 ?_|apply ds_nil|apply dw_seq2|refine z16 ?_|apply dw_block|apply dw_skip|apply dw_exit|refine z19 ?_|apply thenD_n|apply thenD_e|refine z17 ?_|(refine z23 ?_ ?_ <;> intro hg)|fail)
    all_goals try (exfalso;omega)
    (refine ds_callF id (w2) rfl rfl rfl rfl ⟨rfl,trivial⟩ rfl rfl rfl rfl rfl rfl ?_ ?_)
    ·rintro k2 res H2 ⟨rfl,rfl,rfl⟩;exact⟨rfl,rfl⟩
    rintro k2 res H2 ⟨rfl,rfl,rfl⟩
    change DS _ _ _ _ _ _ _ _
    clear w2
    repeat' (first|refine z0 ?_|apply ds_nil|apply dw_seq2|refine z16 ?_|apply thenD_n|refine z1 ?_|refine z3 ?_|fail)
    (refine ds_callF id (w3) rfl rfl rfl rfl ⟨rfl,trivial⟩ rfl rfl rfl rfl rfl rfl ?_ ?_)
    ·rintro k2 res H2 ⟨rfl,s1,k,g,rfl,rfl,_⟩;exact⟨rfl,rfl⟩
    rintro k2 res H2 ⟨rfl,s1,k,g,rfl,rfl,h1⟩
    change DS _ _ _ _ _ _ _ _
    clear w3
    have hk:=name_le hj h1
    have w4:=rterms_out l k e g true hk (by omega) hok
    repeat' (first|refine z0 ?_|apply ds_nil|apply dw_seq2|refine z16 ?_|apply thenD_n|refine z3 ?_|fail)
    (refine ds_callF id (w4) rfl rfl rfl rfl ⟨rfl,trivial⟩ rfl rfl rfl rfl rfl rfl ?_ ?_)
    ·rintro k2 res H2 ⟨rfl,x,m,g2,rfl,rfl,_⟩;exact⟨rfl,rfl⟩
    rintro k2 res H2 ⟨rfl,x,m,g2,rfl,rfl,h2⟩
    change DS _ _ _ _ _ _ _ _
    clear w4
    have hm:=terms_le hk h2
    repeat' ((fail_if_success (apply dw_stopR 10));(first|refine z0 ?_|apply ds_nil|apply thenD_n|refine z3 ?_|fail))
    refine dw_cut (ι:=List TLt × Nat × Bool) (fun y=>⟨5,[(2,.loc 1 0),(3,.d (.int .i64 0)),(4,.d (.int .i64 0)),(5,.d (.slice 3 (l.map encTok))),(8,.loc 0 0),(9,.loc 2 0),(10,.loc 4 0)],[(0,rdB l y.2.1 e y.2.2),(1,.blk 24 [.nils]),(2,.blk 24 [.row 3]),(3,.row 47 5 (acc.map encTRu)),(4,ruB (hereT l e j) s1 x.1 x.2 (.d (.slice 5 (y.1.map encTLt))))]⟩)
     (fun y=>y.2.1≤l.length∧∀ m5 g5,rdIs (rdP y.2.2 y.2.1 (if seesT l y.2.1 ⟨#[46]⟩=true then .ok ((),y.2.1 + 1) else .error y.2.1)) () m5 g5→rdIs (ruleT l e j) (⟨hereT l e j,s1,x.1,x.2,y.1⟩:TRu) m5 g5) ?_ ?_
    ·refine dw_cut (ι:=Bool) (fun b=>⟨5,[(2,.loc 1 0),(3,.d (.int .i64 0)),(4,.d (.int .i64 0)),(5,.d (.slice 3 (l.map encTok))),(8,.loc 0 0),(9,.loc 2 0),(10,.loc 4 0),(53,.d (.bool b))],[(0,rdB l m e g2),(1,.blk 24 [.nils]),(2,.blk 24 [.row 3]),(3,.row 47 5 (acc.map encTRu)),(4,ruB (hereT l e j) s1 x.1 x.2 .nils)]⟩) (fun b=>b=(decide (0 < x.2) || decide (textT l m g2≠⟨#[46]⟩))) ?_ ?_
     ·have w5:=rtext_fn l m e g2
      clear hgo h1 h2
      by_cases hx0:0 < x.2
      ·repeat' (first|refine z0 ?_|refine z12 ?_|apply ds_nil|refine z16 ?_|apply thenD_n|((fail_if_success (apply ds_known;exact rfl));apply ds_guardP;exact rfl;exact rfl;exact rfl;all_goals intro hg))
       all_goals try (exfalso;omega)
       exact⟨true,by rw [decide_eq_true hx0];rfl,ent_ren id ⟨rfl,rfl,rfl,rfl,rfl,rfl,rfl,rfl,trivial⟩ ⟨rfl,rfl,rfl,rfl,rfl,trivial⟩ rfl rfl rfl rfl rfl rfl⟩
      ·repeat' (first|refine z0 ?_|refine z12 ?_|apply ds_nil|refine z16 ?_|apply thenD_n|((fail_if_success (apply ds_known;exact rfl));apply ds_guardP;exact rfl;exact rfl;exact rfl;all_goals intro hg))
       all_goals try (exfalso;omega)
       (refine ds_callF id (w5) rfl rfl rfl rfl ⟨rfl,trivial⟩ rfl rfl rfl rfl rfl rfl ?_ ?_)
       ·rintro k2 res H2 ⟨rfl,rfl,rfl⟩;exact⟨rfl,rfl⟩
       rintro k2 res H2 ⟨rfl,rfl,rfl⟩
       change DS _ _ _ _ _ _ _ _
       clear w5
       repeat' (first|refine z0 ?_|apply ds_nil|apply thenD_n)
       exact⟨decide (textT l m g2≠⟨#[46]⟩),by rw [decide_eq_false hx0];rfl,ent_ren id ⟨rfl,rfl,rfl,rfl,rfl,rfl,rfl,rfl,trivial⟩ ⟨rfl,rfl,rfl,rfl,rfl,trivial⟩ rfl rfl rfl rfl rfl rfl⟩
     ·intro bb hbb
      dsimp only
      cases bb with
      | false =>
       have hbb:=hbb.symm
       rw [Bool.or_eq_false_iff,decide_eq_false_iff_not,decide_eq_false_iff_not,Classical.not_not] at hbb
       obtain⟨hx0,hdt⟩:=hbb
       obtain⟨rfl,hsd⟩:=(text_is (by decide)).1 hdt
       have hx2:x.2=0:=by
        cases g with
        | true=>exact absurd (rdIs_true h2).1 (by decide)
        | false=>have:=terms_fold (show termsT l k true = .ok (x,m) from h2);omega
       have hfin:∀ m5 g5,rdIs (rdP false m (if seesT l m ⟨#[46]⟩=true then .ok ((),m + 1) else .error m)) () m5 g5→rdIs (ruleT l e j) (⟨hereT l e j,s1,x.1,x.2,[]⟩:TRu) m5 g5:=fun m5 g5 h=>rule_dot h1 h2 hx2 hdt h
       clear hgo h1 h2 hdt hsd hx2
       repeat' (first|apply dw_skip|refine z19 ?_|apply thenD_n)
       exact⟨([],m,false),⟨hm,hfin⟩,ent_trans (ent_cellnil 4 4 5 rfl rfl rfl) (ent_ren id ⟨rfl,rfl,rfl,rfl,rfl,rfl,rfl,trivial⟩ ⟨rfl,rfl,rfl,rfl,rfl,trivial⟩ rfl rfl rfl rfl rfl rfl)⟩
      | true =>
       have hx:¬ (¬ 0 < x.2∧textT l m g2=⟨#[46]⟩):=by
        rintro⟨q1,q2⟩
        rw [decide_eq_false q1,decide_eq_false (fun h=>h q2)] at hbb
        cases hbb
       clear hbb
       obtain⟨m3,g3,w5,hd3⟩:=rneed_c l m e g2 ⟨#[58,45]⟩ (by decide) (by omega)
       have h3:=need_is hd3
       have hm3:=need_lt hm hd3
       clear hd3
       refine dw_ent (ent_cellrow 4 4 51 5 rfl rfl rfl) ?_
       repeat' (first|apply dw_seq2|refine z16 ?_|refine z18 ?_|fail)
       (refine ds_callF id (w5) rfl rfl rfl rfl ⟨rfl,trivial⟩ rfl rfl rfl rfl rfl rfl ?_ ?_)
       ·rintro k2 res H2 ⟨rfl,rfl,rfl⟩;exact⟨rfl,rfl⟩
       rintro k2 res H2 ⟨rfl,rfl,rfl⟩
       change DS _ _ _ _ _ _ _ _
       clear w5
       repeat' (first|refine z0 ?_|apply ds_nil|apply dw_seq2|refine z16 ?_|apply dw_block|apply thenD_n)
       have hfin:∀ b m4 g4,rdIs (rdP g3 m3 (litsGo l e (l.length + 1) m3 [])) b m4 g4→∀ m5 g5,rdIs (rdP g4 m4 (if seesT l m4 ⟨#[46]⟩=true then .ok ((),m4 + 1) else .error m4)) () m5 g5→rdIs (ruleT l e j) (⟨hereT l e j,s1,x.1,x.2,b⟩:TRu) m5 g5:=fun b m4 g4 h4 m5 g5 h5=>rule_body h1 h2 hx h3 h4 h5
       obtain⟨pl,hpl⟩:∃ pl,pl=rdP g3 m3 (litsGo l e (l.length + 1) m3 []):=⟨_,rfl⟩
       rw [← hpl] at hfin
       refine ds_loop (ι:=Nat × List TLt × Bool × Bool × Nat) (fun y=>⟨6,[(2,.loc 1 0),(3,.d (.int .i64 0)),(4,.d (.int .i64 0)),(5,.d (.slice 3 (l.map encTok))),(8,.loc 0 0),(9,.loc 2 0),(10,.loc 4 0),(11,.d (.bool y.2.2.1))],[(0,rdB l y.1 e y.2.2.2.1),(1,.blk 24 [.nils]),(2,.blk 24 [.row 3]),(3,.row 47 5 (acc.map encTRu)),(4,ruB (hereT l e j) s1 x.1 x.2 (.row 5)),(5,.row 51 5 (y.2.1.map encTLt))]⟩)
        (fun y=>lsInv l e pl y.1 y.2.1 y.2.2.1 y.2.2.2.1 y.2.2.2.2) (fun y=>tlM y.2.2.2.1 y.2.2.1 y.2.2.2.2) (m3,[],true,g3,l.length + 1) ?_ (ent_ren id ⟨rfl,rfl,rfl,rfl,rfl,rfl,rfl,rfl,trivial⟩ ⟨rfl,rfl,rfl,rfl,rfl,rfl,trivial⟩ rfl rfl rfl rfl rfl rfl) ?_
       ·refine⟨hm3,?_⟩
        cases g3 with
        | true=>exact hpl
        | false=>exact⟨hpl,by show l.length < l.length + 1 + m3;omega,Nat.zero_le _⟩
       clear hpl h1 h2 hgo h3 hx
       rintro⟨q,b,more,fl,n2⟩ ⟨hq,hinv⟩
       dsimp only at hq hinv ⊢
       cases fl with
       | true =>
        have hinv:rdIs pl b q true:=hinv
        cases more with
        | true =>
         repeat' (first|refine z0 ?_|apply ds_nil|apply dw_seq2|refine z16 ?_|apply dw_exit|refine z19 ?_|apply thenD_n|apply thenD_e|refine z17 ?_|fail)
         exact⟨(b,q,true),⟨hq,hfin _ _ _ hinv⟩,ent_trans (ent_cellseal 4 4 5 rfl rfl rfl rfl rfl) (ent_ren id ⟨rfl,rfl,rfl,rfl,rfl,rfl,rfl,trivial⟩ ⟨rfl,rfl,rfl,rfl,rfl,trivial⟩ rfl rfl rfl rfl rfl rfl)⟩
        | false =>
         repeat' (first|refine z0 ?_|refine z12 ?_|apply ds_nil|apply dw_seq2|refine z16 ?_|apply dw_exit|refine z19 ?_|apply thenD_n|apply thenD_e|refine z17 ?_|fail)
         exact⟨(b,q,true),⟨hq,hfin _ _ _ hinv⟩,ent_trans (ent_cellseal 4 4 5 rfl rfl rfl rfl rfl) (ent_ren id ⟨rfl,rfl,rfl,rfl,rfl,rfl,rfl,trivial⟩ ⟨rfl,rfl,rfl,rfl,rfl,trivial⟩ rfl rfl rfl rfl rfl rfl)⟩
       | false=>cases more with
        | false =>
         have hinv:rdIs pl b q false:=hinv
         repeat' (first|refine z0 ?_|refine z12 ?_|apply ds_nil|apply dw_seq2|refine z16 ?_|apply dw_exit|refine z19 ?_|apply thenD_n|apply thenD_e|refine z17 ?_|fail)
         exact⟨(b,q,false),⟨hq,hfin _ _ _ hinv⟩,ent_trans (ent_cellseal 4 4 5 rfl rfl rfl rfl rfl) (ent_ren id ⟨rfl,rfl,rfl,rfl,rfl,rfl,rfl,trivial⟩ ⟨rfl,rfl,rfl,rfl,rfl,trivial⟩ rfl rfl rfl rfl rfl rfl)⟩
        | true =>
         clear hfin
         obtain⟨hli,hn2,hb⟩:pl=litsGo l e n2 q b∧l.length < n2 + q∧b.length≤q:=hinv
         obtain⟨n2,rfl⟩:∃ m,n2=m + 1:=⟨n2 - 1,by omega⟩
         rw [litsGo_succ] at hli
         have wl:=rdBl (rlit_out l q e false hq (by omega) hok) (fun _=>rfl)
         have hne:=rdIs_ex (rdP false q (litT l e q)) (⟨0,0,0,⟨#[]⟩,[]⟩:TLt)
         repeat' (first|refine z0 ?_|apply ds_nil|refine z5 ?_|apply dw_seq2|refine z16 ?_|refine z20 ?_|apply dw_block|apply dw_skip|refine z18 ?_|apply thenD_n)
         refine dt_callB 0 wl rfl rfl rfl rfl rfl rfl rfl rfl (by obtain⟨x,k,g,h⟩:=hne;exact⟨_,_,x,k,g,rfl,rfl,h⟩) ?_
         rintro _ _ ⟨y,r,g5,rfl,rfl,hl⟩
         clear wl hne
         have hr:=lit_le hq hl
         have hr1:g5=false→q < r:=fun h=>by subst h;exact (litT_lt (show litT l e q = .ok (y,r) from hl)).1
         have lb:(b.map encTLt).length=b.length:=List.length_map _
         have hap:(b++[y]).map encTLt=b.map encTLt++[encTLt y]:=List.map_append
         have w6:=rtext_fn l r e g5
         repeat' (first|refine z5 ?_|refine z6 ?_|refine z9 ?_|refine z11 ?_|apply dw_seq2|refine z16 ?_|apply thenD_n)
         (refine ds_callF id (w6) rfl rfl rfl rfl ⟨rfl,trivial⟩ rfl rfl rfl rfl rfl rfl ?_ ?_)
         ·rintro k2 res H2 ⟨rfl,rfl,rfl⟩;exact⟨rfl,rfl⟩
         rintro k2 res H2 ⟨rfl,rfl,rfl⟩
         change DS _ _ _ _ _ _ _ _
         clear w6
         have hli2:textT l r g5≠⟨#[44]⟩→rdIs pl (b++[y]) r g5:=fun h=>by
          cases g5 with
          | true=>rw [show litT l e q = .error r from hl] at hli;exact hli
          | false =>
           rw [show litT l e q = .ok (y,r) from hl] at hli
           dsimp only at hli
           rw [if_neg (fun h2=>h ((text_is (by decide)).2 ⟨rfl,h2⟩))] at hli
           exact hli
         by_cases hsk:textT l r g5=⟨#[44]⟩
         ·obtain⟨rfl,hsk'⟩:=(text_is (by decide)).1 hsk
          clear hli2
          rw [show litT l e q = .ok (y,r) from hl] at hli
          dsimp only at hli
          rw [if_pos hsk'] at hli
          have:=seesT_lt hsk'
          have:=hr1 rfl
          have w7:=rneed_s l r e ⟨#[44]⟩ (by omega) hsk
          rw [hsk]
          clear hl
          repeat' (first|refine z0 ?_|apply ds_nil|apply dw_seq2|refine z16 ?_|refine z18 ?_|apply thenD_n)
          all_goals try (exfalso;omega)
          (refine ds_callF id (w7) rfl rfl rfl rfl ⟨rfl,trivial⟩ rfl rfl rfl rfl rfl rfl ?_ ?_)
          ·rintro k2 res H2 ⟨rfl,rfl,rfl⟩;exact⟨rfl,rfl⟩
          rintro k2 res H2 ⟨rfl,rfl,rfl⟩
          change DS _ _ _ _ _ _ _ _
          clear w7
          repeat' (first|apply ds_nil|apply thenD_n|apply inB_n)
          exact⟨(r + 1,b++[y],true,false,n2),⟨by show r + 1≤l.length;omega,hli,by show l.length < n2 + (r + 1);omega,by show (b++[y]).length≤r + 1;rw [List.length_append];simp;omega⟩,ent_ren (fun x=>match x with|0=>0|1=>1|2=>2|3=>3|4=>4|_=>_) ⟨rfl,rfl,rfl,rfl,rfl,rfl,rfl,rfl,trivial⟩ ⟨rfl,rfl,rfl,rfl,rfl,by dsimp only;rw [hap];rfl,trivial⟩ rfl rfl rfl rfl rfl rfl,Nat.lt_succ_self _⟩
         ·have hinv2:=hli2 hsk
          clear hli2 hli hl
          generalize textT l r g5=t1 at hsk
          repeat' (first|refine z0 ?_|apply ds_nil|apply dw_seq2|refine z16 ?_|apply dw_skip|apply thenD_n|apply inB_n|(refine z23 ?_ ?_ <;> intro hg)|fail)
          all_goals try (exfalso;first|omega|exact absurd (by assumption) hsk)
          exact⟨(r,b++[y],false,g5,n2),⟨hr,by cases g5 <;> exact hinv2⟩,ent_ren (fun x=>match x with|0=>0|1=>1|2=>2|3=>3|4=>4|_=>_) ⟨rfl,rfl,rfl,rfl,rfl,rfl,rfl,congrArg (fun z=>SV.d (D.bool z)) (decide_eq_false hsk),trivial⟩ ⟨rfl,rfl,rfl,rfl,rfl,by dsimp only;rw [hap];rfl,trivial⟩ rfl rfl rfl rfl rfl rfl,by cases g5 <;> exact Nat.succ_pos _⟩
    ·rintro⟨b,m4,g4⟩ ⟨hm4,hy⟩
     dsimp only at hm4 hy ⊢
     obtain⟨m5,g5,w5,hd5⟩:=rneed_c l m4 e g4 ⟨#[46]⟩ (by decide) (by omega)
     have hr:=hy m5 g5 (need_is hd5)
     have hm5:=need_lt hm4 hd5
     clear hd5 hy h1 h2
     have la:(acc.map encTRu).length=acc.length:=List.length_map _
     repeat' (first|apply dw_seq2|refine z16 ?_|fail)
     (refine ds_callF id (w5) rfl rfl rfl rfl ⟨rfl,trivial⟩ rfl rfl rfl rfl rfl rfl ?_ ?_)
     ·rintro k2 res H2 ⟨rfl,rfl,rfl⟩;exact⟨rfl,rfl⟩
     rintro k2 res H2 ⟨rfl,rfl,rfl⟩
     change DS _ _ _ _ _ _ _ _
     clear w5
     repeat' (first|refine z0 ?_|apply ds_nil|refine z16 ?_|apply thenD_n|apply inB_n|refine z3 ?_|refine z4 ?_|refine z2 ?_|fail)
     obtain⟨z,hz⟩:∃ z:TRu,z=⟨hereT l e j,s1,x.1,x.2,b⟩:=⟨_,rfl⟩
     have hap:(acc++[z]).map encTRu=acc.map encTRu++[encTRu ⟨hereT l e j,s1,x.1,x.2,b⟩]:=by rw [← hz];exact List.map_append
     rw [← hz] at hr
     refine⟨(m5,acc++[z],g5,n),⟨hm5,?_⟩,ent_ren (fun x=>match x with|0=>0|1=>1|2=>2|_=>_) ⟨rfl,rfl,rfl,rfl,rfl,rfl,trivial⟩ ⟨rfl,rfl,rfl,by dsimp only;rw [hap];rfl,trivial⟩ rfl rfl rfl rfl rfl rfl,by cases g5 <;> first|exact Nat.lt_succ_self _|exact Nat.succ_pos _⟩
     cases g5 with
     | true=>rw [show ruleT l e j = .error m5 from hr] at hgo;exact hgo
     | false =>
      rw [show ruleT l e j = .ok (z,m5) from hr] at hgo
      have:=(ruleT_lt (show ruleT l e j = .ok (z,m5) from hr)).1
      exact⟨hgo,by show l.length < n + m5;omega,by show (acc++[z]).length≤m5;rw [List.length_append];simp;omega⟩
   ·rw [if_neg hjl] at hgo
    rw [hgo]
    dsimp only
    repeat' ((fail_if_success (apply dw_stopS 22));(first|refine z0 ?_|apply ds_nil|apply dw_seq2|refine z16 ?_|apply dw_block|apply dw_skip|apply dw_exit|refine z19 ?_|apply thenD_n|apply thenD_e|refine z17 ?_|(refine z23 ?_ ?_ <;> intro hg)|fail))
    all_goals try (exfalso;omega)
    refine dw_ent (ent_cellseal 2 0 3 rfl rfl rfl rfl rfl) ?_
    have w3:=checkTree_fn acc
    by_cases hk:checkT acc=0
    ·rw [if_pos hk]
     rw [hk] at w3
     repeat' (first|refine z0 ?_|apply ds_nil|apply dw_seq2|refine z16 ?_|apply dw_skip|apply dw_ret|refine z19 ?_|apply thenD_n|refine z21 ?_ (hc:=by apply w3)|refine z3 ?_|fail)
     all_goals try (exfalso;omega)
     exact⟨.inl rfl,_,rfl,rfl,rfl⟩
    ·rw [if_neg hk]
     repeat' (first|refine z0 ?_|apply ds_nil|apply dw_seq2|refine z16 ?_|apply dw_skip|apply thenD_n|refine z21 ?_ (hc:=by apply w3)|refine z3 ?_|(refine z23 ?_ ?_ <;> intro hg)|fail)
     all_goals try (exfalso;omega)
     refine dw_ent (ent_cellnil 1 0 5 rfl rfl rfl) ?_
     repeat' (first|apply dw_ret|apply thenD_r)
     exact⟨.inl rfl,_,rfl,rfl,rfl⟩
 ·rw [if_pos he]
  repeat' (first|refine z0 ?_|apply ds_nil|apply dw_seq2|refine z16 ?_|apply dw_block|apply dw_skip|apply thenD_n|refine z21 ?_ (hc:=by apply w1)|refine z1 ?_|refine z3 ?_|(refine z23 ?_ ?_ <;> intro hg)|fail)
  all_goals try (exfalso;omega)
  refine dw_ent (ent_cellnil 0 0 5 rfl rfl rfl) ?_
  repeat' (first|apply dw_ret|apply thenD_r)
  exact⟨.inl rfl,_,rfl,rfl,rfl⟩
end Go.Proofs.YtapciiffpnociabGreatDoor
namespace Go.Proofs.YtapciiffpnociabGreatDoor
open Go Go.RowKit
theorem FnP.args {dr:Bool} {P:Program} {τ:List (Nat × TI)} {τok:TabOk P τ} {f:FuncId} {args args':List SV} {R:SV→Prop} (hc:FnP dr P τ τok f args R) (h:∀ X e w vs,RelL X e w args' vs→RelL X e w args vs):FnP dr P τ τok f args' R :=
 ⟨hc.1,fun O e w vs hH hr=>hc.2 O e w vs hH (h _ _ _ _ hr)⟩
theorem nil_rel {X e w} {es:Nat} {v:Value} (h:Rel X e w .nils v):Rel X e w (.d (.slice es [])) v:=by
 rw [show v = .slice none 0 0 from h]
 exact .nil
theorem itoa_one:itoaB 1=⟨#[49]⟩:=by
 unfold itoaB Lib.itoa
 rw [if_neg (by decide),show (1:Int).toNat=1 from rfl]
 unfold Lib.decDigits
 rw [dif_pos (by decide)]
 rfl
theorem itoa_two:itoaB 2=⟨#[50]⟩:=by
 unfold itoaB Lib.itoa
 rw [if_neg (by decide),show (2:Int).toNat=2 from rfl]
 unfold Lib.decDigits
 rw [dif_pos (by decide)]
 rfl
theorem small_show:showS smallRs=smallS:=by
 have h1:showTm ⟨⟨#[]⟩,1⟩=⟨#[49]⟩:=by unfold showTm;rw [if_pos rfl];exact itoa_one
 have h2:showTm ⟨⟨#[]⟩,2⟩=⟨#[50]⟩:=by unfold showTm;rw [if_pos rfl];exact itoa_two
 unfold smallRs
 simp only [showS,showRu,atomS,List.map_cons,List.map_nil,h1,h2]
 rfl
theorem small_ok:∀ r∈smallRs,RuShow r:=by
 have nv:∀ s:ByteArray,s.size≤4294967296→nOk ⟨s,0⟩:=fun s h=>⟨by show (-9999999:Int)≤0;decide,by show (0:Int)≤9999999;decide,h⟩
 have lo:∀ x∈([⟨1,26,0,⟨#[113]⟩,[⟨⟨#[88]⟩,0⟩,⟨⟨#[89]⟩,0⟩]⟩,⟨2,35,0,⟨#[114]⟩,[⟨⟨#[89]⟩,0⟩]⟩,⟨3,45,1,⟨#[]⟩,[⟨⟨#[88]⟩,0⟩,⟨⟨#[89]⟩,0⟩]⟩]:List TLt),LtOk x:=by
  intro x hx
  simp only [List.mem_cons,List.not_mem_nil,or_false] at hx
  rcases hx with rfl|rfl|rfl
  ·exact⟨fun t ht=>by simp only [List.mem_cons,List.not_mem_nil,or_false] at ht;rcases ht with rfl|rfl <;> exact nv _ (by decide),by decide,by decide,⟨by decide,by decide⟩,fun h=>absurd rfl h,fun h=>absurd rfl h⟩
  ·exact⟨fun t ht=>by simp only [List.mem_cons,List.not_mem_nil,or_false] at ht;rcases ht with rfl;exact nv _ (by decide),by decide,by decide,⟨by decide,by decide⟩,fun _ h=>absurd rfl h,fun _ h=>absurd rfl h⟩
  ·exact⟨fun t ht=>by simp only [List.mem_cons,List.not_mem_nil,or_false] at ht;rcases ht with rfl|rfl <;> exact nv _ (by decide),by decide,by decide,⟨by decide,by decide⟩,fun _ _=>by decide,fun _ _ h=>absurd rfl h⟩
 intro r hr
 unfold smallRs at hr
 simp only [List.mem_cons,List.not_mem_nil,or_false] at hr
 rcases hr with rfl|rfl
 ·exact⟨by decide,fun t ht=>by simp only [List.mem_cons,List.not_mem_nil,or_false] at ht;rcases ht with rfl|rfl <;> exact⟨by decide,by decide,by decide⟩,by decide,.inl rfl,fun x hx=>(by cases hx),by decide⟩
 ·exact⟨by decide,fun t ht=>by simp only [List.mem_cons,List.not_mem_nil,or_false] at ht;rcases ht with rfl|rfl <;> exact nv _ (by decide),by decide,.inr ⟨by decide,by decide,by decide⟩,lo,by decide⟩
theorem agg1_rel {X e w} {q:Nat} {v:Value} (h:Rel X e w (.agg [.nils]) v):Rel X e w (.agg [.d (.slice q [])]) v:=by
 obtain⟨us,hv,hr⟩:=h
 match us,hr with
 | [x],⟨h1,_⟩=>exact⟨[x],hv,nil_rel h1,trivial⟩
 | [],h=>exact h.elim
 | _::_::_,⟨_,h⟩=>exact h.elim
attribute [local irreducible] DW DS DL DQ Ev FnOk FnP thenD inBlockD DT
set_option maxHeartbeats 8000000 in
theorem showBegun_fn:Fn 11 [] (fun r=>r = .d (.bool true)):=by
 refine fnp_enter' _ Tryz.func11 rfl rfl (by kernel_rfl) ?_
 intro O w0 E0 β0
 have h1:=parseOf_fn smallS
 rw [small_parse] at h1
 have h2:=sshow_fn smallRs (by decide) small_check (by decide) small_ok
 rw [small_show] at h2
 have h3:=ssame_fn smallRs smallRs
 rw [show sameL (sameTRu false) smallRs smallRs=true by kernel_rfl] at h3
 have h4:=ssame_fn smallRs []
 rw [show sameL (sameTRu false) smallRs []=false by kernel_rfl] at h4
 have h4:Fn 20 [.agg [.d (.slice 5 (smallRs.map encTRu))],.agg [.nils]] _:=FnP.args h4 fun _ _ _ vs h=>match vs,h with
  | _::_::_,⟨g1,g2,g3⟩=>⟨g1,agg1_rel g2,g3⟩
  | [_],⟨_,h⟩=>h.elim
  | [],h=>h.elim
 unfold encParse at h1
 dsimp only at h1
 unfold smallS at h1 h2
 generalize smallRs=rs at *
 repeat' (first|refine z0 ?_|apply ds_nil|apply dw_seq2|refine z16 ?_|apply dw_ret|apply thenD_n|refine z21 ?_ (hc:=by apply h1)|refine z21 ?_ (hc:=by apply h2)|refine z21 ?_ (hc:=by apply h3)|refine z21 ?_ (hc:=by apply h4)|refine z1 ?_|refine z3 ?_|fail)
 all_goals first|exact ret_b rfl rfl|exact ret_b rfl (by decide)
theorem oneS_size {k:Int} {s:ByteArray} (h:oneS k s=true):s.size≤5000:=by
 rw [oneS_eq,isTok_eq] at h
 exact h.2.1
theorem nameS_size {s:ByteArray} (h:nameS s=true):s.size≤5000:=by
 unfold nameS at h
 rw [Bool.and_eq_true] at h
 exact oneS_size h.1
theorem check_show {rs:List TRu} (h:checkT rs=0) :
  rs.length≤12∧(∀ r∈rs,RuShow r)∧∀ r∈rs,∀ x∈r.body,kOk x:=by
 unfold checkT at h
 split at h
 ·cases h
 rename_i hm
 split at h
 rotate_left
 ·cases h
 rename_i ha
 have hl:rs.length≤12:=by omega
 have hmu:∀ r∈rs,muchT r=false:=by
  intro r hr
  cases hx:muchT r with
  | false=>rfl
  | true=>exact absurd (.inr (List.any_eq_true.2 ⟨r,hr,hx⟩)) hm
 have tm:∀ t:TTm,tmOk t=true→nOk t:=by
  intro t ht
  unfold tmOk at ht
  split at ht
  ·rename_i hv
   simp only [Bool.and_eq_true,decide_eq_true_eq] at ht
   exact⟨ht.1,ht.2,by rw [hv];decide⟩
  ·simp only [Bool.and_eq_true,decide_eq_true_eq] at ht
   have hs:=oneS_size ht.1
   exact⟨by omega,by omega,by omega⟩
 have tl:∀ x:TLt,tlOk x=true→x.terms.length≤3→LtOk x∧kOk x:=by
  intro x hx hlen
  unfold tlOk at hx
  rw [Bool.and_eq_true] at hx
  obtain⟨h1,h2⟩:=hx
  have ht:∀ t∈x.terms,nOk t:=fun t ht=>tm t (List.all_eq_true.1 h1 t ht)
  split at h2
  ·rename_i hk
   simp only [Bool.and_eq_true,decide_eq_true_eq] at h2
   have hn:=nameS_size h2.2
   exact⟨⟨ht,hlen,by omega,by omega,fun a b=>by omega,fun a b=>by omega⟩,by omega⟩
  split at h2
  ·rename_i hk
   simp only [Bool.and_eq_true,decide_eq_true_eq] at h2
   exact⟨⟨ht,hlen,by rw [h2.1.2];decide,by omega,fun a b=>by omega,fun a b c=>by omega⟩,by omega⟩
  split at h2
  ·rename_i hk
   simp only [Bool.and_eq_true,decide_eq_true_eq] at h2
   exact⟨⟨ht,hlen,by rw [h2.1.2];decide,by omega,fun a b=>by omega,fun a b c=>by omega⟩,by omega⟩
  ·cases h2
 have hr:∀ r∈rs,RuShow r∧∀ x∈r.body,kOk x:=by
  intro r hr
  have h1:=List.all_eq_true.1 ha r hr
  have h2:=hmu r hr
  unfold muchT at h2
  simp only [Bool.or_eq_false_iff,decide_eq_false_iff_not] at h2
  obtain⟨⟨m1,m2⟩,m3⟩:=h2
  unfold truOk at h1
  simp only [Bool.and_eq_true,Bool.or_eq_true,decide_eq_true_eq] at h1
  obtain⟨⟨⟨⟨t1,t2⟩,t3⟩,t4⟩,t5⟩:=h1
  have b1:=nameS_size t1
  have hbody:∀ x∈r.body,LtOk x∧kOk x:=by
   intro x hx
   have h3:x.terms.length≤3:=by
    by_cases h:3 < x.terms.length
    ·rw [List.any_eq_true.2 ⟨x,hx,by simpa using h⟩] at m3
     cases m3
    ·omega
   exact tl x (List.all_eq_true.1 t5 x hx) h3
  refine⟨⟨by omega,fun t ht=>tm t (List.all_eq_true.1 t2 t ht),by omega,?_,fun x hx=>(hbody x hx).1,by omega⟩,fun x hx=>(hbody x hx).2⟩
  rcases t4 with t4|⟨t4,_⟩
  ·exact .inl t4
  ·by_cases hf:r.fold=0
   ·exact .inl hf
   ·exact .inr ⟨by omega,by omega,List.length_pos_iff.2 t4⟩
 exact⟨hl,fun r h=>(hr r h).1,fun r h=>(hr r h).2⟩
set_option maxHeartbeats 8000000 in
theorem bstr_none:FnOk false Tryz.prog tab tab_ok 25 [.loc 0 0] 0 1 [(0,.blk 58 [.val (.pointer none),.nils])] (fun _ r H=>H=[]∧r = .d (.str ⟨#[]⟩)):=by
 refine fn_enterR _ Tryz.func25 rfl rfl (by kernel_rfl) ?_
 intro O w0 E0 β0
 repeat' ((fail_if_success (apply dw_stopS 1));(first|refine z0 ?_|apply ds_nil|apply dw_seq2|refine z16 ?_|apply thenD_n))
 refine dw_seq2 ?_
 refine dw_tail 10 (by kernel_rfl) (by kernel_rfl) (by kernel_rfl) rfl rfl rfl ?_
 repeat' refine z5 ?_
 refine dt_sliceNil 0 rfl rfl rfl rfl ?_
 repeat' (first|refine z5 ?_|refine z10 ?_|fail)
 refine ds_ev (ev_unsafeStringNil rfl rfl) rfl rfl ?_
 repeat' (first|refine z0 ?_|apply ds_nil|apply dw_ret|apply thenD_n)
 exact⟨.inl rfl,_,rfl,id,0,_,[],rfl,trivial,rfl,rfl,rfl,rfl,rfl,rfl,rfl,rfl⟩
set_option maxHeartbeats 8000000 in
theorem sshow_nil:Fn 8 [.agg [.d (.slice 5 (([]:List TRu).map encTRu))]] (fun r=>r = .tup [.d (.str (showS [])),.d (.int .i64 0)]):=by
 refine fnp_enter' _ Tryz.func8 rfl rfl (by kernel_rfl) ?_
 intro O w0 E0 β0
 have w1:=tcheck_fn []
 rw [show checkT []=0 from rfl] at w1
 repeat' (first|refine z0 ?_|apply ds_nil|apply dw_seq2|refine z16 ?_|apply dw_block|apply dw_skip|refine z19 ?_|apply thenD_n|refine z21 ?_ (hc:=by apply w1)|refine z1 ?_|fail)
 refine ds_loop (ι:=Unit) (fun _=>⟨2,[(5,.loc 1 0),(17,.d (.int .i64 0)),(18,.d (.int .i64 0))],[(1,.blk 58 [.val (.pointer none),.nils])]⟩)
  (fun _=>True) (fun _=>0) () trivial (ent_ren id ⟨rfl,rfl,rfl,trivial⟩ ⟨rfl,trivial⟩ rfl rfl rfl rfl rfl rfl) ?_
 intro _ _
 dsimp only
 repeat' (first|refine z0 ?_|apply ds_nil|apply dw_seq2|refine z16 ?_|apply dw_exit|refine z19 ?_|apply thenD_n|apply thenD_e|refine z17 ?_|fail)
 all_goals try (exfalso;omega)
 refine ds_callF (fun j=>match j with|0=>1|j=>j) bstr_none rfl rfl rfl rfl ⟨rfl,trivial⟩ rfl rfl rfl rfl rfl rfl ?_ ?_
 ·rintro k2 res H2 ⟨rfl,rfl⟩;exact⟨rfl,rfl⟩
 rintro k2 res H2 ⟨rfl,rfl⟩
 change DS _ _ _ _ _ _ _ _
 repeat' (first|refine z0 ?_|apply ds_nil|apply dw_ret|apply thenD_n)
 all_goals exact⟨.inl rfl,_,rfl,rfl,rfl⟩
theorem sameTTms_self (l:List TTm):sameL sameTTm l l=true:=sameL_refl (fun x=>by unfold sameTTm;simp) l
theorem sameTLt_self (b:Bool) (x:TLt):sameTLt b x x=true:=by
 unfold sameTLt
 rw [sameTTms_self]
 simp
theorem sameTRu_self (b:Bool) (x:TRu):sameTRu b x x=true:=by
 unfold sameTRu
 rw [sameTTms_self,sameL_refl (sameTLt_self b)]
 simp
def joinW:List Tok→Nat
 | []=>0
 | t::l=>1 + t.text.size + joinW l
def joinS (l:List Tok):ByteArray × Int:=if l.all tokOk then (if 5001 < joinW l then (⟨#[]⟩,2) else (joinB (l.map (·.text)) ⟨#[32]⟩,0)) else (⟨#[]⟩,1)
def encJoin (q:ByteArray × Int):SV:=.tup [.d (.str q.1),.d (.int .i64 q.2)]
theorem oneS_small {kind s} (h:oneS kind s=true):s.size≤5000:=by
 apply Decidable.byContradiction
 intro hn
 unfold oneS at h
 rw [scanS_big s (by omega)] at h
 cases h
theorem joinW_app:∀ (l m:List Tok),joinW (l++m)=joinW l + joinW m
 | [],_=>by simp [joinW]
 | t::l,m=>by simp only [List.cons_append,joinW,joinW_app l m];omega
theorem joinW_le:∀ (l:List Tok),l.all tokOk=true→joinW l≤5001 * l.length
 | [],_=>Nat.le_refl _
 | t::l,h=>by
  simp only [List.all_cons,Bool.and_eq_true] at h
  have h1:=oneS_small h.1
  have h2:=joinW_le l h.2
  simp only [joinW,List.length_cons]
  omega
theorem take_snoc {α:Type} (l:List α) (i:Nat) (h:i < l.length):l.take (i + 1)=l.take i++[l[i]]:=by
 rw [List.take_add_one];simp [h]
theorem joinTail_len (sep:List UInt8):∀ (r:List ByteArray),(Lib.joinTail sep (r.map (·.data.toList))).length=(r.map fun x=>sep.length + x.size).sum
 | []=>rfl
 | x::r=>by
  have ih:=joinTail_len sep r
  have e:Lib.joinTail sep ((x::r).map (·.data.toList))=(sep++x.data.toList)++Lib.joinTail sep (r.map (·.data.toList)):=rfl
  have e2:x.data.toList.length=x.size:=Array.length_toList
  rw [e,List.length_append,List.length_append,ih,e2,List.map_cons,List.sum_cons]
theorem joinW_sum:∀ (l:List Tok),joinW l=((l.map (·.text)).map fun x=>1 + x.size).sum
 | []=>rfl
 | t::l=>by simp only [joinW,List.map_cons,List.sum_cons,joinW_sum l]
theorem joinB_size (l:List Tok):(joinB (l.map (·.text)) ⟨#[32]⟩).size≤joinW l:=by
 cases l with
 | nil=>exact Nat.le_refl _
 | cons t l =>
  have h:=joinTail_len [32] (l.map (·.text))
  have h2:=joinW_sum l
  have e2:t.text.data.toList.length=t.text.size:=Array.length_toList
  have e3:(joinB ((t::l).map (·.text)) ⟨#[32]⟩).size=(Lib.join (((t::l).map (·.text)).map (·.data.toList)) [32]).length:=by
   unfold joinB
   exact List.size_toArray
  rw [e3,List.map_cons,List.map_cons,Lib.join_cons,List.length_append,h,e2,joinW,h2]
  show t.text.size + ((l.map (·.text)).map fun x=>1 + x.size).sum≤_
  omega
set_option maxHeartbeats 8000000 in
theorem tjoin_fn (l:List Tok) (hl:l.length≤4398046511104):Fn 19 [.d (encToks l)] (fun r=>r=encJoin (joinS l)):=by
 refine fnp_enter' _ Tryz.func19 rfl rfl (by kernel_rfl) ?_
 intro O w0 E0 β0
 unfold encToks
 repeat' (first|refine z0 ?_|apply ds_nil|apply dw_seq2|refine z16 ?_|apply dw_block|apply thenD_n)
 refine dw_nilrow (t:=4) 9 1 rfl ?_
 refine ds_loop (ι:=Nat) (fun i=>⟨1,[(4,.row 0),(5,.d (.int .i64 (joinW (l.take i)))),(8,.d (.slice 3 (l.map encTok))),(9,.d (.int .i64 l.length)),(10,.d (.int .i64 i))],[(0,.row 9 1 ((l.take i).map fun t=>[D.str t.text]))]⟩)
  (fun i=>i≤l.length∧(l.take i).all tokOk=true) (fun i=>l.length - i) 0 ⟨Nat.zero_le _,rfl⟩
  (ent_ren id ⟨rfl,rfl,rfl,by simp;rfl,rfl,trivial⟩ ⟨rfl,trivial⟩ rfl rfl rfl rfl rfl rfl) ?_
 rintro i ⟨h1,h2⟩
 have hw:=joinW_le _ h2
 have hl2:(l.take i).length≤l.length:=List.length_take_le' ..
 repeat' (first|refine z0 ?_|apply ds_nil|apply dw_seq2|refine z16 ?_|apply thenD_n)
 refine dw_condP rfl (fun h=>?_) (fun h=>?_)
 ·have hi:i < l.length:=by omega
  have hsn:=take_snoc l i hi
  repeat' (first|refine z0 ?_|apply ds_nil|apply dw_seq2|refine z16 ?_|apply dw_block|apply dw_skip|apply thenD_n|refine z21 ?_ (hc:=by apply one_fn)|refine z1 ?_|refine z3 ?_|fail)
  refine dw_cond rfl (fun hb=>?_) (fun hb=>?_)
  ·repeat' (first|refine z0 ?_|apply ds_nil|apply dw_seq2|refine z16 ?_|apply dw_ret|apply thenD_n|apply thenD_r|apply inB_r)
   have hbad:l.all tokOk=false:=by
    rw [List.all_eq_false]
    exact⟨l[i],List.getElem_mem hi,by unfold tokOk;simpa using hb⟩
   unfold joinS
   rw [if_neg (by rw [hbad];exact Bool.false_ne_true)]
   exact ret_2 rfl ⟨rfl,rfl⟩
  ·have hok:oneS l[i].kind l[i].text=true:=by simpa using hb
   have hsm:=oneS_small hok
   repeat' (first|refine z0 ?_|apply ds_nil|apply dw_seq2|refine z16 ?_|apply dw_skip|apply thenD_n|apply inB_n|refine z4 ?_|refine z2 ?_|fail)
   have he:joinW (l.take (i + 1))=joinW (l.take i) + (1 + l[i].text.size):=by rw [hsn,joinW_app];simp [joinW]
   refine⟨i + 1,⟨hi,?_⟩,?_,?_⟩
   ·rw [hsn,List.all_append,h2];simpa [tokOk] using hok
   ·rw [he,hsn,List.map_append]
    exact ent_ren (fun _=>2) ⟨rfl,rfl,rfl,rfl,rfl,trivial⟩ ⟨rfl,trivial⟩ rfl rfl rfl rfl rfl rfl
   ·omega
 ·have hil:i=l.length:=by omega
  subst hil
  rw [List.take_length] at h2 hw
  rw [show joinW (l.take l.length)=joinW l by rw [List.take_length],show (l.take l.length)=l by rw [List.take_length]]
  repeat' (first|refine z0 ?_|apply ds_nil|apply dw_seq2|refine z16 ?_|apply dw_exit|apply thenD_n|apply thenD_e|refine z17 ?_|fail)
  refine dw_seal 4 rfl rfl ?_
  refine dw_condP rfl (fun hbig=>?_) (fun hbig=>?_)
  ·repeat' (first|refine z0 ?_|apply ds_nil|apply dw_seq2|refine z16 ?_|apply dw_ret|apply thenD_n|apply thenD_r)
   unfold joinS
   rw [if_pos h2,if_pos (by omega)]
   exact ret_2 rfl ⟨rfl,rfl⟩
  ·have hj:=join_fn (l.map (·.text)) ⟨#[32]⟩ (by rw [List.length_map];omega) (by have:=joinB_size l;omega)
   rw [show encStrs (l.map (·.text))=l.map (fun t=>[D.str t.text]) by unfold encStrs;rw [List.map_map];rfl] at hj
   repeat' (first|refine z0 ?_|apply ds_nil|apply dw_seq2|refine z16 ?_|apply dw_skip|apply dw_ret|apply thenD_n|refine z21 ?_ (hc:=by apply hj)|fail)
   unfold joinS
   rw [if_pos h2,if_neg (by omega)]
   exact ret_2 rfl ⟨rfl,rfl⟩


end Go.Proofs.YtapciiffpnociabGreatDoor
