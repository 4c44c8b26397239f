/- Several texts in one: TreX TreY TreZ TreLi. Condition: none. -/
import Derived.Test.YtapciiffpnociabGreatDoorS13
import Derived.Test.YtapciiffpnociabGreatDoorS10
import Derived.Test.YtapciiffpnociabGreatDoorS09
import Derived.Test.YtapciiffpnociabGreatDoorS11
namespace Go.Proofs.YtapciiffpnociabGreatDoor
open Go Go.RowKit
theorem FnOk.imp {dr:Bool} {P:Program} {τ:List (Nat × TI)} {τok:TabOk P τ} {f:FuncId} {args:List SV} {J k:Nat} {H:Hp} {R R':Nat→SV→Hp→Prop} (h:FnOk dr P τ τok f args J k H R) (hi:∀ k r H,R k r H→R' k r H):FnOk dr P τ τok f args J k H R':=by
 unfold FnOk at h ⊢
 refine⟨h.1,fun O e w vs hH hr=>(h.2 O e w vs hH hr).mono ?_⟩
 rintro en w' ⟨k',r,H',e',v,hR,h1⟩
 exact⟨k',r,H',e',v,hi _ _ _ hR,h1⟩
def rdIs {α:Type} (p:PR α) (x:α) (k:Nat):Bool→Prop
 | false=>p = .ok (x,k)
 | true=>p = .error k
def rdOut {α:Type} (p:PR α) (l:List Tok) (e:Int) (enc:α→SV) (r:SV) (H:Hp):Prop:=∃ x k fl,r=enc x∧H=rdH l k e fl∧rdIs p x k fl
theorem rdRes_out {α:Type} [Nonempty α] {p:PR α} {l:List Tok} {e:Int} {enc:α→SV} {junk:SV→Prop} {r:SV} {H:Hp} (hj:∀ r,junk r→∃ x,r=enc x) (h:rdRes p l e enc junk r H):rdOut p l e enc r H:=by
 unfold rdRes at h
 split at h
 ·exact⟨_,_,false,h.1,h.2,rfl⟩
 ·obtain⟨x,hx⟩:=hj r h.1
  exact⟨x,_,true,hx,h.2,rfl⟩
abbrev RdC (f:FuncId) (args:List SV) (l:List Tok) (i:Nat) (e:Int) (fl:Bool) {α:Type} (p:PR α) (enc:α→SV):Prop:=FnOk false Tryz.prog tab tab_ok f args 1 1 (rdH l i e fl) (fun k r H=>k=1∧rdOut p l e enc r H)
theorem rname_out (l:List Tok) (i:Nat) (e:Int) (f:Bool) (hi:i≤1000000):RdC 34 [.loc 0 0] l i e f (rdP f i (nameT l i)) (fun s=>.d (.str s)) :=
 have:Nonempty ByteArray:=⟨⟨#[]⟩⟩
 (rname_fn l i e f hi).imp fun _ _ _ h=>⟨h.1,rdRes_out (fun _ h=>h) h.2⟩
theorem rterm_out (l:List Tok) (i:Nat) (e:Int) (f:Bool) (hi:i≤1000000) (hok:l.all tokOk=true):RdC 60 [.loc 0 0] l i e f (rdP f i (termT l i)) tmV :=
 have:Nonempty TTm:=⟨⟨⟨#[]⟩,0⟩⟩
 (rterm_fn l i e f hi hok).imp fun _ _ _ h=>⟨h.1,rdRes_out (fun _ h=>h) h.2⟩
theorem text_is {l:List Tok} {i:Nat} {f:Bool} {s:ByteArray} (hs:s≠⟨#[]⟩):textT l i f=s↔f=false∧seesT l i s=true:=by
 cases f with
 | true=>rw [textT_failed];exact⟨fun h=>absurd h.symm hs,fun h=>Bool.noConfusion h.1⟩
 | false=>rw [← textT_sees hs,decide_eq_true_iff];exact⟨fun h=>⟨rfl,h⟩,fun h=>h.2⟩
theorem termT_err {l:List Tok} {i k:Nat} (hi:i≤l.length) (h:termT l i = .error k):k≤l.length:=by
 unfold termT at h
 generalize hb:seesT l i ⟨#[45]⟩=b at h
 have key:∀ q:Nat,(match l[q]? with
  | none=>(.error q:PR TTm)
  | some t=>if t.kind=2∧b=false then .ok ((⟨t.text,0⟩:TTm),q + 1)
   else if t.kind≠3∨(b=true∧t.text=(⟨#[48]⟩:ByteArray)) then .error q
   else .ok ((⟨(⟨#[]⟩:ByteArray),(match b with|true=>-1|false=>1) * numT t.text⟩:TTm),q + 1)) = .error k→k=q:=by
  intro q hq
  cases hl:l[q]? with
  | none=>rw [hl] at hq;injection hq with hq;exact hq.symm
  | some t =>
   rw [hl] at hq
   dsimp only at hq
   split at hq
   ·cases hq
   ·split at hq
    ·injection hq with hq;exact hq.symm
    ·cases hq
 cases b with
 | true=>have:=key (i + 1) h;have:=seesT_lt hb;omega
 | false=>have:=key i h;omega
theorem nameT_err {l:List Tok} {i k:Nat} (hi:i≤l.length) (h:nameT l i = .error k):k≤l.length:=by
 unfold nameT at h
 split at h
 ·split at h
  ·cases h
  ·injection h with h;omega
 ·injection h with h;omega
theorem termsGo_err {l:List Tok} {head:Bool} {k:Nat}:∀ (n i:Nat) (acc:List TTm),i≤l.length→termsGo l head n i acc = .error k→k≤l.length
 | 0,i,acc,hi,h=>by unfold termsGo at h;injection h with h;omega
 | n + 1,i,acc,hi,h=>by
  rw [termsGo_succ] at h
  have hj:(if foldT l head i 0≠0 then i + 1 else i)≤l.length:=by
   split
   ·rename_i hf;exact foldT_sees hf
   ·exact hi
  cases ht:termT l (if foldT l head i 0≠0 then i + 1 else i) with
  | error q=>rw [ht] at h;injection h with h;subst h;exact termT_err hj ht
  | ok x =>
   obtain⟨t,q⟩:=x
   rw [ht] at h
   dsimp only at h
   have hq:=(termT_lt ht).2
   split at h
   ·split at h
    ·cases h
    ·injection h with h;omega
   ·rename_i hn
    have:seesT l q ⟨#[44]⟩=true:=Bool.not_eq_false _▸fun hf=>hn (.inr hf)
    exact termsGo_err n (q + 1) _ (seesT_lt this) h
theorem termsT_err {l:List Tok} {head:Bool} {i k:Nat} (hi:i≤l.length) (h:termsT l i head = .error k):k≤l.length:=by
 unfold termsT at h
 split at h
 ·rename_i h1
  split at h
  ·cases h
  ·exact termsGo_err _ _ _ (seesT_lt h1) h
 ·injection h with h;omega
theorem termsGo_none {l:List Tok} {head:Bool} (i:Nat):termsT l i head=if seesT l i ⟨#[40]⟩ then
  (if seesT l (i + 1) ⟨#[41]⟩ then .ok (([],0),i + 2) else termsGo l head (l.length + 1) (i + 1) [])
 else .error i:=rfl
def wordsR:List ByteArray:=⟨#[]⟩::foldsT
def opsR:List ByteArray:=⟨#[]⟩::opsT
def foldG (ws:List ByteArray) (s:ByteArray):Nat→Int
 | 0=>0
 | k + 1=>if k≠0∧s=ws.getD k ⟨#[]⟩ then (k:Int) else foldG ws s k
abbrev foldS (s:ByteArray) (k:Nat):Int:=foldG wordsR s k
theorem foldG_succ {ws:List ByteArray} {s:ByteArray} {k:Nat} (h0:1≤k) (h:k < ws.length):foldG ws s (k + 1)=if s=ws[k] then (k:Int) else foldG ws s k:=by
 show (if k≠0∧s=ws.getD k ⟨#[]⟩ then (k:Int) else foldG ws s k)=_
 rw [List.getD_eq_getElem?_getD,List.getElem?_eq_getElem h]
 by_cases hs:s=ws[k]
 ·rw [if_pos ⟨by omega,hs⟩,if_pos hs]
 ·rw [if_neg (fun h=>hs h.2),if_neg hs]
theorem foldS_succ {s:ByteArray} {k:Nat} (h0:1≤k) (h:k < wordsR.length):foldS s (k + 1)=if s=wordsR[k] then (k:Int) else foldS s k:=foldG_succ h0 h
theorem foldS_is (l:List Tok) (j:Nat):foldT l true j 0=foldS (textT l j false) 5:=by
 have e:∀ s:ByteArray,s≠⟨#[]⟩→seesT l j s=decide (textT l j false=s):=fun s hs=>(textT_sees hs).symm
 show firstT l j [⟨#[99,111,117,110,116]⟩,⟨#[115,117,109]⟩,⟨#[108,101,97,115,116]⟩,⟨#[109,111,115,116]⟩] (0 + 1)=_
 simp only [firstT]
 rw [e _ (by decide),e _ (by decide),e _ (by decide),e _ (by decide)]
 generalize textT l j false=s
 have f5:foldS s 5=if s=⟨#[109,111,115,116]⟩ then 4 else if s=⟨#[108,101,97,115,116]⟩ then 3 else if s=⟨#[115,117,109]⟩ then 2 else if s=⟨#[99,111,117,110,116]⟩ then 1 else 0:=by
  rw [foldS_succ (by decide) (by decide),foldS_succ (by decide) (by decide),foldS_succ (by decide) (by decide),foldS_succ (by decide) (by decide)]
  rfl
 rw [f5]
 simp only [decide_eq_true_eq]
 by_cases h1:s=⟨#[99,111,117,110,116]⟩
 ·subst h1;decide
 by_cases h2:s=⟨#[115,117,109]⟩
 ·subst h2;decide
 by_cases h3:s=⟨#[108,101,97,115,116]⟩
 ·subst h3;decide
 by_cases h4:s=⟨#[109,111,115,116]⟩
 ·subst h4;decide
 simp only [h1,h2,h3,h4,if_false]
theorem foldG_low (ws:List ByteArray) (s:ByteArray):∀ k,0≤foldG ws s k∧foldG ws s k≤k
 | 0=>⟨Int.le_refl _,Int.le_refl _⟩
 | k + 1=>by
  have:=foldG_low ws s k
  unfold foldG
  split <;> omega
theorem foldS_low (s:ByteArray) (k:Nat):0≤foldS s k∧foldS s k≤k:=foldG_low _ _ _
theorem foldO_is (l:List Tok) (j:Nat):firstQ l opsT j 0=foldG opsR (textT l j false) 8:=by
 have e:∀ s:ByteArray,s≠⟨#[]⟩→seesT l j s=decide (textT l j false=s):=fun s hs=>(textT_sees hs).symm
 show firstT l j [⟨#[60]⟩,⟨#[60,61]⟩,⟨#[61]⟩,⟨#[33,61]⟩,⟨#[43]⟩,⟨#[45]⟩,⟨#[42]⟩] (0 + 1)=_
 simp only [firstT]
 rw [e _ (by decide),e _ (by decide),e _ (by decide),e _ (by decide),e _ (by decide),e _ (by decide),e _ (by decide)]
 generalize textT l j false=s
 have f8:foldG opsR s 8=if s=⟨#[42]⟩ then 7 else if s=⟨#[45]⟩ then 6 else if s=⟨#[43]⟩ then 5 else if s=⟨#[33,61]⟩ then 4 else if s=⟨#[61]⟩ then 3 else if s=⟨#[60,61]⟩ then 2 else if s=⟨#[60]⟩ then 1 else 0:=by
  rw [foldG_succ (by decide) (by decide),foldG_succ (by decide) (by decide),foldG_succ (by decide) (by decide),foldG_succ (by decide) (by decide),foldG_succ (by decide) (by decide),foldG_succ (by decide) (by decide),foldG_succ (by decide) (by decide)]
  rfl
 rw [f8]
 simp only [decide_eq_true_eq]
 by_cases h1:s=⟨#[60]⟩
 ·subst h1;decide
 by_cases h2:s=⟨#[60,61]⟩
 ·subst h2;decide
 by_cases h3:s=⟨#[61]⟩
 ·subst h3;decide
 by_cases h4:s=⟨#[33,61]⟩
 ·subst h4;decide
 by_cases h5:s=⟨#[43]⟩
 ·subst h5;decide
 by_cases h6:s=⟨#[45]⟩
 ·subst h6;decide
 by_cases h7:s=⟨#[42]⟩
 ·subst h7;decide
 simp only [h1,h2,h3,h4,h5,h6,h7,if_false]
theorem foldO_none:foldG opsR ⟨#[]⟩ 8=0:=by kernel_rfl
theorem foldO_text {s:ByteArray} (h:foldG opsR s 8≠0):∃ (q:Nat) (hq:q < opsR.length),foldG opsR s 8=q∧s=opsR[q]:=by
 have key:∀ k,k≤opsR.length→foldG opsR s k≠0→∃ (q:Nat) (hq:q < opsR.length),foldG opsR s k=q∧s=opsR[q]:=by
  intro k
  induction k with
  | zero=>intro _ h;exact absurd rfl h
  | succ k ih =>
   intro hk hne
   by_cases h0:k=0
   ·subst h0;exact absurd (by unfold foldG;rfl) hne
   ·rw [foldG_succ (by omega) (by omega)] at hne ⊢
    by_cases hs:s=opsR[k]
    ·rw [if_pos hs];exact⟨k,by omega,rfl,hs⟩
    ·rw [if_neg hs] at hne ⊢;exact ih (by omega) hne
 exact key 8 (by decide) h
attribute [local irreducible] DW DS DL DQ Ev FnOk FnP FnOkE thenD inBlockD
set_option maxHeartbeats 8000000 in
theorem rneed_t (l:List Tok) (i:Nat) (e:Int) (s:ByteArray):FnOk false Tryz.prog tab tab_ok 37 [.loc 0 0,.d (.str s)] 1 1 (rdH l i e true) (fun k r H=>k=1∧r = .tup []∧H=rdH l i e true):=by
 refine fn_enterR _ Tryz.func37 rfl rfl (by kernel_rfl) ?_
 intro O w0 E0 β0
 repeat' (first|refine z0 ?_|apply ds_nil|apply dw_seq2|refine z16 ?_|apply dw_ret|refine z18 ?_|apply thenD_n|apply thenD_r)
 exact⟨.inl rfl,_,rfl,id,1,_,rdH l i e true,rfl,⟨rfl,trivial⟩,rfl,rfl,rfl,rfl,rfl,rfl,rfl,rfl,rfl⟩
theorem rneed_s (l:List Tok) (i:Nat) (e:Int) (s:ByteArray) (hi:i≤1000000) (h:textT l i false=s):FnOk false Tryz.prog tab tab_ok 37 [.loc 0 0,.d (.str s)] 1 1 (rdH l i e false) (fun k r H=>k=1∧r = .tup []∧H=rdH l (i + 1:Nat) e false):=by
 have w:=rneed_fn l i e false s hi
 rw [decide_eq_true h] at w
 exact w
theorem rneed_c (l:List Tok) (i:Nat) (e:Int) (f:Bool) (s:ByteArray) (hs:s≠⟨#[]⟩) (hi:i≤1000000):∃ j g,FnOk false Tryz.prog tab tab_ok 37 [.loc 0 0,.d (.str s)] 1 1 (rdH l i e f) (fun k r H=>k=1∧r = .tup []∧H=rdH l j e g) ∧
  ((f=false∧g=false∧j=i + 1∧seesT l i s=true)∨(g=true∧j=i∧(f=false→seesT l i s=false))):=by
 have w:=rneed_fn l i e f s hi
 cases f with
 | true=>exact⟨i,true,w,.inr ⟨rfl,rfl,fun h=>Bool.noConfusion h⟩⟩
 | false =>
  rw [textT_sees hs] at w
  cases h:seesT l i s with
  | true=>rw [h] at w;exact⟨i + 1,false,w,.inl ⟨rfl,rfl,rfl,rfl⟩⟩
  | false=>rw [h] at w;exact⟨i,true,w,.inr ⟨rfl,rfl,fun _=>rfl⟩⟩
abbrev rdB (l:List Tok) (i:Nat) (e:Int) (f:Bool):HB:=.blk 76 [.d (.slice 3 (l.map encTok)),.d (.int .i64 i),.d (.int .i64 e),.d (.bool f)]
def tlInv (l:List Tok) (p:PR (List TTm × Int)) (head:Bool) (j:Nat) (acc:List TTm) (F:Int) (more fl:Bool) (n:Nat):Prop:=j≤l.length∧match fl,more with
 | true,_=>p = .error j
 | false,true=>F=0∧p=termsGo l head n j acc∧l.length < n + j∧acc.length≤j
 | false,false=>p=if seesT l j ⟨#[41]⟩ then .ok ((acc,F),j + 1) else .error j
def tlM:Bool→Bool→Nat→Nat
 | false,true,n=>n + 1
 | _,_,_=>0
set_option maxHeartbeats 8000000 in
theorem rterms_out (l:List Tok) (i:Nat) (e:Int) (f head:Bool) (hi:i≤l.length) (hl:l.length≤900000) (hok:l.all tokOk=true):RdC 35 [.loc 0 0,.d (.bool head)] l i e f (rdP f i (termsT l i head)) (fun x=>.tup [.d (.slice 2 (x.1.map encTTm)),.d (.int .i64 x.2)]):=by
 refine fn_enterR _ Tryz.func35 rfl rfl (by kernel_rfl) ?_
 intro O w0 E0 β0
 have ll:(l.map encTok).length=l.length:=List.length_map _
 obtain⟨j0,f0,w1,h0⟩:=rneed_c l i e f ⟨#[40]⟩ (by decide) (by omega)
 have hj0:j0≤l.length:=by
  rcases h0 with ⟨_,_,rfl,h⟩|⟨_,rfl,_⟩
  ·exact seesT_lt h
  ·exact hi
 have w2:=rtext_fn l j0 e f0
 repeat' (first|refine z0 ?_|apply ds_nil|apply dw_seq2|refine z16 ?_|apply thenD_n)
 (refine ds_callF id (w1) rfl rfl rfl rfl ⟨rfl,trivial⟩ rfl rfl rfl rfl rfl rfl ?_ ?_)
 ·rintro k2 res H2 ⟨rfl,rfl,rfl⟩;exact⟨rfl,rfl⟩
 rintro k2 res H2 ⟨rfl,rfl,rfl⟩
 change DS _ _ _ _ _ _ _ _
 clear w1
 repeat' (first|refine z0 ?_|apply ds_nil|apply dw_seq2|refine z16 ?_|apply thenD_n)
 (refine ds_callF id (w2) rfl rfl rfl rfl ⟨rfl,trivial⟩ rfl rfl rfl rfl rfl rfl ?_ ?_)
 ·rintro k2 res H2 ⟨rfl,rfl,rfl⟩;exact⟨rfl,rfl⟩
 rintro k2 res H2 ⟨rfl,rfl,rfl⟩
 change DS _ _ _ _ _ _ _ _
 clear w2
 by_cases hc:textT l j0 f0=⟨#[41]⟩
 ·obtain⟨rfl,hs1⟩:=(text_is (by decide)).1 hc
  rcases h0 with ⟨rfl,_,rfl,hs⟩|⟨h,_⟩
  ·have w3:=rneed_s l (i + 1) e ⟨#[41]⟩ (by omega) hc
   have ht:termsT l i head = .ok (([],0),i + 2):=by rw [termsGo_none,hs,hs1];rfl
   have:=seesT_lt hs1
   rw [hc]
   repeat' (first|refine z0 ?_|apply ds_nil|apply dw_seq2|refine z16 ?_|refine z18 ?_|apply thenD_n)
   (refine ds_callF id (w3) rfl rfl rfl rfl ⟨rfl,trivial⟩ rfl rfl rfl rfl rfl rfl ?_ ?_)
   ·rintro k2 res H2 ⟨rfl,rfl,rfl⟩;exact⟨rfl,rfl⟩
   rintro k2 res H2 ⟨rfl,rfl,rfl⟩
   change DS _ _ _ _ _ _ _ _
   clear w3
   repeat' (first|refine z0 ?_|apply ds_nil|apply dw_seq2|refine z16 ?_|apply thenD_n)
   refine dw_ent (ent_nild 4 2 rfl) ?_
   repeat' (first|apply dw_ret|apply thenD_r)
   exact⟨.inl rfl,_,rfl,id,1,_,rdH l (i + 1 + 1:Nat) e false,rfl,⟨rfl,trivial⟩,rfl,rfl,rfl,rfl,rfl,rfl,rfl,([],0),_,false,rfl,rfl,ht⟩
  ·cases h
 obtain⟨p,hp⟩:∃ p,p=rdP f i (termsT l i head):=⟨_,rfl⟩
 rw [← hp]
 have hn:f0=false→seesT l j0 ⟨#[41]⟩=false:=fun h=>Bool.eq_false_iff.2 fun h2=>hc ((text_is (by decide)).2 ⟨h,h2⟩)
 generalize textT l j0 f0=t0 at hc
 repeat' (first|refine z0 ?_|apply ds_nil|apply dw_seq2|refine z16 ?_|apply dw_block|apply dw_skip|apply thenD_n|(refine z23 ?_ ?_ <;> intro hg)|fail)
 all_goals try (exfalso;exact absurd (by assumption) hc)
 refine dw_ent (ent_nilrow (t:=6) 49 2 rfl) ?_
 refine ds_loop (ι:=Nat × List TTm × Int × Bool × Bool × Nat) (fun x=>⟨2,[(0,.loc 0 0),(1,.d (.bool head)),(6,.row 1),(7,.d (.int .i64 x.2.2.1)),(8,.d (.bool x.2.2.2.1))],[(0,rdB l x.1 e x.2.2.2.2.1),(1,.row 49 2 (x.2.1.map encTTm))]⟩)
  (fun x=>tlInv l p head x.1 x.2.1 x.2.2.1 x.2.2.2.1 x.2.2.2.2.1 x.2.2.2.2.2) (fun x=>tlM x.2.2.2.2.1 x.2.2.2.1 x.2.2.2.2.2) (j0,[],0,true,f0,l.length + 1) ?_ (ent_ren (fun x=>match x with|0=>0|_=>_) ⟨rfl,rfl,rfl,rfl,rfl,trivial⟩ ⟨rfl,rfl,trivial⟩ rfl rfl rfl rfl rfl rfl) ?_
 ·refine⟨hj0,?_⟩
  rcases h0 with ⟨rfl,rfl,rfl,hs⟩|⟨rfl,rfl,h⟩
  ·refine⟨rfl,?_,by show l.length < l.length + 1 + (i + 1);omega,Nat.zero_le _⟩
   rw [hp];unfold rdP;dsimp only
   rw [termsGo_none,hs,hn rfl];rfl
  ·show p = .error j0
   rw [hp]
   cases f with
   | true=>rfl
   | false=>unfold rdP;dsimp only;rw [termsGo_none,h rfl];rfl
 clear h0 hn hp hj0 hc
 rintro⟨j,acc,F,more,fl,n⟩ ⟨hj,hinv⟩
 dsimp only at hj hinv ⊢
 cases fl with
 | true =>
  have hinv:p = .error j:=hinv
  have w3:=rneed_t l j e ⟨#[41]⟩
  cases more with
  | true =>
   repeat' (first|refine z0 ?_|apply ds_nil|apply dw_seq2|refine z16 ?_|apply dw_exit|refine z19 ?_|apply thenD_n|apply thenD_e|refine z17 ?_|fail)
   (refine ds_callF id (w3) rfl rfl rfl rfl ⟨rfl,trivial⟩ rfl rfl rfl rfl rfl rfl ?_ ?_)
   ·rintro k2 res H2 ⟨rfl,rfl,rfl⟩;exact⟨rfl,rfl⟩
   rintro k2 res H2 ⟨rfl,rfl,rfl⟩
   change DS _ _ _ _ _ _ _ _
   clear w3
   repeat' (first|refine z0 ?_|apply ds_nil|apply dw_seq2|refine z16 ?_|apply thenD_n)
   refine dw_ent (ent_seal 4 rfl rfl rfl) ?_
   repeat' (apply dw_ret)
   exact⟨.inl rfl,_,rfl,id,1,_,rdH l j e true,rfl,⟨rfl,trivial⟩,rfl,rfl,rfl,rfl,rfl,rfl,rfl,(acc,F),_,true,rfl,rfl,hinv⟩
  | false =>
   repeat' (first|refine z0 ?_|refine z12 ?_|apply ds_nil|apply dw_seq2|refine z16 ?_|apply dw_exit|refine z19 ?_|apply thenD_n|apply thenD_e|refine z17 ?_|fail)
   (refine ds_callF id (w3) rfl rfl rfl rfl ⟨rfl,trivial⟩ rfl rfl rfl rfl rfl rfl ?_ ?_)
   ·rintro k2 res H2 ⟨rfl,rfl,rfl⟩;exact⟨rfl,rfl⟩
   rintro k2 res H2 ⟨rfl,rfl,rfl⟩
   change DS _ _ _ _ _ _ _ _
   clear w3
   repeat' (first|refine z0 ?_|apply ds_nil|apply dw_seq2|refine z16 ?_|apply thenD_n)
   refine dw_ent (ent_seal 4 rfl rfl rfl) ?_
   repeat' (apply dw_ret)
   exact⟨.inl rfl,_,rfl,id,1,_,rdH l j e true,rfl,⟨rfl,trivial⟩,rfl,rfl,rfl,rfl,rfl,rfl,rfl,(acc,F),_,true,rfl,rfl,hinv⟩
 | false=>cases more with
  | false =>
   have hinv:p=if seesT l j ⟨#[41]⟩ then .ok ((acc,F),j + 1) else .error j:=hinv
   obtain⟨j2,g,w3,h3⟩:=rneed_c l j e false ⟨#[41]⟩ (by decide) (by omega)
   have hr:rdIs p (acc,F) j2 g:=by
    rcases h3 with ⟨_,rfl,rfl,h⟩|⟨rfl,rfl,h⟩
    ·show p=_;rw [hinv,h];rfl
    ·show p=_;rw [hinv,h rfl];rfl
   clear h3 hinv
   repeat' (first|refine z0 ?_|refine z12 ?_|apply ds_nil|apply dw_seq2|refine z16 ?_|apply dw_exit|refine z19 ?_|apply thenD_n|apply thenD_e|refine z17 ?_|fail)
   (refine ds_callF id (w3) rfl rfl rfl rfl ⟨rfl,trivial⟩ rfl rfl rfl rfl rfl rfl ?_ ?_)
   ·rintro k2 res H2 ⟨rfl,rfl,rfl⟩;exact⟨rfl,rfl⟩
   rintro k2 res H2 ⟨rfl,rfl,rfl⟩
   change DS _ _ _ _ _ _ _ _
   clear w3
   repeat' (first|refine z0 ?_|apply ds_nil|apply dw_seq2|refine z16 ?_|apply thenD_n)
   refine dw_ent (ent_seal 4 rfl rfl rfl) ?_
   repeat' (apply dw_ret)
   exact⟨.inl rfl,_,rfl,id,1,_,rdH l j2 e g,rfl,⟨rfl,trivial⟩,rfl,rfl,rfl,rfl,rfl,rfl,rfl,(acc,F),j2,g,rfl,rfl,hr⟩
  | true =>
   obtain⟨rfl,hgo,hn,ha⟩:F=0∧p=termsGo l head n j acc∧l.length < n + j∧acc.length≤j:=hinv
   obtain⟨m,rfl⟩:∃ m,n=m + 1:=⟨n - 1,by omega⟩
   rw [termsGo_succ] at hgo
   obtain⟨F,hF⟩:∃ F:Int,F=foldT l head j 0:=⟨_,rfl⟩
   rw [← hF] at hgo
   have w1:=rtext_fn l j e false
   repeat' (first|refine z0 ?_|apply ds_nil|apply dw_seq2|refine z16 ?_|apply dw_block|apply dw_skip|refine z18 ?_|apply thenD_n)
   (refine ds_callF id (w1) rfl rfl rfl rfl ⟨rfl,trivial⟩ rfl rfl rfl rfl rfl rfl ?_ ?_)
   ·rintro k2 res H2 ⟨rfl,rfl,rfl⟩;exact⟨rfl,rfl⟩
   rintro k2 res H2 ⟨rfl,rfl,rfl⟩
   change DS _ _ _ _ _ _ _ _
   clear w1
   obtain⟨s,hs⟩:∃ s,s=textT l j false:=⟨_,rfl⟩
   rw [← hs]
   repeat' ((fail_if_success (apply dw_stopR 10));(first|refine z0 ?_|apply ds_nil|apply thenD_n))
   refine dw_cut (ι:=Unit) (fun _=>⟨2,[(0,.loc 0 0),(1,.d (.bool head)),(6,.row 1),(7,.d (.int .i64 F)),(9,.d (.str s))],[(0,rdB l j e false),(1,.row 49 2 (acc.map encTTm))]⟩) (fun _=>True) ?_ ?_
   ·cases head with
    | false =>
     have hF:F=0:=hF
     subst hF
     repeat' (first|refine z0 ?_|apply ds_nil|apply dw_seq2|refine z16 ?_|apply dw_skip|refine z19 ?_|apply thenD_n)
     exact⟨(),trivial,ent_ren id ⟨rfl,rfl,rfl,rfl,rfl,trivial⟩ ⟨rfl,rfl,trivial⟩ rfl rfl rfl rfl rfl rfl⟩
    | true =>
     have lw:(wordsR.map encT).length=5:=rfl
     have hF5:foldS s 5=F:=by rw [hs,hF];exact (foldS_is l j).symm
     clear hF hgo
     repeat' (first|refine z0 ?_|apply ds_nil|apply dw_seq2|refine z16 ?_|apply dw_block|refine z18 ?_|apply thenD_n|refine z4 ?_|fail)
     refine ds_loop (ι:=Nat) (fun q=>⟨2,[(0,.loc 0 0),(1,.d (.bool true)),(6,.row 1),(7,.d (.int .i64 (foldS s q))),(9,.d (.str s)),(10,.d (.slice 1 (wordsR.map encT))),(11,.d (.int .i64 q))],[(0,rdB l j e false),(1,.row 49 2 (acc.map encTTm))]⟩)
      (fun q=>1≤q∧q≤5) (fun q=>5 - q) 1 ⟨by omega,by omega⟩ (ent_ren id ⟨rfl,rfl,rfl,rfl,rfl,rfl,rfl,trivial⟩ ⟨rfl,rfl,trivial⟩ rfl rfl rfl rfl rfl rfl) ?_
     rintro q ⟨h1,hq⟩
     dsimp only at h1 hq ⊢
     by_cases hq5:q < 5
     ·have hql:q < wordsR.length:=hq5
      have hstep:=foldS_succ (s:=s) h1 hql
      by_cases hsq:s=wordsR[q]
      ·rw [if_pos hsq] at hstep
       repeat' (first|refine z0 ?_|apply ds_nil|apply dw_seq2|refine z16 ?_|apply dw_block|apply dw_skip|apply dw_exit|apply thenD_n|apply thenD_e|apply inB_n|refine z17 ?_|(refine z23 ?_ ?_ <;> intro hg)|fail)
       all_goals try (exfalso;first|omega|exact absurd hsq (by assumption))
       exact⟨q + 1,⟨by omega,by omega⟩,ent_ren id ⟨rfl,rfl,rfl,congrArg (fun z=>SV.d (D.int .i64 z)) hstep.symm,rfl,rfl,rfl,trivial⟩ ⟨rfl,rfl,trivial⟩ rfl rfl rfl rfl rfl rfl,by show 5 - (q + 1) < 5 - q;omega⟩
      ·rw [if_neg hsq] at hstep
       repeat' (first|refine z0 ?_|apply ds_nil|apply dw_seq2|refine z16 ?_|apply dw_block|apply dw_skip|apply dw_exit|apply thenD_n|apply thenD_e|apply inB_n|refine z17 ?_|(refine z23 ?_ ?_ <;> intro hg)|fail)
       all_goals try (exfalso;first|omega|exact absurd (by assumption) hsq)
       exact⟨q + 1,⟨by omega,by omega⟩,ent_ren id ⟨rfl,rfl,rfl,congrArg (fun z=>SV.d (D.int .i64 z)) hstep.symm,rfl,rfl,rfl,trivial⟩ ⟨rfl,rfl,trivial⟩ rfl rfl rfl rfl rfl rfl,by show 5 - (q + 1) < 5 - q;omega⟩
     ·have:q=5:=by omega
      subst this
      rw [hF5]
      repeat' (first|refine z0 ?_|apply ds_nil|apply dw_seq2|refine z16 ?_|apply dw_exit|refine z19 ?_|apply thenD_n|apply thenD_e|refine z17 ?_|fail)
      all_goals try (exfalso;omega)
      exact⟨(),trivial,ent_ren id ⟨rfl,rfl,rfl,rfl,rfl,trivial⟩ ⟨rfl,rfl,trivial⟩ rfl rfl rfl rfl rfl rfl⟩
   ·intro _ _
    have hF0:0≤F:=by
     rw [hF]
     cases head with
     | false=>exact Int.le_refl _
     | true=>rw [foldS_is];exact (foldS_low _ _).1
    obtain⟨jf,hjf⟩:∃ jf:Nat,jf=if F≠0 then j + 1 else j:=⟨_,rfl⟩
    rw [← hjf] at hgo
    have hjl:jf≤l.length:=by
     rw [hjf]
     split
     ·rename_i h;rw [hF] at h;exact foldT_sees h
     ·exact hj
    refine dw_cut (ι:=Unit) (fun _=>⟨2,[(0,.loc 0 0),(1,.d (.bool head)),(6,.row 1),(7,.d (.int .i64 F))],[(0,rdB l jf e false),(1,.row 49 2 (acc.map encTTm))]⟩) (fun _=>True) ?_ ?_
    ·by_cases hz:F=0
     ·rw [if_neg (fun h=>h hz)] at hjf
      subst hjf
      clear hF hgo
      subst hz
      repeat' (first|refine z0 ?_|apply ds_nil|apply dw_seq2|refine z16 ?_|apply dw_skip|refine z19 ?_|apply thenD_n)
      all_goals try (exfalso;omega)
      exact⟨(),trivial,ent_ren id ⟨rfl,rfl,rfl,rfl,trivial⟩ ⟨rfl,rfl,trivial⟩ rfl rfl rfl rfl rfl rfl⟩
     ·rw [if_pos hz] at hjf
      subst hjf
      have w3:=rneed_s l j e s (by omega) hs.symm
      clear hF hgo hs
      repeat' (first|refine z0 ?_|apply ds_nil|apply dw_seq2|refine z16 ?_|apply dw_skip|apply thenD_n|(refine z23 ?_ ?_ <;> intro hg)|fail)
      all_goals try (exfalso;omega)
      (refine ds_callF id (w3) rfl rfl rfl rfl ⟨rfl,trivial⟩ rfl rfl rfl rfl rfl rfl ?_ ?_)
      ·rintro k2 res H2 ⟨rfl,rfl,rfl⟩;exact⟨rfl,rfl⟩
      rintro k2 res H2 ⟨rfl,rfl,rfl⟩
      change DS _ _ _ _ _ _ _ _
      clear w3
      repeat' (first|apply ds_nil|apply thenD_n)
      exact⟨(),trivial,ent_ren id ⟨rfl,rfl,rfl,rfl,trivial⟩ ⟨rfl,rfl,trivial⟩ rfl rfl rfl rfl rfl rfl⟩
    ·intro _ _
     clear hs hF
     have hjj:j≤jf:=by rw [hjf];split <;> omega
     have w4:=rterm_out l jf e false (by omega) hok
     repeat' (first|refine z0 ?_|apply dw_seq2|refine z16 ?_|fail)
     (refine ds_callF id (w4) rfl rfl rfl rfl ⟨rfl,trivial⟩ rfl rfl rfl rfl rfl rfl ?_ ?_)
     ·rintro k2 res H2 ⟨rfl,t,k,fl,rfl,rfl,_⟩;exact⟨rfl,rfl⟩
     rintro k2 res H2 ⟨rfl,t,k,fl,rfl,rfl,hk⟩
     change DS _ _ _ _ _ _ _ _
     clear w4 hjf
     have hk2:k≤l.length:=by
      cases fl with
      | false=>exact (termT_lt hk).2
      | true=>exact termT_err hjl hk
     have hk1:fl=false→jf < k:=fun h=>by subst h;exact (termT_lt hk).1
     have lac:(acc.map encTTm).length=acc.length:=List.length_map _
     have hap:(acc++[t]).map encTTm=acc.map encTTm++[encTTm t]:=List.map_append
     have w5:=rtext_fn l k e fl
     have hend:(F≠0∨textT l k fl≠⟨#[44]⟩)→tlInv l p head k (acc++[t]) F false fl m:=fun h=>by
      refine⟨hk2,?_⟩
      cases fl with
      | true =>
       have hk:termT l jf = .error k:=hk
       rw [hk] at hgo
       exact hgo
      | false =>
       have hk:termT l jf = .ok (t,k):=hk
       rw [hk] at hgo
       dsimp only at hgo
       rw [if_pos (h.imp id fun h=>Bool.eq_false_iff.2 fun h2=>h ((text_is (by decide)).2 ⟨rfl,h2⟩))] at hgo
       exact hgo
     by_cases hz:F=0
     ·subst hz
      repeat' (first|refine z0 ?_|apply ds_nil|apply dw_seq2|refine z16 ?_|apply thenD_n|refine z4 ?_|refine z2 ?_|fail)
      all_goals try (exfalso;omega)
      (refine ds_callF id (w5) rfl rfl rfl rfl ⟨rfl,trivial⟩ rfl rfl rfl rfl rfl rfl ?_ ?_)
      ·rintro k2 res H2 ⟨rfl,rfl,rfl⟩;exact⟨rfl,rfl⟩
      rintro k2 res H2 ⟨rfl,rfl,rfl⟩
      change DS _ _ _ _ _ _ _ _
      clear w5
      by_cases hsk:textT l k fl=⟨#[44]⟩
      ·clear hend
       obtain⟨rfl,hsk'⟩:=(text_is (by decide)).1 hsk
       have hk:termT l jf = .ok (t,k):=hk
       rw [hk] at hgo
       dsimp only at hgo
       rw [if_neg (by rintro (h|h);exact h rfl;rw [hsk'] at h;cases h)] at hgo
       have:=seesT_lt hsk'
       have:=hk1 rfl
       have w6:=rneed_s l k e ⟨#[44]⟩ (by omega) hsk
       rw [hsk]
       clear hk
       repeat' (first|refine z0 ?_|apply ds_nil|apply dw_seq2|refine z16 ?_|refine z18 ?_|apply thenD_n)
       all_goals try (exfalso;omega)
       (refine ds_callF id (w6) rfl rfl rfl rfl ⟨rfl,trivial⟩ rfl rfl rfl rfl rfl rfl ?_ ?_)
       ·rintro k2 res H2 ⟨rfl,rfl,rfl⟩;exact⟨rfl,rfl⟩
       rintro k2 res H2 ⟨rfl,rfl,rfl⟩
       change DS _ _ _ _ _ _ _ _
       clear w6
       repeat' (first|apply ds_nil|apply thenD_n|apply inB_n)
       exact⟨(k + 1,acc++[t],0,true,false,m),⟨by show k + 1≤l.length;omega,rfl,hgo,by show l.length < m + (k + 1);omega,by show (acc++[t]).length≤k + 1;rw [List.length_append];simp;omega⟩,ent_ren (fun x=>match x with|0=>0|_=>_) ⟨rfl,rfl,rfl,rfl,rfl,trivial⟩ ⟨rfl,by dsimp only;rw [hap];rfl,trivial⟩ rfl rfl rfl rfl rfl rfl,Nat.lt_succ_self _⟩
      ·have hinv:=hend (.inr hsk)
       clear hend hgo hk
       generalize textT l k fl=t1 at hsk
       repeat' (first|refine z0 ?_|apply ds_nil|apply dw_seq2|refine z16 ?_|apply dw_skip|apply thenD_n|apply inB_n|(refine z23 ?_ ?_ <;> intro hg)|fail)
       all_goals try (exfalso;first|omega|exact absurd (by assumption) hsk)
       exact⟨(k,acc++[t],0,false,fl,m),hinv,ent_ren (fun x=>match x with|0=>0|_=>_) ⟨rfl,rfl,rfl,rfl,congrArg (fun z=>SV.d (D.bool z)) (decide_eq_false hsk),trivial⟩ ⟨rfl,by dsimp only;rw [hap];rfl,trivial⟩ rfl rfl rfl rfl rfl rfl,by cases fl <;> exact Nat.succ_pos _⟩
     ·have hinv:=hend (.inl hz)
      clear hend hgo hk w5
      repeat' (first|refine z0 ?_|refine z12 ?_|apply ds_nil|apply dw_seq2|refine z16 ?_|apply dw_skip|refine z19 ?_|apply thenD_n|apply inB_n|refine z4 ?_|refine z2 ?_|((fail_if_success (apply ds_known;exact rfl));apply ds_guardP;exact rfl;exact rfl;exact rfl;all_goals intro hg))
      all_goals try (exfalso;omega)
      exact⟨(k,acc++[t],F,false,fl,m),hinv,ent_ren (fun x=>match x with|0=>0|_=>_) ⟨rfl,rfl,rfl,rfl,rfl,trivial⟩ ⟨rfl,by dsimp only;rw [hap];rfl,trivial⟩ rfl rfl rfl rfl rfl rfl,by cases fl <;> exact Nat.succ_pos _⟩
theorem rdIs_true {α:Type} {p:PR α} {x:α} {k m:Nat} {g:Bool} (h:rdIs (rdP true k p) x m g):g=true∧m=k:=by
 cases g with
 | false=>cases h
 | true=>injection (show Except.error k=Except.error m from h) with h;exact⟨rfl,h.symm⟩
theorem need_is {l:List Tok} {i j:Nat} {f g:Bool} {s:ByteArray} (h:(f=false∧g=false∧j=i + 1∧seesT l i s=true)∨(g=true∧j=i∧(f=false→seesT l i s=false))) :
  rdIs (rdP f i (if seesT l i s=true then .ok ((),i + 1) else .error i)) () j g:=by
 rcases h with ⟨rfl,rfl,rfl,h⟩|⟨rfl,rfl,h⟩
 ·show (if seesT l i s=true then _ else _)=_;rw [if_pos h]
 ·cases f with
  | true=>rfl
  | false=>show (if seesT l j s=true then _ else _)=_;rw [h rfl];rfl
theorem need_lt {l:List Tok} {i j:Nat} {f g:Bool} {s:ByteArray} (hi:i≤l.length) (h:(f=false∧g=false∧j=i + 1∧seesT l i s=true)∨(g=true∧j=i∧(f=false→seesT l i s=false))):j≤l.length:=by
 rcases h with ⟨_,_,rfl,h⟩|⟨_,rfl,_⟩
 ·exact seesT_lt h
 ·exact hi
theorem rdIs_lt {α:Type} {p:PR α} {l:List Tok} {i:Nat} {x:α} {k:Nat} {f g:Bool} (hi:i≤l.length) (ho:∀ j y,p = .ok (y,j)→j≤l.length) (he:∀ j,p = .error j→j≤l.length) (h:rdIs (rdP f i p) x k g):k≤l.length:=by
 cases f with
 | true=>obtain⟨_,rfl⟩:=rdIs_true h;exact hi
 | false=>cases g with
  | false=>exact ho _ _ h
  | true=>exact he _ h
theorem term_le {l:List Tok} {i k:Nat} {t:TTm} {f g:Bool} (hi:i≤l.length) (h:rdIs (rdP f i (termT l i)) t k g):k≤l.length:=rdIs_lt hi (fun _ _ h=>(termT_lt h).2) (fun _ h=>termT_err hi h) h
theorem name_le {l:List Tok} {i k:Nat} {t:ByteArray} {f g:Bool} (hi:i≤l.length) (h:rdIs (rdP f i (nameT l i)) t k g):k≤l.length:=rdIs_lt hi (fun _ _ h=>(nameT_lt h).2) (fun _ h=>nameT_err hi h) h
theorem terms_le {l:List Tok} {i k:Nat} {head:Bool} {t:List TTm × Int} {f g:Bool} (hi:i≤l.length) (h:rdIs (rdP f i (termsT l i head)) t k g):k≤l.length:=rdIs_lt hi (fun _ _ h=>(termsT_lt h).2) (fun _ h=>termsT_err hi h) h
theorem lit_not {l:List Tok} {e:Int} {i k m:Nat} {s:ByteArray} {x:List TTm × Int} {g g2:Bool} (hn:seesT l i ⟨#[110,111,116]⟩=true) (h1:rdIs (rdP false (i + 1) (nameT l (i + 1))) s k g) (h2:rdIs (rdP g k (termsT l k false)) x m g2) :
  rdIs (rdP false i (litT l e i)) (⟨2,hereT l e i,0,s,x.1⟩:TLt) m g2:=by
 obtain⟨ts,z⟩:=x
 unfold rdP litT
 rw [hn]
 dsimp only
 cases g with
 | true =>
  obtain⟨rfl,rfl⟩:=rdIs_true h2
  rw [show nameT l (i + 1) = .error m from h1]
  rfl
 | false =>
  rw [show nameT l (i + 1) = .ok (s,k) from h1]
  dsimp only
  cases g2 with
  | true=>rw [show termsT l k false = .error m from h2];rfl
  | false=>rw [show termsT l k false = .ok ((ts,z),m) from h2];rfl
theorem lit_yes {l:List Tok} {e:Int} {i k m:Nat} {s:ByteArray} {x:List TTm × Int} {g g2:Bool} (hn:seesT l i ⟨#[110,111,116]⟩=false) (ht:isTestT l i=false) (h1:rdIs (rdP false i (nameT l i)) s k g) (h2:rdIs (rdP g k (termsT l k false)) x m g2) :
  rdIs (rdP false i (litT l e i)) (⟨1,hereT l e i,0,s,x.1⟩:TLt) m g2:=by
 obtain⟨ts,z⟩:=x
 unfold rdP litT
 rw [hn,ht]
 dsimp only
 cases g with
 | true =>
  obtain⟨rfl,rfl⟩:=rdIs_true h2
  rw [show nameT l i = .error m from h1]
  rfl
 | false =>
  rw [show nameT l i = .ok (s,k) from h1]
  dsimp only
  cases g2 with
  | true=>rw [show termsT l k false = .error m from h2];rfl
  | false=>rw [show termsT l k false = .ok ((ts,z),m) from h2];rfl
theorem lit_op {l:List Tok} {e:Int} {i:Nat} (hn:seesT l i ⟨#[110,111,116]⟩=false) (ht:isTestT l i=true):litT l e i=match testT l i with
   | .error k=>.error k
   | .ok ((kind,op,ts),k)=>.ok (⟨kind,hereT l e i,op,⟨#[]⟩,ts⟩,k):=by
 unfold litT
 rw [hn,ht]
 rfl
theorem lit_test2 {l:List Tok} {e F:Int} {i k k' m:Nat} {a b:TTm} {f g g' g3:Bool} (hn:f=false→seesT l i ⟨#[110,111,116]⟩=false∧isTestT l i=true) (h1:rdIs (rdP f i (termT l i)) a k g) (hF:F=foldG opsR (textT l k g) 8)
  (h2:rdIs (rdP g k (if F=0 then .error k else .ok ((),k + 1))) () k' g') (h3:rdIs (rdP g' k' (termT l k')) b m g3) (h5:F < 5):rdIs (rdP f i (litT l e i)) (⟨3,hereT l e i,F,⟨#[]⟩,[a,b]⟩:TLt) m g3:=by
 cases f with
 | true =>
  obtain⟨rfl,rfl⟩:=rdIs_true h1
  obtain⟨rfl,rfl⟩:=rdIs_true h2
  obtain⟨rfl,rfl⟩:=rdIs_true h3
  rfl
 | false =>
  obtain⟨n1,n2⟩:=hn rfl
  unfold rdP
  dsimp only
  rw [lit_op n1 n2]
  unfold testT
  cases g with
  | true =>
   obtain⟨rfl,rfl⟩:=rdIs_true h2
   obtain⟨rfl,rfl⟩:=rdIs_true h3
   rw [show termT l i = .error m from h1]
   rfl
  | false =>
   rw [show termT l i = .ok (a,k) from h1]
   dsimp only
   rw [foldO_is,← hF]
   by_cases hz:F=0
   ·rw [if_pos hz] at h2
    rw [if_pos hz]
    cases g' with
    | false=>cases h2
    | true =>
     obtain⟨rfl,rfl⟩:=rdIs_true h3
     injection (show Except.error k=Except.error m from h2) with h
     subst h
     rfl
   ·rw [if_neg hz] at h2
    rw [if_neg hz]
    cases g' with
    | true=>cases h2
    | false =>
     injection (show Except.ok ((),k + 1)=Except.ok ((),k') from h2) with h
     injection h with _ h
     subst h
     cases g3 with
     | true=>rw [show termT l (k + 1) = .error m from h3];rfl
     | false =>
      rw [show termT l (k + 1) = .ok (b,m) from h3]
      dsimp only
      rw [if_pos h5]
      rfl
theorem lit_test3 {l:List Tok} {e F:Int} {i k k' m m' q:Nat} {a b c:TTm} {f g g' g3 g4 g5:Bool} (hn:f=false→seesT l i ⟨#[110,111,116]⟩=false∧isTestT l i=true) (h1:rdIs (rdP f i (termT l i)) a k g) (hF:F=foldG opsR (textT l k g) 8)
  (h2:rdIs (rdP g k (if F=0 then .error k else .ok ((),k + 1))) () k' g') (h3:rdIs (rdP g' k' (termT l k')) b m g3) (h5:¬ F < 5)
  (h4:rdIs (rdP g3 m (if seesT l m ⟨#[61]⟩=true then .ok ((),m + 1) else .error m)) () m' g4) (h6:rdIs (rdP g4 m' (termT l m')) c q g5):rdIs (rdP f i (litT l e i)) (⟨4,hereT l e i,F,⟨#[]⟩,[a,b,c]⟩:TLt) q g5:=by
 cases f with
 | true =>
  obtain⟨rfl,rfl⟩:=rdIs_true h1
  obtain⟨rfl,rfl⟩:=rdIs_true h2
  obtain⟨rfl,rfl⟩:=rdIs_true h3
  obtain⟨rfl,rfl⟩:=rdIs_true h4
  obtain⟨rfl,rfl⟩:=rdIs_true h6
  rfl
 | false =>
  obtain⟨n1,n2⟩:=hn rfl
  unfold rdP
  dsimp only
  rw [lit_op n1 n2]
  unfold testT
  cases g with
  | true =>
   obtain⟨rfl,rfl⟩:=rdIs_true h2
   obtain⟨rfl,rfl⟩:=rdIs_true h3
   obtain⟨rfl,rfl⟩:=rdIs_true h4
   obtain⟨rfl,rfl⟩:=rdIs_true h6
   rw [show termT l i = .error q from h1]
   rfl
  | false =>
   rw [show termT l i = .ok (a,k) from h1]
   dsimp only
   rw [foldO_is,← hF]
   rw [if_neg (show ¬ F=0 by omega)] at h2 ⊢
   cases g' with
   | true=>cases h2
   | false =>
    injection (show Except.ok ((),k + 1)=Except.ok ((),k') from h2) with h
    injection h with _ h
    subst h
    cases g3 with
    | true =>
     obtain⟨rfl,rfl⟩:=rdIs_true h4
     obtain⟨rfl,rfl⟩:=rdIs_true h6
     rw [show termT l (k + 1) = .error q from h3]
     rfl
    | false =>
     rw [show termT l (k + 1) = .ok (b,m) from h3]
     dsimp only
     rw [if_neg h5]
     by_cases hs:seesT l m ⟨#[61]⟩=true
     ·rw [if_pos hs]
      have h4:rdIs (if seesT l m ⟨#[61]⟩=true then Except.ok ((),m + 1) else Except.error m:PR Unit) () m' g4:=h4
      rw [if_pos hs] at h4
      cases g4 with
      | true=>cases h4
      | false =>
       injection (show Except.ok ((),m + 1)=Except.ok ((),m') from h4) with h
       injection h with _ h
       subst h
       cases g5 with
       | true=>rw [show termT l (m + 1) = .error q from h6];rfl
       | false=>rw [show termT l (m + 1) = .ok (c,q) from h6];rfl
     ·rw [if_neg hs]
      have h4:rdIs (if seesT l m ⟨#[61]⟩=true then Except.ok ((),m + 1) else Except.error m:PR Unit) () m' g4:=h4
      rw [if_neg hs] at h4
      cases g4 with
      | false=>cases h4
      | true =>
       injection (show Except.error m=Except.error m' from h4) with h
       subst h
       obtain⟨rfl,rfl⟩:=rdIs_true h6
       rfl
attribute [local irreducible] foldG
def nameB (l:List Tok) (i:Nat):Bool→Bool
 | true=>false
 | false=>!isTestT l i
abbrev litN (kind at_ op:Int) (name:ByteArray):HB:=.blk 51 [.d (.int .i64 kind),.d (.int .i64 at_),.d (.int .i64 op),.d (.str name),.nils]
abbrev litZ:HB:=.blk 51 [.d (.int .i64 0),.d (.int .i64 0),.d (.int .i64 0),.d (.str ⟨#[]⟩),.nils]
theorem rdIs_ex {α:Type} (p:PR α) (x0:α):∃ x k g,rdIs p x k g:=by
 cases p with
 | ok y=>exact⟨y.1,y.2,false,rfl⟩
 | error k=>exact⟨x0,k,true,rfl⟩
theorem rdBl {f:FuncId} {args:List SV} {l:List Tok} {i:Nat} {e:Int} {fl:Bool} {α:Type} {p:PR α} {enc:α→SV} (h:RdC f args l i e fl p enc) (hlow:∀ x,(enc x).low 0=true) :
  FnBl false Tryz.prog tab tab_ok f args 76 [.d (.slice 3 (l.map encTok)),.d (.int .i64 i),.d (.int .i64 e),.d (.bool fl)] (fun r cs'=>∃ x,∃ k:Nat,∃ g,r=enc x∧cs' = [.d (.slice 3 (l.map encTok)),.d (.int .i64 k),.d (.int .i64 e),.d (.bool g)]∧rdIs p x k g):=by
 unfold FnBl
 refine h.imp ?_
 rintro _ r H ⟨_,x,k,g,rfl,rfl,hp⟩
 exact⟨_,⟨x,k,g,rfl,rfl,hp⟩,hlow x,rfl,rfl⟩
set_option maxHeartbeats 8000000 in
theorem rlit_out (l:List Tok) (i:Nat) (e:Int) (f:Bool) (hi:i≤l.length) (hl:l.length≤900000) (hok:l.all tokOk=true):RdC 38 [.loc 0 0] l i e f (rdP f i (litT l e i)) tlV:=by
 refine fn_enterR _ Tryz.func38 rfl rfl (by kernel_rfl) ?_
 intro O w0 E0 β0
 have ll:(l.map encTok).length=l.length:=List.length_map _
 have w0:=rhere_fn l i e f
 have w1:=rtext_fn l i e f
 repeat' (first|refine z0 ?_|apply ds_nil|apply dw_seq2|refine z16 ?_|apply thenD_n|refine z1 ?_|fail)
 (refine ds_callF id (w0) rfl rfl rfl rfl ⟨rfl,trivial⟩ rfl rfl rfl rfl rfl rfl ?_ ?_)
 ·rintro k2 res H2 ⟨rfl,rfl,rfl⟩;exact⟨rfl,rfl⟩
 rintro k2 res H2 ⟨rfl,rfl,rfl⟩
 change DS _ _ _ _ _ _ _ _
 clear w0
 repeat' (first|refine z0 ?_|apply ds_nil|apply dw_seq2|refine z16 ?_|apply thenD_n|refine z1 ?_|refine z3 ?_|fail)
 (refine ds_callF id (w1) rfl rfl rfl rfl ⟨rfl,trivial⟩ rfl rfl rfl rfl rfl rfl ?_ ?_)
 ·rintro k2 res H2 ⟨rfl,rfl,rfl⟩;exact⟨rfl,rfl⟩
 rintro k2 res H2 ⟨rfl,rfl,rfl⟩
 change DS _ _ _ _ _ _ _ _
 by_cases hn:textT l i f=⟨#[110,111,116]⟩
 ·obtain⟨rfl,hs⟩:=(text_is (by decide)).1 hn
  have hil:=seesT_lt hs
  clear w1
  have w2:=rneed_s l i e ⟨#[110,111,116]⟩ (by omega) hn
  have w3:=rtext_fn l (i + 1) e false
  have w4:=rname_out l (i + 1) e false (by omega)
  rw [hn]
  repeat' (first|refine z0 ?_|apply ds_nil|apply dw_seq2|refine z16 ?_|refine z18 ?_|apply thenD_n)
  (refine ds_callF id (w2) rfl rfl rfl rfl ⟨rfl,trivial⟩ rfl rfl rfl rfl rfl rfl ?_ ?_)
  ·rintro k2 res H2 ⟨rfl,rfl,rfl⟩;exact⟨rfl,rfl⟩
  rintro k2 res H2 ⟨rfl,rfl,rfl⟩
  change DS _ _ _ _ _ _ _ _
  clear w2
  repeat' (first|refine z0 ?_|apply ds_nil|apply dw_seq2|refine z16 ?_|apply thenD_n|refine z3 ?_|fail)
  (refine ds_callF id (w3) rfl rfl rfl rfl ⟨rfl,trivial⟩ rfl rfl rfl rfl rfl rfl ?_ ?_)
  ·rintro k2 res H2 ⟨rfl,rfl,rfl⟩;exact⟨rfl,rfl⟩
  rintro k2 res H2 ⟨rfl,rfl,rfl⟩
  change DS _ _ _ _ _ _ _ _
  clear w3
  repeat' (first|refine z0 ?_|refine z12 ?_|apply ds_nil|apply dw_seq2|refine z16 ?_|refine z18 ?_|apply thenD_n)
  (refine ds_callF id (w4) rfl rfl rfl rfl ⟨rfl,trivial⟩ rfl rfl rfl rfl rfl rfl ?_ ?_)
  ·rintro k2 res H2 ⟨rfl,s,k,g,rfl,rfl,_⟩;exact⟨rfl,rfl⟩
  rintro k2 res H2 ⟨rfl,s,k,g,rfl,rfl,h1⟩
  change DS _ _ _ _ _ _ _ _
  clear w4
  have w5:=rterms_out l k e g false (name_le (by omega) h1) hl hok
  repeat' (first|refine z0 ?_|apply ds_nil|apply dw_seq2|refine z16 ?_|apply thenD_n|refine z3 ?_|fail)
  (refine ds_callF id (w5) rfl rfl rfl rfl ⟨rfl,trivial⟩ rfl rfl rfl rfl rfl rfl ?_ ?_)
  ·rintro k2 res H2 ⟨rfl,x,m,g2,rfl,rfl,_⟩;exact⟨rfl,rfl⟩
  rintro k2 res H2 ⟨rfl,x,m,g2,rfl,rfl,h2⟩
  change DS _ _ _ _ _ _ _ _
  clear w5
  repeat' (first|refine z0 ?_|apply ds_nil|apply dw_seq2|refine z16 ?_|apply dw_ret|apply thenD_n|apply thenD_r|refine z3 ?_|fail)
  exact⟨.inl rfl,_,rfl,id,1,_,rdH l m e g2,rfl,⟨rfl,trivial⟩,rfl,rfl,rfl,rfl,rfl,rfl,rfl,⟨2,hereT l e i,0,s,x.1⟩,m,g2,rfl,rfl,lit_not hs h1 h2⟩
 have hns:f=false→seesT l i ⟨#[110,111,116]⟩=false:=fun h=>Bool.eq_false_iff.2 fun h2=>hn ((text_is (by decide)).2 ⟨h,h2⟩)
 generalize ht:textT l i f=t at hn w1
 repeat' (first|refine z0 ?_|apply ds_nil|apply dw_seq2|refine z16 ?_|apply dw_skip|apply thenD_n|(refine z23 ?_ ?_ <;> intro hg)|fail)
 all_goals try (exfalso;exact absurd (by assumption) hn)
 (refine ds_callF id (w1) rfl rfl rfl rfl ⟨rfl,trivial⟩ rfl rfl rfl rfl rfl rfl ?_ ?_)
 ·rintro k2 res H2 ⟨rfl,rfl,rfl⟩;exact⟨rfl,rfl⟩
 rintro k2 res H2 ⟨rfl,rfl,rfl⟩
 change DS _ _ _ _ _ _ _ _
 clear w1
 repeat' ((fail_if_success (apply dw_stopR 6));(first|refine z0 ?_|apply ds_nil|apply thenD_n))
 refine dw_cut (ι:=Unit) (fun _=>⟨3,[(0,.loc 0 0),(2,.loc 1 0),(3,.loc 2 0)],[(0,rdB l i e f),(1,litZ),(2,litN 1 (hereT l e i) 0 ⟨#[]⟩)]⟩) (fun _=>nameB l i f=false) ?_ ?_
 ·by_cases h0:t=⟨#[]⟩
  ·have hb:nameB l i f=false:=by
    cases f with
    | true=>rfl
    | false =>
     unfold nameB isTestT
     cases hl0:l[i]? with
     | none=>rfl
     | some x =>
      have hx:=List.mem_of_getElem? hl0
      rw [h0] at ht
      unfold textT at ht
      rw [hl0] at ht
      exact absurd ht (tok_ne (List.all_eq_true.1 hok x hx))
   clear ht
   repeat' (first|refine z0 ?_|refine z12 ?_|apply ds_nil|apply dw_seq2|refine z16 ?_|apply dw_skip|refine z19 ?_|apply thenD_n|((fail_if_success (apply ds_known;exact rfl));apply ds_guardP;exact rfl;exact rfl;exact rfl;all_goals intro hg))
   all_goals try (exfalso;first|exact absurd h0 (by assumption)|omega)
   exact⟨(),hb,ent_ren id ⟨rfl,rfl,rfl,trivial⟩ ⟨rfl,rfl,rfl,trivial⟩ rfl rfl rfl rfl rfl rfl⟩
  ·obtain⟨rfl,hil⟩:=text_ne (f:=f) (by rw [ht];exact h0)
   have hti:t=l[i].text:=by rw [← ht,text_some hil]
   obtain⟨y0,_,_,y3⟩:=tok_first (List.all_eq_true.1 hok _ (List.getElem_mem hil))
   subst hti
   have w3:=isSmall_fn l[i].text[0]
   rw [y3] at w3
   by_cases hk:l[i].kind=1
   ·have hte:isTestT l i=false:=by unfold isTestT;rw [List.getElem?_eq_getElem hil];exact decide_eq_false (by omega)
    rw [decide_eq_true hk] at w3
    have w4:=rname_out l i e false (by omega)
    clear ht
    repeat' (first|refine z0 ?_|refine z12 ?_|apply ds_nil|apply dw_seq2|refine z16 ?_|apply dw_skip|refine z18 ?_|refine z19 ?_|apply thenD_n|refine z21 ?_ (hc:=by apply w3)|((fail_if_success (apply ds_known;exact rfl));apply ds_guardP;exact rfl;exact rfl;exact rfl;all_goals intro hg))
    all_goals try (exfalso;first|exact absurd (by assumption) h0|exact absurd h0 (by assumption)|omega)
    (refine ds_callF id (w4) rfl rfl rfl rfl ⟨rfl,trivial⟩ rfl rfl rfl rfl rfl rfl ?_ ?_)
    ·rintro k2 res H2 ⟨rfl,s,k,g,rfl,rfl,_⟩;exact⟨rfl,rfl⟩
    rintro k2 res H2 ⟨rfl,s,k,g,rfl,rfl,h1⟩
    change DS _ _ _ _ _ _ _ _
    clear w4
    have w5:=rterms_out l k e g false (name_le hi h1) hl hok
    repeat' (first|refine z0 ?_|apply ds_nil|apply dw_seq2|refine z16 ?_|apply thenD_n|refine z3 ?_|fail)
    (refine ds_callF id (w5) rfl rfl rfl rfl ⟨rfl,trivial⟩ rfl rfl rfl rfl rfl rfl ?_ ?_)
    ·rintro k2 res H2 ⟨rfl,x,m,g2,rfl,rfl,_⟩;exact⟨rfl,rfl⟩
    rintro k2 res H2 ⟨rfl,x,m,g2,rfl,rfl,h2⟩
    change DS _ _ _ _ _ _ _ _
    clear w5
    repeat' (first|refine z0 ?_|apply ds_nil|apply dw_seq2|refine z16 ?_|apply dw_ret|apply thenD_n|apply thenD_r|refine z3 ?_|fail)
    exact⟨.inl rfl,_,rfl,id,1,_,rdH l m e g2,rfl,⟨rfl,trivial⟩,rfl,rfl,rfl,rfl,rfl,rfl,rfl,⟨1,hereT l e i,0,s,x.1⟩,m,g2,rfl,rfl,lit_yes (hns rfl) hte h1 h2⟩
   ·have hb:nameB l i false=false:=by unfold nameB isTestT;rw [List.getElem?_eq_getElem hil];dsimp only;rw [decide_eq_true hk];rfl
    rw [decide_eq_false hk] at w3
    clear ht
    repeat' (first|refine z0 ?_|refine z12 ?_|apply ds_nil|apply dw_seq2|refine z16 ?_|apply dw_skip|refine z19 ?_|apply thenD_n|refine z21 ?_ (hc:=by apply w3)|((fail_if_success (apply ds_known;exact rfl));apply ds_guardP;exact rfl;exact rfl;exact rfl;all_goals intro hg))
    all_goals try (exfalso;first|exact absurd (by assumption) h0|exact absurd h0 (by assumption)|omega)
    exact⟨(),hb,ent_ren id ⟨rfl,rfl,rfl,trivial⟩ ⟨rfl,rfl,rfl,trivial⟩ rfl rfl rfl rfl rfl rfl⟩
 intro _ hb
 have hb:nameB l i f=false:=hb
 clear hn
 have hno:f=false→seesT l i ⟨#[110,111,116]⟩=false∧isTestT l i=true:=fun h=>⟨hns h,by subst h;simpa [nameB] using hb⟩
 clear hb hns ht
 have w1:=rterm_out l i e f (by omega) hok
 repeat' (first|refine z0 ?_|apply dw_seq2|refine z16 ?_|fail)
 (refine ds_callF id (w1) rfl rfl rfl rfl ⟨rfl,trivial⟩ rfl rfl rfl rfl rfl rfl ?_ ?_)
 ·rintro k2 res H2 ⟨rfl,a,k,g,rfl,rfl,_⟩;exact⟨rfl,rfl⟩
 rintro k2 res H2 ⟨rfl,a,k,g,rfl,rfl,h1⟩
 change DS _ _ _ _ _ _ _ _
 clear w1
 have hk:=term_le hi h1
 have lo:(opsR.map encT).length=8:=rfl
 obtain⟨s,hs⟩:∃ s,s=textT l k g:=⟨_,rfl⟩
 have hf1:foldG opsR s 1=0:=by unfold foldG;rw [if_neg (fun h=>h.1 rfl)];unfold foldG;rfl
 repeat' (first|(refine ds_bsS opsR rfl rfl rfl rfl rfl rfl rfl rfl rfl rfl rfl rfl ?_)|(first|refine z0 ?_|apply ds_nil|apply dw_seq2|refine z16 ?_|apply dw_block|apply thenD_n|refine z1 ?_|refine z3 ?_|fail))
 refine ds_loop (ι:=Nat) (fun q=>⟨4,[(0,.loc 0 0),(2,.loc 1 0),(3,.loc 2 0),(5,.loc 3 0),(6,.d (.slice 1 (opsR.map encT))),(7,.d (.int .i64 q))],[(0,rdB l k e g),(1,litZ),(2,litN 1 (hereT l e i) (foldG opsR s q) ⟨#[]⟩),(3,.blk 49 [.d (.str a.var),.d (.int .i64 a.n)])]⟩)
  (fun q=>1≤q∧q≤8) (fun q=>8 - q) 1 ⟨by omega,by omega⟩ (ent_ren id ⟨rfl,rfl,rfl,rfl,rfl,rfl,trivial⟩ ⟨rfl,rfl,congrArg (fun z=>some (litN 1 (hereT l e i) z ⟨#[]⟩)) hf1.symm,rfl,trivial⟩ rfl rfl rfl rfl rfl rfl) ?_
 rintro q ⟨hq1,hq⟩
 dsimp only at hq1 hq ⊢
 by_cases hq8:q < 8
 ·have hql:q < opsR.length:=hq8
  have hstep:=foldG_succ (ws:=opsR) (s:=s) hq1 hql
  have w2:FnOk false Tryz.prog tab tab_ok 36 [.loc 0 0] 1 1 (rdH l k e g) (fun _ r H2=>r = .d (.str s)∧H2=rdH l k e g):=(rtext_fn l k e g).imp fun _ _ _ h=>⟨by rw [hs];exact h.2.1,h.2.2⟩
  repeat' (first|refine z0 ?_|apply ds_nil|refine z5 ?_|apply dw_seq2|refine z16 ?_|refine z20 ?_|apply dw_block|apply dw_skip|apply dw_exit|apply thenD_n|apply thenD_e|refine z17 ?_|refine z3 ?_|(refine z23 ?_ ?_ <;> intro hg)|fail)
  all_goals try (exfalso;omega)
  refine dt_callR id w2 (by rintro _ rfl;exact⟨rfl,rfl⟩) ⟨_,rfl⟩ rfl rfl rfl rfl ⟨rfl,trivial⟩ rfl rfl rfl rfl rfl rfl rfl rfl rfl ?_
  rintro _ rfl
  by_cases hsq:s=opsR[q]
  ·rw [if_pos hsq] at hstep
   repeat' (first|refine z0 ?_|apply ds_nil|refine z5 ?_|refine z10 ?_|refine z16 ?_|apply dw_skip|apply thenD_n|apply inB_n|refine z3 ?_|(refine z23 ?_ ?_ <;> intro hg)|fail)
   all_goals try (exfalso;first|omega|exact absurd hsq (by assumption))
   exact⟨q + 1,⟨by omega,by omega⟩,ent_ren id ⟨rfl,rfl,rfl,rfl,rfl,rfl,trivial⟩ ⟨rfl,rfl,congrArg (fun z=>some (litN 1 (hereT l e i) z ⟨#[]⟩)) hstep.symm,rfl,trivial⟩ rfl rfl rfl rfl rfl rfl,by show 8 - (q + 1) < 8 - q;omega⟩
  ·rw [if_neg hsq] at hstep
   repeat' (first|refine z0 ?_|apply ds_nil|refine z5 ?_|refine z10 ?_|refine z16 ?_|apply dw_skip|apply thenD_n|apply inB_n|refine z3 ?_|(refine z23 ?_ ?_ <;> intro hg)|fail)
   all_goals try (exfalso;first|omega|exact absurd (by assumption) hsq)
   exact⟨q + 1,⟨by omega,by omega⟩,ent_ren id ⟨rfl,rfl,rfl,rfl,rfl,rfl,trivial⟩ ⟨rfl,rfl,congrArg (fun z=>some (litN 1 (hereT l e i) z ⟨#[]⟩)) hstep.symm,rfl,trivial⟩ rfl rfl rfl rfl rfl rfl,by show 8 - (q + 1) < 8 - q;omega⟩
 have:q=8:=by omega
 subst this
 clear hq1 hq hq8 hf1
 obtain⟨F,hF⟩:∃ F,F=foldG opsR s 8:=⟨_,rfl⟩
 rw [← hF]
 repeat' ((fail_if_success (apply dw_stopR 17));(first|refine z0 ?_|apply ds_nil|apply dw_seq2|refine z16 ?_|apply dw_exit|refine z19 ?_|apply thenD_n|apply thenD_e|refine z17 ?_|fail))
 all_goals try (exfalso;omega)
 refine dw_cut (ι:=Nat × Bool) (fun x=>⟨4,[(0,.loc 0 0),(2,.loc 1 0),(3,.loc 2 0),(5,.loc 3 0)],[(0,rdB l x.1 e x.2),(1,litZ),(2,litN 1 (hereT l e i) F ⟨#[]⟩),(3,.blk 49 [.d (.str a.var),.d (.int .i64 a.n)])]⟩)
  (fun x=>x.1≤l.length∧rdIs (rdP g k (if F=0 then .error k else .ok ((),k + 1))) () x.1 x.2) ?_ ?_
 ·by_cases hz:F=0
  ·subst hz
   have hr:rdIs (rdP g k (if (0:Int)=0 then .error k else .ok ((),k + 1))) () k true:=by cases g <;> rfl
   repeat' (first|refine z0 ?_|apply ds_nil|apply dw_seq2|refine z16 ?_|refine z18 ?_|apply thenD_n|refine z3 ?_|fail)
   all_goals try (exfalso;omega)
   exact⟨(k,true),⟨hk,hr⟩,ent_ren id ⟨rfl,rfl,rfl,rfl,trivial⟩ ⟨rfl,rfl,rfl,rfl,trivial⟩ rfl rfl rfl rfl rfl rfl⟩
  ·obtain⟨q,hq,hFq,hsq⟩:=foldO_text (s:=s) (by rw [← hF];exact hz)
   rw [← hF] at hFq
   cases g with
   | true=>rw [hF,hs,textT_failed,foldO_none] at hz;exact absurd rfl hz
   | false =>
    have hkl:k < l.length:=by
     refine Classical.byContradiction fun hn=>hz ?_
     have:textT l k false=⟨#[]⟩:=by unfold textT;rw [List.getElem?_eq_none (by omega)]
     rw [hF,hs,this,foldO_none]
    have hr:rdIs (rdP false k (if F=0 then .error k else .ok ((),k + 1))) () (k + 1) false:=by show (if F=0 then _ else _)=_;rw [if_neg hz]
    have w3:=rneed_s l k e opsR[q] (by omega) (by rw [← hs];exact hsq)
    clear hF hs hsq
    subst hFq
    have hq8:q < 8:=hq
    repeat' (first|refine z0 ?_|apply ds_nil|apply dw_seq2|refine z16 ?_|apply thenD_n|refine z3 ?_|(refine z23 ?_ ?_ <;> intro hg)|fail)
    all_goals try (exfalso;omega)
    (refine ds_callF id (w3) rfl rfl rfl rfl ⟨rfl,trivial⟩ rfl rfl rfl rfl rfl rfl ?_ ?_)
    ·rintro k2 res H2 ⟨rfl,rfl,rfl⟩;exact⟨rfl,rfl⟩
    rintro k2 res H2 ⟨rfl,rfl,rfl⟩
    change DS _ _ _ _ _ _ _ _
    clear w3
    repeat' (first|apply ds_nil|apply thenD_n)
    exact⟨(k + 1,false),⟨hkl,hr⟩,ent_ren id ⟨rfl,rfl,rfl,rfl,trivial⟩ ⟨rfl,rfl,rfl,rfl,trivial⟩ rfl rfl rfl rfl rfl rfl⟩
 rintro⟨k',g'⟩ ⟨hk',h2⟩
 dsimp only at hk' h2 ⊢
 rw [hs] at hF
 clear hs
 have w3:=rterm_out l k' e g' (by omega) hok
 repeat' (first|refine z0 ?_|apply dw_seq2|refine z16 ?_|fail)
 (refine ds_callF id (w3) rfl rfl rfl rfl ⟨rfl,trivial⟩ rfl rfl rfl rfl rfl rfl ?_ ?_)
 ·rintro k2 res H2 ⟨rfl,b,m,g3,rfl,rfl,_⟩;exact⟨rfl,rfl⟩
 rintro k2 res H2 ⟨rfl,b,m,g3,rfl,rfl,h3⟩
 change DS _ _ _ _ _ _ _ _
 clear w3
 have hm:=term_le hk' h3
 by_cases h5:F < 5
 ·have hend:=lit_test2 (e:=e) hno h1 hF h2 h3 h5
  clear hno h1 hF h2 h3
  repeat' (first|refine z0 ?_|apply ds_nil|apply dw_seq2|refine z16 ?_|apply dw_skip|apply dw_ret|apply thenD_n|refine z1 ?_|refine z3 ?_|refine z4 ?_|(refine z23 ?_ ?_ <;> intro hg)|fail)
  all_goals try (exfalso;omega)
  exact⟨.inl rfl,_,rfl,id,1,_,rdH l m e g3,rfl,⟨rfl,trivial⟩,rfl,rfl,rfl,rfl,rfl,rfl,rfl,⟨3,hereT l e i,F,⟨#[]⟩,[a,b]⟩,m,g3,rfl,rfl,hend⟩
 obtain⟨m',g4,w4,hd4⟩:=rneed_c l m e g3 ⟨#[61]⟩ (by decide) (by omega)
 have h4:=need_is hd4
 have hm':=need_lt hm hd4
 clear hd4
 repeat' (first|(refine ds_bsR [encTTm a,encTTm b] rfl rfl rfl rfl rfl rfl rfl rfl rfl rfl (by intro x hx;simp only [List.mem_cons,List.not_mem_nil,or_false] at hx;rcases hx with rfl|rfl <;> rfl) rfl rfl rfl ?_)|(first|refine z0 ?_|apply ds_nil|apply dw_seq2|refine z16 ?_|apply dw_skip|apply thenD_n|refine z1 ?_|refine z3 ?_|(refine z23 ?_ ?_ <;> intro hg)|fail))
 all_goals try (exfalso;omega)
 (refine ds_callF id (w4) rfl rfl rfl rfl ⟨rfl,trivial⟩ rfl rfl rfl rfl rfl rfl ?_ ?_)
 ·rintro k2 res H2 ⟨rfl,rfl,rfl⟩;exact⟨rfl,rfl⟩
 rintro k2 res H2 ⟨rfl,rfl,rfl⟩
 change DS _ _ _ _ _ _ _ _
 clear w4
 have w5:=rdBl (rterm_out l m' e g4 (by omega) hok) (fun _=>rfl)
 have hne:=rdIs_ex (rdP g4 m' (termT l m')) (⟨⟨#[]⟩,0⟩:TTm)
 repeat' (first|apply ds_nil|refine z5 ?_|refine z20 ?_|apply thenD_n)
 refine dt_callB 0 w5 rfl rfl rfl rfl rfl rfl rfl rfl (by obtain⟨x,k,g,h⟩:=hne;exact⟨_,_,x,k,g,rfl,rfl,h⟩) ?_
 rintro _ _ ⟨c,q,g5,rfl,rfl,h6⟩
 clear w5 hne
 have hend:=lit_test3 (e:=e) hno h1 hF h2 h3 h5 h4 h6
 clear hno h1 hF h2 h3 h4 h6
 repeat' ((fail_if_success (apply dw_stopS 27));(first|refine z5 ?_|refine z6 ?_|refine z9 ?_|refine z11 ?_|apply thenD_n))
 refine dw_ent (ent_cellseal 2 4 11 rfl rfl rfl rfl rfl) ?_
 repeat' (first|refine z0 ?_|apply ds_nil|apply dw_seq2|refine z16 ?_|apply dw_ret|apply thenD_n|refine z3 ?_|fail)
 exact⟨.inl rfl,_,rfl,id,1,_,rdH l q e g5,rfl,⟨rfl,trivial⟩,rfl,rfl,rfl,rfl,rfl,rfl,rfl,⟨4,hereT l e i,F,⟨#[]⟩,[a,b,c]⟩,q,g5,rfl,rfl,hend⟩
end Go.Proofs.YtapciiffpnociabGreatDoor
