/- Several texts in one: TreE TreQ GxTail GxSpl TreF TreG TreH TreI TreJ. Condition: none. -/
import Derived.Test.YtapciiffpnociabDoorT10
import Derived.Test.YtapciiffpnociabDoorT08
import Derived.Test.YtapciiffpnociabDoorT09
namespace Go.Proofs.YtapciiffpnociabDoor
open Go Go.RowKit
theorem seesT_lt {l:List Tok} {i:Nat} {s:ByteArray} (h:seesT l i s=true):i < l.length:=by
 apply Classical.byContradiction
 intro hn
 unfold seesT at h
 rw [List.getElem?_eq_none (by omega)] at h
 cases h
theorem termT_lt {l:List Tok} {i j:Nat} {t:TTm} (h:termT l i = .ok (t,j)):i < j∧j≤l.length:=by
 unfold termT at h
 generalize hb:seesT l i ⟨#[45]⟩=b at h
 have key:∀ q:Nat,(match l[q]? with
  | none=>(.error q:PR TTm)
  | some t=>if t.kind=2∧b=false then .ok ((⟨t.text,0⟩:TTm),q + 1)
   else if t.kind≠3∨(b=true∧t.text=(⟨#[48]⟩:ByteArray)) then .error q
   else .ok ((⟨(⟨#[]⟩:ByteArray),(match b with|true=>-1|false=>1) * numT t.text⟩:TTm),q + 1)) = .ok (t,j)→j=q + 1∧j≤l.length:=by
  intro q hq
  by_cases hl:q < l.length
  ·rw [List.getElem?_eq_getElem hl] at hq
   dsimp only at hq
   split at hq
   ·injection hq with hq;injection hq with h1 h2;omega
   ·split at hq
    ·cases hq
    ·injection hq with hq;injection hq with h1 h2;omega
  ·rw [List.getElem?_eq_none (by omega)] at hq;cases hq
 cases b with
 | true=>have:=key (i + 1) h;omega
 | false=>have:=key i h;omega
def foldT (l:List Tok) (head:Bool) (j q:Nat):Int:=match head with
 | true=>firstT l j (foldsT.drop q) (q + 1)
 | false=>0
theorem termsGo_succ (l:List Tok) (head:Bool) (m j:Nat) (acc:List TTm):termsGo l head (m + 1) j acc =
  match termT l (if foldT l head j 0≠0 then j + 1 else j) with
  | .error k=>.error k
  | .ok (t,k) =>
   if foldT l head j 0≠0∨seesT l k ⟨#[44]⟩=false then
    (if seesT l k ⟨#[41]⟩ then .ok ((acc++[t],foldT l head j 0),k + 1) else .error k)
   else termsGo l head m (k + 1) (acc++[t]):=by cases head <;> rfl
theorem foldT_step (l:List Tok) (head:Bool) (j q:Nat) (h:q < foldsT.length):foldT l head j q=if head=true∧seesT l j foldsT[q]=true then ((q:Int) + 1) else foldT l head j (q + 1):=by
 unfold foldT
 cases head with
 | true =>
  dsimp only
  rw [List.drop_eq_getElem_cons h,firstT]
  by_cases hs:seesT l j foldsT[q]=true
  ·rw [if_pos hs,if_pos ⟨rfl,hs⟩]
  ·rw [if_neg hs,if_neg (fun h=>hs h.2)];rfl
 | false=>simp
theorem foldT_end (l:List Tok) (head:Bool) (j q:Nat) (h:foldsT.length≤q):foldT l head j q=0:=by
 unfold foldT
 rw [List.drop_of_length_le h]
 cases head <;> rfl
attribute [local irreducible] DW DS DL DQ Ev FnOk FnP FnOkE thenD inBlockD
set_option maxHeartbeats 8000000 in
theorem pterms_fn (l:List Tok) (i:Nat) (e:Int) (head:Bool) (hi:i≤l.length) (hl:l.length≤900000) (hok:l.all tokOk=true):FnOkE false Tryd.prog tab tab_ok 87 [.loc 0 0,.d (.bool head)] 1 1 (prH l i e) (fun k r H=>∃ x f j,termsT l i head = .ok ((x,f),j)∧j≤l.length∧k=1∧r = .tup [.d (.slice 2 (x.map encTTm)),.d (.int .i64 f)]∧H=prH l j e) (fun v=>∃ j,termsT l i head = .error j∧v=plV (hereT l e j)):=by
 refine fn_enterRE _ Tryd.func87 rfl rfl (by kernel_rfl) ?_
 intro O w0 E0 β0
 have ll:(l.map encTok).length=l.length:=List.length_map _
 have w1:=need_fn l i e ⟨#[40]⟩ (by omega)
 repeat' (first|refine z0 ?_|apply ds_nil|apply dw_seq2|refine z16 ?_|apply thenD_n)
 (refine ds_callE id (w1) rfl rfl rfl rfl ⟨rfl,trivial⟩ rfl rfl rfl rfl rfl rfl ?_ ?_ ?_)
 ·rintro v ⟨hs,rfl⟩;exact⟨i,by unfold termsT;rw [hs];rfl,rfl⟩
 ·rintro k2 res H2 ⟨_,rfl,rfl,rfl⟩;exact⟨rfl,rfl⟩
 rintro k2 res H2 ⟨hs,rfl,rfl,rfl⟩
 change DS _ _ _ _ _ _ _ _
 clear w1
 have hil:=seesT_lt hs
 have w1:=ptake_fn l (i + 1) e ⟨#[41]⟩ (by omega)
 repeat' (first|refine z0 ?_|apply ds_nil|apply dw_seq2|refine z16 ?_|apply thenD_n)
 (refine ds_callF id (w1) rfl rfl rfl rfl ⟨rfl,trivial⟩ rfl rfl rfl rfl rfl rfl ?_ ?_)
 ·rintro k2 res H2 ⟨rfl,rfl,rfl⟩;exact⟨rfl,rfl⟩
 rintro k2 res H2 ⟨rfl,rfl,rfl⟩
 change DS _ _ _ _ _ _ _ _
 clear w1
 have ht:termsT l i head=(if seesT l (i + 1) ⟨#[41]⟩ then .ok (([],0),i + 2) else termsGo l head (l.length + 1) (i + 1) []):=by unfold termsT;rw [hs];rfl
 cases hc:seesT l (i + 1) ⟨#[41]⟩ with
 | true =>
  rw [hc] at ht
  have:=seesT_lt hc
  repeat' (first|refine z0 ?_|apply ds_nil|apply dw_seq2|refine z16 ?_|refine z18 ?_|apply thenD_n)
  refine dw_ent (ent_nild 4 2 rfl) ?_
  repeat' (first|apply dw_ret|apply thenD_r)
  exact⟨.inl rfl,_,rfl,id,1,_,prH l (i + 1 + 1:Nat) e,rfl,⟨rfl,trivial⟩,rfl,rfl,rfl,rfl,rfl,rfl,[],0,_,ht,by omega,rfl,rfl,rfl⟩
 | false =>
  rw [hc,if_neg (by simp)] at ht
  dsimp only
  repeat' (first|apply ds_nil|apply dw_seq2|apply dw_block|apply dw_skip|refine z19 ?_|apply thenD_n)
  refine dw_ent (ent_nilrow (t:=6) 75 2 rfl) ?_
  refine ds_loop (ι:=Nat × List TTm × Nat) (fun x=>⟨2,[(0,.loc 0 0),(1,.d (.bool head)),(6,.row 1),(7,.d (.int .i64 0))],[(0,.blk 81 [.d (.slice 3 (l.map encTok)),.d (.int .i64 x.1),.d (.int .i64 e)]),(1,.row 75 2 (x.2.1.map encTTm))]⟩)
   (fun x=>termsT l i head=termsGo l head x.2.2 x.1 x.2.1∧x.1≤l.length∧l.length < x.2.2 + x.1∧x.2.1.length≤x.1) (fun x=>x.2.2) (i + 1,[],l.length + 1) ⟨ht,by show i + 1≤l.length;omega,by show l.length < l.length + 1 + (i + 1);omega,Nat.zero_le _⟩ (ent_ren (fun x=>match x with|0=>0|_=>_) ⟨rfl,rfl,rfl,rfl,trivial⟩ ⟨rfl,rfl,trivial⟩ rfl rfl rfl rfl rfl rfl) ?_
  clear hs hc ht
  rintro⟨j,acc,n⟩ ⟨ht,hj,hn,ha⟩
  dsimp only at ht hj hn ha ⊢
  have lf:(foldsT.map encT).length=4:=rfl
  have lw:(wordsL.map encT).length=5:=rfl
  obtain⟨m,rfl⟩:∃ m,n=m + 1:=⟨n - 1,by omega⟩
  rw [termsGo_succ] at ht
  repeat' ((fail_if_success (apply dw_stopR 6));(apply dw_block))
  obtain⟨f,hf⟩:∃ f:Int,f=foldT l head j 0:=⟨_,rfl⟩
  rw [← hf] at ht
  obtain⟨jf,hjf⟩:∃ jf:Nat,jf=if f≠0 then j + 1 else j:=⟨_,rfl⟩
  rw [← hjf] at ht
  refine dw_cut (ι:=Unit) (fun _=>⟨2,[(0,.loc 0 0),(1,.d (.bool head)),(6,.row 1),(7,.d (.int .i64 f))],[(0,.blk 81 [.d (.slice 3 (l.map encTok)),.d (.int .i64 jf),.d (.int .i64 e)]),(1,.row 75 2 (acc.map encTTm))]⟩) (fun _=>jf≤l.length) ?_ ?_
  ·repeat' (first|(apply ds_slD;exact rfl;exact rfl;exact rfl;exact rfl;exact rfl;exact rfl;(refine⟨?_,?_,?_⟩ <;> (omega));((with_reducible apply hv_drop);(exact nat_add_1 _));exact rfl;exact rfl)|refine z0 ?_|apply ds_nil|apply dw_seq2|refine z16 ?_|apply dw_block|apply thenD_n|refine z21 ?_ (hc:=by apply words_fn)|fail)
   refine ds_loop (ι:=Nat) (fun q=>⟨2,[(0,.loc 0 0),(1,.d (.bool head)),(6,.row 1),(7,.d (.int .i64 0)),(17,.d (.slice 1 (foldsT.map encT))),(18,.d (.int .i64 4)),(19,.d (.int .i64 q))],[(0,.blk 81 [.d (.slice 3 (l.map encTok)),.d (.int .i64 j),.d (.int .i64 e)]),(1,.row 75 2 (acc.map encTTm))]⟩)
    (fun q=>q≤4∧f=foldT l head j q) (fun q=>4 - q) 0 ⟨by omega,hf⟩ (ent_ren id ⟨rfl,rfl,rfl,rfl,rfl,rfl,rfl,trivial⟩ ⟨rfl,rfl,trivial⟩ rfl rfl rfl rfl rfl rfl) ?_
   rintro q ⟨hq,hfq⟩
   dsimp only at hq hfq ⊢
   by_cases hq4:q < 4
   ·have hql:q < foldsT.length:=hq4
    rw [foldT_step l head j q hql] at hfq
    have w2:=ptake_fn l j e foldsT[q] (by omega)
    cases head with
    | true =>
     repeat' (first|refine z0 ?_|apply ds_nil|apply dw_seq2|refine z16 ?_|apply dw_block|apply dw_skip|apply dw_exit|apply thenD_n|apply thenD_e|refine z17 ?_|(refine z23 ?_ ?_ <;> intro hg)|fail)
     all_goals try (exfalso;omega)
     (refine ds_callF id (w2) rfl rfl rfl rfl ⟨rfl,trivial⟩ rfl rfl rfl rfl rfl rfl ?_ ?_)
     ·rintro k2 res H2 ⟨rfl,rfl,rfl⟩;exact⟨rfl,rfl⟩
     rintro k2 res H2 ⟨rfl,rfl,rfl⟩
     change DS _ _ _ _ _ _ _ _
     clear w2
     cases hsq:seesT l j foldsT[q] with
     | true =>
      rw [hsq,if_pos ⟨rfl,rfl⟩,Int.add_comm] at hfq
      rw [if_pos (by omega)] at hjf
      subst hjf
      have hjl:=seesT_lt hsq
      clear ht hf
      subst hfq
      repeat' (first|refine z0 ?_|apply ds_nil|apply dw_seq2|refine z16 ?_|apply dw_exit|refine z18 ?_|apply thenD_n|apply thenD_e|refine z17 ?_|(apply inB_x;exact rfl))
      all_goals try (exfalso;omega)
      exact⟨(),by omega,ent_ren id ⟨rfl,rfl,rfl,rfl,trivial⟩ ⟨rfl,rfl,trivial⟩ rfl rfl rfl rfl rfl rfl⟩
     | false =>
      rw [hsq,if_neg (by simp)] at hfq
      repeat' (first|refine z0 ?_|apply ds_nil|refine z16 ?_|apply dw_skip|refine z19 ?_|apply thenD_n|apply inB_n)
      all_goals try (exfalso;omega)
      exact⟨q + 1,⟨by omega,hfq⟩,ent_ren id ⟨rfl,rfl,rfl,rfl,rfl,rfl,rfl,trivial⟩ ⟨rfl,rfl,trivial⟩ rfl rfl rfl rfl rfl rfl,by show 4 - (q + 1) < 4 - q;omega⟩
    | false =>
     rw [if_neg (by simp)] at hfq
     repeat' (first|refine z0 ?_|refine z12 ?_|apply ds_nil|apply dw_seq2|refine z16 ?_|apply dw_block|apply dw_skip|apply dw_exit|refine z19 ?_|apply thenD_n|apply thenD_e|apply inB_n|refine z17 ?_|(refine z23 ?_ ?_ <;> intro hg)|fail)
     all_goals try (exfalso;omega)
     exact⟨q + 1,⟨by omega,hfq⟩,ent_ren id ⟨rfl,rfl,rfl,rfl,rfl,rfl,rfl,trivial⟩ ⟨rfl,rfl,trivial⟩ rfl rfl rfl rfl rfl rfl,by show 4 - (q + 1) < 4 - q;omega⟩
   ·rw [foldT_end l head j q (by show 4≤q;omega)] at hfq
    rw [if_neg (by omega)] at hjf
    subst hjf
    clear ht hf
    subst hfq
    repeat' (first|refine z0 ?_|refine z12 ?_|apply ds_nil|apply dw_seq2|refine z16 ?_|apply dw_block|apply dw_skip|apply dw_exit|refine z19 ?_|apply thenD_n|apply thenD_e|apply inB_n|refine z17 ?_|(refine z23 ?_ ?_ <;> intro hg)|((fail_if_success (apply ds_known;exact rfl));apply ds_guardB;exact rfl;exact rfl;exact rfl;all_goals intro hg))
    all_goals try (exfalso;omega)
    exact⟨(),by omega,ent_ren id ⟨rfl,rfl,rfl,rfl,trivial⟩ ⟨rfl,rfl,trivial⟩ rfl rfl rfl rfl rfl rfl⟩
  ·intro _ hjl
   have hjj:j≤jf:=by rw [hjf];split <;> omega
   have w3:=pterm_fn l jf e (by omega) hok
   repeat' (first|refine z0 ?_|apply dw_seq2|refine z16 ?_|fail)
   (refine ds_callE id (w3) rfl rfl rfl rfl ⟨rfl,trivial⟩ rfl rfl rfl rfl rfl rfl ?_ ?_ ?_)
   ·rintro v ⟨k,hk,rfl⟩;exact⟨k,by rw [ht,hk],rfl⟩
   ·rintro k2 res H2 ⟨t,k,_,_,rfl,rfl,rfl⟩;exact⟨rfl,rfl⟩
   rintro k2 res H2 ⟨t,k,hk,_,rfl,rfl,rfl⟩
   change DS _ _ _ _ _ _ _ _
   clear w3
   rw [hk] at ht
   dsimp only at ht
   obtain⟨hk1,hk2⟩:=termT_lt hk
   have lac:(acc.map encTTm).length=acc.length:=List.length_map _
   have hap:(acc++[t]).map encTTm=acc.map encTTm++[encTTm t]:=List.map_append
   by_cases hf0:f=0
   ·subst hf0
    repeat' (first|refine z0 ?_|apply ds_nil|apply dw_seq2|refine z16 ?_|apply thenD_n|refine z1 ?_|refine z3 ?_|refine z4 ?_|refine z2 ?_|fail)
    all_goals try (exfalso;omega)
    have w4:=ptake_fn l k e ⟨#[44]⟩ (by omega)
    (refine ds_callF id (w4) rfl rfl rfl rfl ⟨rfl,trivial⟩ rfl rfl rfl rfl rfl rfl ?_ ?_)
    ·rintro k2 res H2 ⟨rfl,rfl,rfl⟩;exact⟨rfl,rfl⟩
    rintro k2 res H2 ⟨rfl,rfl,rfl⟩
    change DS _ _ _ _ _ _ _ _
    clear w4
    cases hsk:seesT l k ⟨#[44]⟩ with
    | true =>
     rw [hsk,if_neg (by rintro (h|h);exact h rfl;cases h)] at ht
     have:=seesT_lt hsk
     repeat' (first|refine z0 ?_|apply ds_nil|apply dw_skip|refine z19 ?_|apply thenD_n|apply inB_n)
     all_goals try (exfalso;omega)
     exact⟨(k + 1,acc++[t],m),⟨ht,by show k + 1≤l.length;omega,by show l.length < m + (k + 1);omega,by show (acc++[t]).length≤k + 1;rw [List.length_append];simp;omega⟩,ent_ren (fun x=>match x with|0=>0|_=>_) ⟨rfl,rfl,rfl,rfl,trivial⟩ ⟨rfl,by dsimp only;rw [hap];rfl,trivial⟩ rfl rfl rfl rfl rfl rfl,by show m < m + 1;omega⟩
    | false =>
     rw [hsk,if_pos (.inr rfl)] at ht
     have w5:=need_fn l k e ⟨#[41]⟩ (by omega)
     dsimp only
     repeat' (first|refine z0 ?_|apply ds_nil|apply dw_seq2|refine z16 ?_|apply dw_exit|refine z18 ?_|apply thenD_n|apply thenD_e|refine z17 ?_|(apply inB_x;exact rfl))
     all_goals try (exfalso;omega)
     (refine ds_callE id (w5) rfl rfl rfl rfl ⟨rfl,trivial⟩ rfl rfl rfl rfl rfl rfl ?_ ?_ ?_)
     ·rintro v ⟨hs,rfl⟩;exact⟨k,by rw [ht,hs];rfl,rfl⟩
     ·rintro k2 res H2 ⟨_,rfl,rfl,rfl⟩;exact⟨rfl,rfl⟩
     rintro k2 res H2 ⟨hs,rfl,rfl,rfl⟩
     change DS _ _ _ _ _ _ _ _
     clear w5
     have hkl:=seesT_lt hs
     rw [hs,if_pos rfl] at ht
     repeat' (first|refine z0 ?_|apply ds_nil|apply dw_seq2|refine z16 ?_|apply thenD_n)
     all_goals try (exfalso;omega)
     refine dw_ent (ent_seal 4 rfl rfl rfl) ?_
     repeat' (apply dw_ret)
     exact⟨.inl rfl,_,rfl,id,1,_,prH l (k + 1:Nat) e,rfl,⟨rfl,trivial⟩,rfl,rfl,rfl,rfl,rfl,rfl,acc++[t],_,k + 1,ht,by omega,rfl,by rw [hap],rfl⟩
   ·rw [if_pos (.inl hf0)] at ht
    have w5:=need_fn l k e ⟨#[41]⟩ (by omega)
    repeat' (first|refine z0 ?_|refine z12 ?_|apply ds_nil|apply dw_seq2|refine z16 ?_|apply dw_exit|refine z18 ?_|apply thenD_n|apply thenD_e|refine z17 ?_|(apply inB_x;exact rfl)|refine z1 ?_|refine z3 ?_|refine z4 ?_|refine z2 ?_|((fail_if_success (apply ds_known;exact rfl));apply ds_guardP;exact rfl;exact rfl;exact rfl;all_goals intro hg))
    all_goals try (exfalso;omega)
    (refine ds_callE id (w5) rfl rfl rfl rfl ⟨rfl,trivial⟩ rfl rfl rfl rfl rfl rfl ?_ ?_ ?_)
    ·rintro v ⟨hs,rfl⟩;exact⟨k,by rw [ht,hs];rfl,rfl⟩
    ·rintro k2 res H2 ⟨_,rfl,rfl,rfl⟩;exact⟨rfl,rfl⟩
    rintro k2 res H2 ⟨hs,rfl,rfl,rfl⟩
    change DS _ _ _ _ _ _ _ _
    clear w5
    have hkl:=seesT_lt hs
    rw [hs,if_pos rfl] at ht
    repeat' (first|refine z0 ?_|apply ds_nil|apply dw_seq2|refine z16 ?_|apply thenD_n)
    all_goals try (exfalso;omega)
    refine dw_ent (ent_seal 4 rfl rfl rfl) ?_
    repeat' (apply dw_ret)
    exact⟨.inl rfl,_,rfl,id,1,_,prH l (k + 1:Nat) e,rfl,⟨rfl,trivial⟩,rfl,rfl,rfl,rfl,rfl,rfl,acc++[t],_,k + 1,ht,by omega,rfl,by rw [hap],rfl⟩
def firstQ (l:List Tok) (ws:List ByteArray) (j q:Nat):Int:=firstT l j (ws.drop q) (q + 1)
theorem firstQ_step (l:List Tok) (ws:List ByteArray) (j q:Nat) (h:q < ws.length):firstQ l ws j q=if seesT l j ws[q]=true then ((q:Int) + 1) else firstQ l ws j (q + 1):=by
 unfold firstQ
 rw [List.drop_eq_getElem_cons h,firstT]
 rfl
theorem firstQ_end (l:List Tok) (ws:List ByteArray) (j q:Nat) (h:ws.length≤q):firstQ l ws j q=0:=by
 unfold firstQ
 rw [List.drop_of_length_le h]
 rfl
theorem firstQ_bound (l:List Tok) (ws:List ByteArray) (j:Nat):∀ (n q:Nat),ws.length≤q + n→0≤firstQ l ws j q∧firstQ l ws j q≤ws.length
 | 0,q,h=>by rw [firstQ_end l ws j q (by omega)];exact⟨Int.le_refl _,by omega⟩
 | n + 1,q,h=>by
  by_cases hq:q < ws.length
  ·rw [firstQ_step l ws j q hq]
   split
   ·omega
   ·exact firstQ_bound l ws j n (q + 1) (by omega)
  ·rw [firstQ_end l ws j q (by omega)];exact⟨Int.le_refl _,by omega⟩
def testT (l:List Tok) (i:Nat):PR (Int × Int × List TTm) :=
 match termT l i with
 | .error k=>.error k
 | .ok (a,k) =>
  if firstQ l opsT k 0=0 then .error k else
  match termT l (k + 1) with
  | .error m=>.error m
  | .ok (b,m) =>
   if firstQ l opsT k 0 < 5 then .ok ((3,firstQ l opsT k 0,[a,b]),m)
   else if seesT l m ⟨#[61]⟩ then
    (match termT l (m + 1) with
    | .error q=>.error q
    | .ok (c,q)=>.ok ((4,firstQ l opsT k 0,[a,b,c]),q))
   else .error m
def isTestT (l:List Tok) (j:Nat):Bool:=match l[j]? with
 | none=>true
 | some t=>decide (t.kind≠1)
def litT (l:List Tok) (e:Int) (i:Nat):PR TLt :=
 match seesT l i ⟨#[110,111,116]⟩ with
 | true=>(match nameT l (i + 1) with
  | .error k=>.error k
  | .ok (s,k)=>(match termsT l k false with
   | .error m=>.error m
   | .ok ((ts,_),m)=>.ok (⟨2,hereT l e i,0,s,ts⟩,m)))
 | false=>(match isTestT l i with
  | true=>(match testT l i with
   | .error k=>.error k
   | .ok ((kind,op,ts),k)=>.ok (⟨kind,hereT l e i,op,⟨#[]⟩,ts⟩,k))
  | false=>(match nameT l i with
   | .error k=>.error k
   | .ok (s,k)=>(match termsT l k false with
    | .error m=>.error m
    | .ok ((ts,_),m)=>.ok (⟨1,hereT l e i,0,s,ts⟩,m))))
def litsGo (l:List Tok) (e:Int):Nat→Nat→List TLt→PR (List TLt)
 | 0,i,_=>.error i
 | n + 1,i,acc=>match litT l e i with
  | .error k=>.error k
  | .ok (x,k)=>if seesT l k ⟨#[44]⟩ then litsGo l e n (k + 1) (acc++[x]) else .ok (acc++[x],k)
def ruleT (l:List Tok) (e:Int) (i:Nat):PR TRu :=
 match nameT l i with
 | .error k=>.error k
 | .ok (s,k)=>match termsT l k true with
  | .error m=>.error m
  | .ok ((ts,f),m) =>
   if f=0∧seesT l m ⟨#[46]⟩=true then .ok (⟨hereT l e i,s,ts,f,[]⟩,m + 1)
   else if seesT l m ⟨#[58,45]⟩ then
    (match litsGo l e (l.length + 1) (m + 1) [] with
    | .error q=>.error q
    | .ok (b,q)=>if seesT l q ⟨#[46]⟩ then .ok (⟨hereT l e i,s,ts,f,b⟩,q + 1) else .error q)
   else .error m
def rulesGo (l:List Tok) (e:Int):Nat→Nat→List TRu→Except Nat (List TRu)
 | 0,_,acc=>.ok acc
 | n + 1,i,acc=>if i < l.length then
   (match ruleT l e i with
   | .error k=>.error k
   | .ok (r,k)=>rulesGo l e n k (acc++[r]))
  else .ok acc
def tmOk (t:TTm):Bool:=if t.var=⟨#[]⟩ then decide (-9999999≤t.n) && decide (t.n≤9999999) else oneS 2 t.var && decide (t.n=0)
def tmsOk (l:List TTm):Bool:=l.all tmOk
def tlOk (x:TLt):Bool:=tmsOk x.terms &&
 (if x.kind=1∨x.kind=2 then decide (x.op=0) && nameS x.name
 else if x.kind=3 then decide (1≤x.op∧x.op≤4) && decide (x.name=⟨#[]⟩) && decide (x.terms.length=2)
 else if x.kind=4 then decide (5≤x.op∧x.op≤7) && decide (x.name=⟨#[]⟩) && decide (x.terms.length=3)
 else false)
def truOk (r:TRu):Bool:=nameS r.name && tmsOk r.terms && decide (0≤r.fold∧r.fold≤4) && (decide (r.fold=0) || (decide (r.terms≠[]) && decide (r.body≠[]))) && r.body.all tlOk
def muchT (r:TRu):Bool:=decide (3 < r.terms.length) || decide (4 < r.body.length) || r.body.any fun x=>decide (3 < x.terms.length)
def checkT (rs:List TRu):Int:=if 12 < rs.length∨rs.any muchT=true then 2 else if rs.all truOk=true then 0 else 1
def parseS (s:ByteArray):List TRu × Int × Int :=
 match scanS s with
 | (l,p,er)=>if er≠0 then ([],p,er) else
  match rulesGo l s.size (l.length + 1) 0 [] with
  | .error k=>([],hereT l s.size k,1)
  | .ok rs=>if checkT rs=0 then (rs,0,0) else ([],0,checkT rs)
end Go.Proofs.YtapciiffpnociabDoor
namespace Go.Proofs.YtapciiffpnociabDoor
open Go Go.RowKit
section
variable {Γ : Ctx} {l : List Oper} {κ c : Nat}
theorem enumO_app:∀ (a b:List Oper) (n:Nat),enumO n (a++b)=enumO n a++enumO (n + a.length) b
 | [],b,n=>rfl
 | o::a,b,n=>by
  rw [List.cons_append,enumO,enumO,enumO_app a b (n + 1),List.cons_append,List.length_cons,show n + 1 + a.length=n + (a.length + 1) by omega]
theorem down_spec (hdown:regDownB l=true):∀ j o,l[j]? = some o→∀ e∈o.after,Region.binds .any e=true→e.on < j:=by
 intro j o hj e he hb
 unfold regDownB at hdown
 rw [List.all_eq_true] at hdown
 have h1:=hdown (j,o) ((enumO_mem l 0 (j,o)).2 ⟨Nat.zero_le _,by simpa using hj⟩)
 rw [List.all_eq_true] at h1
 have h2:=h1 e (by simpa using he)
 simp only [hb,Bool.not_true,Bool.false_or] at h2
 exact Nat.le_of_ble_eq_true h2
theorem first_ready (hdown:regDownB l=true) {listed:Array Bool} {q:Nat × Oper} {rem':List (Nat × Oper)} (g:Going l listed (q::rem')):q.1∈Region.ready .any l.toArray listed:=by
 obtain⟨h1,h2⟩:=(g.left q).1 (List.mem_cons_self ..)
 refine mem_ready.2 ⟨h2,q.2,by simpa using h1,fun e' he hb=>?_⟩
 have hlt:=down_spec hdown q.1 q.2 h1 e' he hb
 have hln:e'.on < listed.size:=by rw [g.size];have:=lt_of_some h1;omega
 cases hx:listed.getD e'.on false with
 | true=>rfl
 | false =>
  exfalso
  have hx':listed.getD e'.on true=false:=(getD_flip hln).trans hx
  have hlen':e'.on < l.length:=by rw [← g.size];exact hln
  have hm:=(g.left (e'.on,l[e'.on])).2 ⟨by simp [hlen'],hx'⟩
  rcases List.mem_cons.1 hm with h|h
  ·have:e'.on=q.1:=by rw [← h]
   omega
  ·have:=(List.pairwise_cons.1 g.sorted).1 _ h
   simp at this
   omega
theorem dw_stopT (id:Nat) {k:Nat} {L:Sl} {H:Hp} {ops:Array Oper} {b:Bool} {Q:Post} (h:DW Γ (.region id ops b) Q k L H):DW Γ (.region id ops b) Q k L H:=h
end
end Go.Proofs.YtapciiffpnociabDoor
namespace Go.Proofs.YtapciiffpnociabDoor
open Go Go.RowKit
section
variable {Γ : Ctx} {l : List Oper} {κ c : Nat}
def headB (l:List Oper) (c:Nat):Bool:=(enumO 0 l).all fun q=>Nat.blt q.1 c || (List.range c).all fun i=>reachB l l.length q.1 i
theorem headB_spec (h:headB l c=true) {j i:Nat} {o:Oper} (hj:l[j]? = some o) (hc:c≤j) (hi:i < c):reachB l l.length j i=true:=by
 unfold headB at h
 rw [List.all_eq_true] at h
 have h1:=h (j,o) ((enumO_mem l 0 (j,o)).2 ⟨Nat.zero_le _,by simpa using hj⟩)
 rw [Bool.or_eq_true] at h1
 rcases h1 with h1|h1
 ·have:j < c:=Nat.le_of_ble_eq_true h1
  omega
 ·exact List.all_eq_true.1 h1 i (List.mem_range.2 hi)
theorem split_sim (hB:regAnyB l=true) (hT:headB l c=true) {K:FS→Prop} {Q:Exit→Act→World→Prop} (hQ:∀ s e a w listed,K s→Rep Γ (lo (κ + c)) s e a w→Going l listed (enumO c (l.drop c))→wpAny Γ.P .any l.toArray Q (l.length - c) listed a w) :
  ∀ (fuel:Nat) (listed:Array Bool) (a:Act) (w:World) (s:FS) (e:Env) (D:Nat→Prop) (rem:List (Nat × Oper)) (lg:Log),Going l listed (rem++enumO c (l.drop c))→(∀ q∈rem,q.1 < c)→rem.length=fuel→Rep Γ D s e a w →
   (∀ x,D x→x < κ + c∧∀ j,x=κ + j→listed.getD j false=true)→DR Γ l κ rem lg K s→wpAny Γ.P .any l.toArray Q (fuel + (l.length - c)) listed a w:=by
 simp only [regAnyB,Bool.and_eq_true] at hB
 obtain⟨hdown,hpair,hcall⟩:=hB
 intro fuel
 induction fuel with
 | zero =>
  intro listed a w s e D rem lg g hrc hlen hr hD hd
  have hrem:rem=[]:=List.eq_nil_of_length_eq_zero hlen
  subst hrem
  rw [Nat.zero_add]
  cases hd with
  | nil hk =>
   obtain⟨L,H,m,hs⟩:=hr
   obtain⟨e',m'⟩:=m.widenTo (k':=lo (κ + c)) fun x hx=>(hD x hx).1
   exact hQ s e' a w listed hk ⟨L,H,m',hs⟩ g
 | succ fuel ih =>
  intro listed a w s e D rem lg g hrc hlen hr hD hd
  rw [show fuel + 1 + (l.length - c)=(fuel + (l.length - c)) + 1 by omega]
  obtain⟨q0,rem0,hq0⟩:∃ q r,rem=q::r:=by
   cases rem with
   | nil=>simp at hlen
   | cons q r=>exact⟨q,r,rfl⟩
  refine⟨fun h0=>?_,fun i hi=>?_⟩
  ·exfalso
   have hg:=g
   rw [hq0,List.cons_append] at hg
   have:=first_ready hdown hg
   rw [h0] at this
   simp at this
  ·obtain⟨h1,o,ho,hall⟩:=mem_ready.1 hi
   have hio:l[i]? = some o:=by simpa using ho
   have hic:i < c:=by
    apply Classical.byContradiction
    intro hn
    have hq0c:q0.1 < c:=hrc q0 (by rw [hq0];exact List.mem_cons_self ..)
    have hrd:=reach_done g l.length i o (headB_spec hT hio (by omega) hq0c) hio hall
    have h3:=(g.left q0).1 (List.mem_append_left _ (by rw [hq0];exact List.mem_cons_self ..))
    have hs:q0.1 < listed.size:=by rw [g.size];exact lt_of_some h3.1
    have h4:=h3.2
    rw [getD_flip hs,hrd] at h4
    cases h4
   have hmem:(i,o)∈rem:=by
    rcases List.mem_append.1 ((g.left (i,o)).2 ⟨hio,h1⟩) with h|h
    ·exact h
    ·exfalso
     have:=((enumO_mem _ _ _).1 h).1
     simp only at this
     omega
   obtain⟨pre,post,hre⟩:=List.append_of_mem hmem
   have g0:=g
   rw [hre,List.append_assoc,List.cons_append] at g0
   have g':=g0.rest hi rfl hio
   rw [← List.append_assoc] at g'
   have hpull:DR Γ l κ ((i,o)::(pre++post)) lg K s:=by
    refine DR.pull pre lg s (fun q hq=>?_) (hre▸hd)
    have hqr:q∈rem++enumO c (l.drop c):=List.mem_append_left _ (by rw [hre];exact List.mem_append_left _ hq)
    obtain⟨hq1,hq2⟩:=(g.left q).1 hqr
    have hqi:q.1 < i:=by
     have hs:=g0.sorted
     rw [List.pairwise_append] at hs
     have:=hs.2.2 q hq (i,o) (List.mem_cons_self ..)
     simpa using this
    have hqs:q.1 < listed.size:=by rw [g.size];exact lt_of_some hq1
    have hq2':listed.getD q.1 false=false:=(getD_flip hqs).symm.trans hq2
    have e0:path2B l i q.1=false:=path2_false hio hall g.closed hq2'
    have e1:=path2_edge e0
    have e2:edgeB l q.1 i=false:=by
     cases hx:edgeB l q.1 i with
     | false=>rfl
     | true =>
      obtain⟨o',ho',e',he',hb',hon⟩:=edgeB_spec.1 hx
      have:=down_spec hdown q.1 o' ho' e' he' hb'
      omega
    refine⟨e0,e2,?_,fun hcq=>?_⟩
    ·unfold regPairB at hpair
     rw [List.all_eq_true] at hpair
     have p1:=hpair (i,o) ((enumO_mem l 0 (i,o)).2 ⟨Nat.zero_le _,by simpa using hio⟩)
     rw [List.all_eq_true] at p1
     have p2:=p1 q ((enumO_mem l 0 q).2 ⟨Nat.zero_le _,by simpa using hq1⟩)
     have hnb:Nat.ble i q.1=false:=by
      cases hb:Nat.ble i q.1 with
      | false=>rfl
      | true=>have:=Nat.le_of_ble_eq_true hb;omega
     simp only [hnb,Bool.false_or,e1] at p2
     exact p2
    ·cases hci:isCall o with
     | false=>rfl
     | true =>
      have:=calls_done g hcall hq1 hcq i o hio hci hqi hall
      rw [hq2'] at this
      cases this
   cases hpull with
   | cons cc S rd wr hm hl hne hn hk =>
    have hz:¬ D (κ + i):=by
     intro hx
     have:=(hD _ hx).2 i rfl
     have hin:i < listed.size:=by rw [g.size];exact lt_of_some hio
     rw [← getD_flip hin,h1] at this
     cases this
    refine Mv.sound hm hr ⟨κ + c,fun x hx=>(hD x hx).1⟩ hz hio Q _ fun v u a' w' e' hv hr'=>?_
    refine ih (listed.setIfInBounds i true) a' w' _ e' _ (pre++post) _ g' (fun q hq=>hrc q ?_) ?_ hr' (fun x hx=>?_) (hk v u hv)
    ·rw [hre];rcases List.mem_append.1 hq with h|h <;> simp [h]
    ·rw [hre] at hlen
     simp only [List.length_append,List.length_cons] at hlen ⊢
     omega
    ·have hin:i < listed.size:=by rw [g.size];exact lt_of_some hio
     rcases hx with hx|hx
     ·refine⟨(hD x hx).1,fun j hj=>?_⟩
      have:=(hD x hx).2 j hj
      by_cases hij:i=j
      ·subst hij;simp [hin]
      ·rw [getD_set_ne false hij];exact this
     ·subst hx
      refine⟨by omega,fun j hj=>?_⟩
      have:i=j:=by omega
      subst this
      simp [hin]
theorem dw_split {id k m:Nat} {L:Sl} {H:Hp} {Q:Post} (c:Nat) (hm:Γ.P.follows .mixedOrders=true) (hB:regAnyB l=true) (hT:headB l c=true) (hcl:Nat.ble c l.length=true) (hnd:noDefer l=true) (hl:lenIs (l.take c) k m)
  (h:DT Γ l k (enumO 0 (l.take c)) [] (endK Γ m (fun k' L' H'=>∃ (k2:Nat) (L2:Sl) (H2:Hp) (m2:Nat),Ent Γ k' L' H' k2 L2 H2∧lenIs l k2 m2∧DT Γ l k2 (enumO c (l.drop c)) [] (endK Γ m2 (Q .normal)) L2 H2)) L H):DW Γ (.region id l.toArray true) Q k L H:=by
 have hcl:=Nat.le_of_ble_eq_true hcl
 have hmc:k + c=m:=by
  have:=lenIs_spec (l.take c) k m hl
  rw [List.length_take] at this
  omega
 subst hmc
 intro e a w mm
 refine wpIn_mono (wpIn_region_any hm (wpAny_in (letsOut_lift (Γ:=Γ) (K:=Q .normal)) hnd _ _ _ _ ?_)) (lift_mono (fun ex k' L' H' (⟨h1,h2⟩:onNormal (Q .normal) ex k' L' H')=>h1▸h2))
 have m0:=mm.below (w':={ w with drawn:=w.drawn + 1 }) ((Beld.refl _ _ _).drew)
 have hsp:enumO 0 (l.take c)++enumO c (l.drop c)=enumO 0 l:=by
  have:=enumO_app (l.take c) (l.drop c) 0
  rw [List.take_append_drop,List.length_take,Nat.zero_add,Nat.min_eq_left hcl] at this
  exact this.symm
 have hg:Going l (Array.replicate l.length false) (enumO 0 l):=by
  refine⟨by simp,fun j o hj hl=>?_,fun q=>?_,enumO_sorted l 0⟩
  ·have hlt:=lt_of_some hj
   simp [hlt] at hl
  ·rw [enumO_mem l 0 q]
   simp only [Nat.zero_le,Nat.sub_zero,true_and]
   constructor
   ·intro hq;exact⟨hq,by have:=lt_of_some hq;simp [this]⟩
   ·exact fun h=>h.1
 have hlenO:∀ (l:List Oper) b,(enumO b l).length=l.length:=by
  intro l
  induction l with
  | nil=>intro b;rfl
  | cons o l ih=>intro b;simp [enumO,ih]
 have hsize:l.toArray.size=c + (l.length - c):=by simp;omega
 rw [hsize]
 refine split_sim hB hT (K:=endK Γ (k + c) (fun k' L' H'=>∃ (k2:Nat) (L2:Sl) (H2:Hp) (m2:Nat),Ent Γ k' L' H' k2 L2 H2∧lenIs l k2 m2∧DT Γ l k2 (enumO c (l.drop c)) [] (endK Γ m2 (Q .normal)) L2 H2)) (Q:=lift Γ (onNormal (Q .normal))) (fun s e a w listed hk hr g=>?_) c _ a _ (ofL L H) e (lo k) (enumO 0 (l.take c)) [] (by rw [hsp,← hsize];simpa using hg) (fun q hq=>?_) (by rw [hlenO,List.length_take];omega) ⟨L,H,m0,rfl⟩ (fun x hx=>⟨Nat.lt_of_lt_of_le hx (Nat.le_add_right _ _),fun j hj=>?_⟩) h
 ·obtain⟨k0,L0,H0,e0,m0',k',L',H',m2,hent,hl2,hq⟩:=hk e a w hr
  obtain⟨e',m'⟩:=hent e0 a w m0'
  have hl3:=lenIs_spec l k' m2 hl2
  refine any_sim hB (K:=endK Γ m2 (Q .normal)) (κ:=k') (fun s e a w hk hr=>?_) (l.length - c) listed a w (ofL L' H') e' (lo k') _ [] g (by rw [hlenO,List.length_drop]) ⟨L',H',m',rfl⟩ (fun x hx=>?_) hq
  ·obtain⟨k2,L2,H2,e2,m3,hq2⟩:=hk e a w (hl3▸hr)
   exact .inl ⟨k2,L2,H2,e2,m3,rfl,hq2⟩
  ·have hx:x < k':=hx
   exact⟨by omega,fun j hj=>by omega⟩
 ·have h2:=((enumO_mem _ _ _).1 hq).2
  have:=lt_of_some h2
  rw [List.length_take] at this
  omega
 ·have:x < k:=hx
  omega
end
abbrev tlB (kind at_ op:Int) (name:ByteArray) (ts:SV):HB:=.blk 43 [.d (.int .i64 kind),.d (.int .i64 at_),.d (.int .i64 op),.d (.str name),ts]
abbrev prB (l:List Tok) (i:Nat) (e:Int):HB:=.blk 81 [.d (.slice 3 (l.map encTok)),.d (.int .i64 i),.d (.int .i64 e)]
attribute [local irreducible] DW DS DL DQ Ev FnOk FnP FnOkE thenD inBlockD
set_option maxHeartbeats 8000000 in
theorem ptest_fn (l:List Tok) (i:Nat) (e a:Int) (hi:i≤l.length) (hl:l.length≤900000) (hok:l.all tokOk=true):FnOkE false Tryd.prog tab tab_ok 103 [.loc 0 0,.loc 1 0] 2 2 [(0,prB l i e),(1,tlB 1 a 0 ⟨#[]⟩ .nils)] (fun k r H=>∃ kd op ts j,testT l i = .ok ((kd,op,ts),j)∧j≤l.length∧k=2∧r = .tup []∧H=[(0,prB l j e),(1,tlB kd a op ⟨#[]⟩ (.d (.slice 2 (ts.map encTTm))))]) (fun v=>∃ j,testT l i = .error j∧v=plV (hereT l e j)):=by
 refine fn_enterRE _ Tryd.func103 rfl rfl (by kernel_rfl) ?_
 intro O w0 E0 β0
 have ll:(l.map encTok).length=l.length:=List.length_map _
 refine dw_ent (ent_cellrow 1 4 75 2 rfl rfl rfl) ?_
 have w1:=pterm_fn l i e (by omega) hok
 unfold testT
 repeat' (first|refine z0 ?_|apply dw_seq2|refine z16 ?_|fail)
 (refine ds_callE id (w1) rfl rfl rfl rfl ⟨rfl,trivial⟩ rfl rfl rfl rfl rfl rfl ?_ ?_ ?_)
 ·rintro v ⟨k,hk,rfl⟩;exact⟨k,by rw [hk],rfl⟩
 ·rintro k2 res H2 ⟨t,k,_,_,rfl,rfl,rfl⟩;exact⟨rfl,rfl⟩
 rintro k2 res H2 ⟨t,k,hk,_,rfl,rfl,rfl⟩
 change DS _ _ _ _ _ _ _ _
 clear w1
 rw [hk]
 dsimp only
 obtain⟨hk1,hk2⟩:=termT_lt hk
 repeat' ((fail_if_success (apply dw_stopR 2));(first|apply ds_nil|refine z5 ?_|refine z6 ?_|refine z9 ?_|refine z11 ?_|apply dw_seq2|refine z20 ?_|apply thenD_n|refine z1 ?_|refine z3 ?_|fail))
 obtain⟨op,hop⟩:∃ op,op=firstQ l opsT k 0:=⟨_,rfl⟩
 obtain⟨ob1,ob2⟩:=firstQ_bound l opsT k 7 0 (Nat.le_refl _)
 rw [← hop] at ob1 ob2 ⊢
 have ob2:op≤7:=ob2
 obtain⟨jf,hjf⟩:∃ jf:Nat,jf=if op≠0 then k + 1 else k:=⟨_,rfl⟩
 refine dw_cut (ι:=Unit) (fun _=>⟨3,[(0,.loc 0 0),(1,.loc 1 0)],[(0,prB l jf e),(1,tlB 1 a op ⟨#[]⟩ (.row 2)),(2,.row 75 2 [encTTm t])]⟩) (fun _=>jf≤l.length) ?_ ?_
 ·repeat' (first|refine z0 ?_|apply ds_nil|apply dw_seq2|refine z16 ?_|apply dw_block|apply thenD_n|refine z4 ?_|fail)
  refine ds_loop (ι:=Nat) (fun q=>⟨3,[(0,.loc 0 0),(1,.loc 1 0),(21,.d (.slice 1 (opsT.map encT))),(22,.d (.int .i64 7)),(23,.d (.int .i64 q))],[(0,prB l k e),(1,tlB 1 a 0 ⟨#[]⟩ (.row 2)),(2,.row 75 2 [encTTm t])]⟩)
   (fun q=>q≤7∧op=firstQ l opsT k q) (fun q=>7 - q) 0 ⟨by omega,hop⟩ (ent_ren (fun x=>match x with|0=>0|1=>1|_=>_) ⟨rfl,rfl,rfl,rfl,rfl,trivial⟩ ⟨rfl,rfl,rfl,trivial⟩ rfl rfl rfl rfl rfl rfl) ?_
  rintro q ⟨hq,hfq⟩
  dsimp only at hq hfq ⊢
  have lf:(opsT.map encT).length=7:=rfl
  by_cases hq7:q < 7
  ·have hql:q < opsT.length:=hq7
   rw [firstQ_step l opsT k q hql] at hfq
   have w2:=ptake_fn l k e opsT[q] (by omega)
   repeat' (first|refine z0 ?_|apply ds_nil|apply dw_seq2|refine z16 ?_|apply dw_block|apply dw_skip|apply dw_exit|apply thenD_n|apply thenD_e|refine z17 ?_|(refine z23 ?_ ?_ <;> intro hg)|fail)
   all_goals try (exfalso;omega)
   (refine ds_callF id (w2) rfl rfl rfl rfl ⟨rfl,trivial⟩ rfl rfl rfl rfl rfl rfl ?_ ?_)
   ·rintro k2 res H2 ⟨rfl,rfl,rfl⟩;exact⟨rfl,rfl⟩
   rintro k2 res H2 ⟨rfl,rfl,rfl⟩
   change DS _ _ _ _ _ _ _ _
   clear w2
   cases hsq:seesT l k opsT[q] with
   | true =>
    rw [hsq,if_pos rfl,Int.add_comm] at hfq
    rw [if_pos (by omega)] at hjf
    subst hjf
    have hjl:=seesT_lt hsq
    clear hop
    subst hfq
    repeat' (first|refine z0 ?_|apply ds_nil|apply dw_seq2|refine z16 ?_|apply dw_exit|refine z18 ?_|apply thenD_n|apply thenD_e|refine z17 ?_|(apply inB_x;exact rfl)|refine z3 ?_|fail)
    all_goals try (exfalso;omega)
    exact⟨(),by omega,ent_ren id ⟨rfl,rfl,trivial⟩ ⟨rfl,rfl,rfl,trivial⟩ rfl rfl rfl rfl rfl rfl⟩
   | false =>
    rw [hsq,if_neg (by simp)] at hfq
    repeat' (first|refine z0 ?_|apply ds_nil|refine z16 ?_|apply dw_skip|refine z19 ?_|apply thenD_n|apply inB_n)
    all_goals try (exfalso;omega)
    exact⟨q + 1,⟨by omega,hfq⟩,ent_ren id ⟨rfl,rfl,rfl,rfl,rfl,trivial⟩ ⟨rfl,rfl,rfl,trivial⟩ rfl rfl rfl rfl rfl rfl,by show 7 - (q + 1) < 7 - q;omega⟩
  ·rw [firstQ_end l opsT k q (by show 7≤q;omega)] at hfq
   rw [if_neg (by omega)] at hjf
   subst hjf
   clear hop
   subst hfq
   repeat' (first|refine z0 ?_|apply ds_nil|apply dw_seq2|refine z16 ?_|apply dw_block|apply dw_skip|apply dw_exit|apply thenD_n|apply thenD_e|refine z17 ?_|(refine z23 ?_ ?_ <;> intro hg)|fail)
   all_goals try (exfalso;omega)
   exact⟨(),by omega,ent_ren id ⟨rfl,rfl,trivial⟩ ⟨rfl,rfl,rfl,trivial⟩ rfl rfl rfl rfl rfl rfl⟩
 ·intro _ hjl
  clear hop
  by_cases h0:op=0
  ·subst h0
   rw [if_neg (by simp)] at hjf
   subst hjf
   rw [if_pos rfl]
   have w2:=fail_fn l jf e
   repeat' (first|refine z0 ?_|apply ds_nil|apply dw_seq2|refine z16 ?_|refine z18 ?_|apply thenD_n)
   all_goals try (exfalso;omega)
   (refine ds_callE id (w2) rfl rfl rfl rfl ⟨rfl,trivial⟩ rfl rfl rfl rfl rfl rfl ?_ ?_ ?_)
   ·rintro v rfl;exact⟨_,rfl,rfl⟩
   ·rintro _ _ _ h;exact h.elim
   ·rintro _ _ _ h;exact h.elim
  ·rw [if_pos h0] at hjf
   subst hjf
   rw [if_neg h0]
   have w3:=pterm_fn l (k + 1) e (by omega) hok
   repeat' (first|refine z0 ?_|apply ds_nil|apply dw_seq2|refine z16 ?_|apply dw_skip|apply thenD_n|(refine z23 ?_ ?_ <;> intro hg)|fail)
   all_goals try (exfalso;omega)
   (refine ds_callE id (w3) rfl rfl rfl rfl ⟨rfl,trivial⟩ rfl rfl rfl rfl rfl rfl ?_ ?_ ?_)
   ·rintro v ⟨m,hm,rfl⟩;exact⟨m,by rw [hm],rfl⟩
   ·rintro k2 res H2 ⟨t,m,_,_,rfl,rfl,rfl⟩;exact⟨rfl,rfl⟩
   rintro k2 res H2 ⟨t2,m,hm,_,rfl,rfl,rfl⟩
   change DS _ _ _ _ _ _ _ _
   clear w3
   rw [hm]
   dsimp only
   obtain⟨hm1,hm2⟩:=termT_lt hm
   by_cases h5:op < 5
   ·rw [if_pos h5]
    repeat' ((fail_if_success (apply dw_stopS 13));(fail_if_success (apply dw_stopR 13));(first|refine z0 ?_|apply ds_nil|refine z5 ?_|refine z6 ?_|refine z9 ?_|refine z11 ?_|apply dw_seq2|refine z16 ?_|refine z20 ?_|apply thenD_n|refine z1 ?_|refine z3 ?_|fail))
    all_goals try (exfalso;omega)
    refine dw_ent (ent_cellseal 1 4 12 rfl rfl rfl rfl rfl) ?_
    repeat' (first|refine z0 ?_|apply ds_nil|apply dw_seq2|refine z16 ?_|apply dw_skip|apply thenD_n|refine z3 ?_|(refine z23 ?_ ?_ <;> intro hg)|fail)
    all_goals try (exfalso;omega)
    exact⟨.inr rfl,_,rfl,id,2,_,[(0,prB l m e),(1,tlB 3 a op ⟨#[]⟩ (.d (.slice 2 ([t,t2].map encTTm))))],rfl,⟨rfl,rfl,trivial⟩,rfl,rfl,rfl,rfl,rfl,rfl,3,op,[t,t2],m,rfl,by omega,rfl,rfl,rfl⟩
   ·rw [if_neg h5]
    have w4:=need_fn l m e ⟨#[61]⟩ (by omega)
    repeat' (first|refine z0 ?_|apply ds_nil|refine z5 ?_|refine z6 ?_|refine z9 ?_|refine z11 ?_|apply dw_seq2|refine z16 ?_|refine z20 ?_|apply dw_skip|apply thenD_n|refine z1 ?_|refine z3 ?_|(refine z23 ?_ ?_ <;> intro hg)|fail)
    all_goals try (exfalso;omega)
    (refine ds_callE id (w4) rfl rfl rfl rfl ⟨rfl,trivial⟩ rfl rfl rfl rfl rfl rfl ?_ ?_ ?_)
    ·rintro v ⟨hs,rfl⟩;exact⟨m,by rw [hs];rfl,rfl⟩
    ·rintro k2 res H2 ⟨_,rfl,rfl,rfl⟩;exact⟨rfl,rfl⟩
    rintro k2 res H2 ⟨hs,rfl,rfl,rfl⟩
    change DS _ _ _ _ _ _ _ _
    clear w4
    have hml:=seesT_lt hs
    rw [hs,if_pos rfl]
    have w5:=pterm_fn l (m + 1) e (by omega) hok
    repeat' (first|refine z0 ?_|apply ds_nil|apply dw_seq2|refine z16 ?_|apply thenD_n)
    all_goals try (exfalso;omega)
    (refine ds_callE id (w5) rfl rfl rfl rfl ⟨rfl,trivial⟩ rfl rfl rfl rfl rfl rfl ?_ ?_ ?_)
    ·rintro v ⟨q,hq,rfl⟩;exact⟨q,by rw [hq],rfl⟩
    ·rintro k2 res H2 ⟨t,m,_,_,rfl,rfl,rfl⟩;exact⟨rfl,rfl⟩
    rintro k2 res H2 ⟨t3,q,hq,_,rfl,rfl,rfl⟩
    change DS _ _ _ _ _ _ _ _
    clear w5
    rw [hq]
    dsimp only
    obtain⟨hq1,hq2⟩:=termT_lt hq
    repeat' ((fail_if_success (apply dw_stopT 17));(first|apply ds_nil|apply thenD_n|refine z1 ?_|refine z3 ?_|fail))
    all_goals try (exfalso;omega)
    refine dw_split 11 (by kernel_rfl) (by kernel_rfl) (by kernel_rfl) rfl rfl rfl ?_
    repeat' (first|refine z5 ?_|refine z6 ?_|refine z9 ?_|refine z11 ?_|fail)
    refine⟨_,_,_,_,ent_cellseal 1 4 26 rfl rfl rfl rfl rfl,rfl,?_⟩
    repeat' refine z10 ?_
    exact⟨.inr rfl,_,rfl,id,2,_,[(0,prB l q e),(1,tlB 4 a op ⟨#[]⟩ (.d (.slice 2 ([t,t2,t3].map encTTm))))],rfl,⟨rfl,rfl,trivial⟩,rfl,rfl,rfl,rfl,rfl,rfl,4,op,[t,t2,t3],q,rfl,by omega,rfl,rfl,rfl⟩
theorem testT_lt {l:List Tok} {i j:Nat} {x:Int × Int × List TTm} (h:testT l i = .ok (x,j)):i < j∧j≤l.length:=by
 unfold testT at h
 cases h1:termT l i with
 | error k=>rw [h1] at h;cases h
 | ok p =>
  obtain⟨a,k⟩:=p
  rw [h1] at h
  dsimp only at h
  obtain⟨k1,k2⟩:=termT_lt h1
  split at h
  ·cases h
  cases h2:termT l (k + 1) with
  | error k=>rw [h2] at h;cases h
  | ok p =>
   obtain⟨b,m⟩:=p
   rw [h2] at h
   dsimp only at h
   obtain⟨m1,m2⟩:=termT_lt h2
   split at h
   ·injection h with h;injection h with h3 h4;omega
   split at h
   ·cases h3:termT l (m + 1) with
    | error k=>rw [h3] at h;cases h
    | ok p =>
     obtain⟨c,q⟩:=p
     rw [h3] at h
     dsimp only at h
     obtain⟨q1,q2⟩:=termT_lt h3
     injection h with h;injection h with h3 h4;omega
   ·cases h
theorem nameT_lt {l:List Tok} {i j:Nat} {s:ByteArray} (h:nameT l i = .ok (s,j)):j=i + 1∧j≤l.length:=by
 unfold nameT at h
 by_cases hl:i < l.length
 ·rw [List.getElem?_eq_getElem hl] at h
  dsimp only at h
  split at h
  ·injection h with h;injection h with h1 h2;omega
  ·cases h
 ·rw [List.getElem?_eq_none (by omega)] at h;cases h
theorem termsGo_lt {l:List Tok} {head:Bool}:∀ (n i:Nat) (acc:List TTm) {x:List TTm × Int} {j:Nat},termsGo l head n i acc = .ok (x,j)→i < j∧j≤l.length
 | 0,_,_,_,_,h=>by cases h
 | n + 1,i,acc,x,j,h=>by
  rw [termsGo_succ] at h
  generalize foldT l head i 0=f at h
  cases h1:termT l (if f≠0 then i + 1 else i) with
  | error k=>rw [h1] at h;cases h
  | ok p =>
   obtain⟨a,k⟩:=p
   rw [h1] at h
   dsimp only at h
   obtain⟨k1,k2⟩:=termT_lt h1
   have hik:i < k:=by split at k1 <;> omega
   split at h
   ·split at h
    ·rename_i hs
     have:=seesT_lt hs
     injection h with h;injection h with h3 h4;omega
    ·cases h
   ·have:=termsGo_lt n (k + 1) _ h
    omega
theorem termsT_lt {l:List Tok} {head:Bool} {i j:Nat} {x:List TTm × Int} (h:termsT l i head = .ok (x,j)):i < j∧j≤l.length:=by
 unfold termsT at h
 split at h
 ·split at h
  ·rename_i hs
   have:=seesT_lt hs
   injection h with h;injection h with h3 h4;omega
  ·have:=termsGo_lt _ _ _ h;omega
 ·cases h
theorem litT_lt {l:List Tok} {e:Int} {i j:Nat} {x:TLt} (h:litT l e i = .ok (x,j)):i < j∧j≤l.length:=by
 have nm:∀ (q:Nat) (kd:Int),(match nameT l q with
   | .error k=>(.error k:PR TLt)
   | .ok (s,k)=>(match termsT l k false with
    | .error m=>.error m
    | .ok ((ts,_),m)=>.ok (⟨kd,hereT l e i,0,s,ts⟩,m))) = .ok (x,j)→q < j∧j≤l.length:=by
  intro q kd hq
  cases h1:nameT l q with
  | error k=>rw [h1] at hq;cases hq
  | ok p =>
   obtain⟨a,k⟩:=p
   rw [h1] at hq
   dsimp only at hq
   have:=nameT_lt h1
   cases h2:termsT l k false with
   | error k=>rw [h2] at hq;cases hq
   | ok p =>
    obtain⟨⟨b,f⟩,m⟩:=p
    rw [h2] at hq
    dsimp only at hq
    have:=termsT_lt h2
    injection hq with hq;injection hq with h3 h4;omega
 unfold litT at h
 split at h
 ·have:=nm (i + 1) 2 h;omega
 ·split at h
  ·cases h1:testT l i with
   | error k=>rw [h1] at h;cases h
   | ok p =>
    obtain⟨⟨a,b,c⟩,k⟩:=p
    rw [h1] at h
    dsimp only at h
    have:=testT_lt h1
    injection h with h;injection h with h3 h4;omega
  ·have:=nm i 1 h;omega
theorem litsGo_succ (l:List Tok) (e:Int) (n i:Nat) (acc:List TLt):litsGo l e (n + 1) i acc=match litT l e i with
  | .error k=>.error k
  | .ok (x,k)=>if seesT l k ⟨#[44]⟩ then litsGo l e n (k + 1) (acc++[x]) else .ok (acc++[x],k):=rfl
theorem rulesGo_succ (l:List Tok) (e:Int) (n i:Nat) (acc:List TRu):rulesGo l e (n + 1) i acc=if i < l.length then
   (match ruleT l e i with
   | .error k=>.error k
   | .ok (r,k)=>rulesGo l e n k (acc++[r]))
  else .ok acc:=rfl
theorem litsGo_lt {l:List Tok} {e:Int}:∀ (n i:Nat) (acc:List TLt) {x:List TLt} {j:Nat},litsGo l e n i acc = .ok (x,j)→i < j∧j≤l.length
 | 0,_,_,_,_,h=>by cases h
 | n + 1,i,acc,x,j,h=>by
  unfold litsGo at h
  cases h1:litT l e i with
  | error k=>rw [h1] at h;cases h
  | ok p =>
   obtain⟨a,k⟩:=p
   rw [h1] at h
   dsimp only at h
   have:=litT_lt h1
   split at h
   ·have:=litsGo_lt n (k + 1) _ h;omega
   ·injection h with h;injection h with h3 h4;omega
theorem ruleT_lt {l:List Tok} {e:Int} {i j:Nat} {x:TRu} (h:ruleT l e i = .ok (x,j)):i < j∧j≤l.length:=by
 unfold ruleT at h
 cases h1:nameT l i with
 | error k=>rw [h1] at h;cases h
 | ok p =>
  obtain⟨s,k⟩:=p
  rw [h1] at h
  dsimp only at h
  have:=nameT_lt h1
  cases h2:termsT l k true with
  | error k=>rw [h2] at h;cases h
  | ok p =>
   obtain⟨⟨ts,f⟩,m⟩:=p
   rw [h2] at h
   dsimp only at h
   have:=termsT_lt h2
   split at h
   ·rename_i hs
    have:=seesT_lt hs.2
    injection h with h;injection h with h3 h4;omega
   ·split at h
    ·cases h3:litsGo l e (l.length + 1) (m + 1) [] with
     | error k=>rw [h3] at h;cases h
     | ok p =>
      obtain⟨b,q⟩:=p
      rw [h3] at h
      dsimp only at h
      have:=litsGo_lt _ _ _ h3
      split at h
      ·rename_i hs
       have:=seesT_lt hs
       injection h with h;injection h with h3 h4;omega
      ·cases h
    ·cases h
abbrev tlV (x:TLt):SV:=.agg [.d (.int .i64 x.kind),.d (.int .i64 x.at_),.d (.int .i64 x.op),.d (.str x.name),.d (.slice 2 (x.terms.map encTTm))]
set_option maxHeartbeats 8000000 in
theorem plit_fn (l:List Tok) (i:Nat) (e:Int) (hi:i≤l.length) (hl:l.length≤900000) (hok:l.all tokOk=true):FnOkE false Tryd.prog tab tab_ok 90 [.loc 0 0] 1 1 (prH l i e) (fun k r H=>∃ x j,litT l e i = .ok (x,j)∧k=1∧r=tlV x∧H=prH l j e) (fun v=>∃ j,litT l e i = .error j∧v=plV (hereT l e j)):=by
 refine fn_enterRE _ Tryd.func90 rfl rfl (by kernel_rfl) ?_
 intro O w0 E0 β0
 have ll:(l.map encTok).length=l.length:=List.length_map _
 have w0:=here_fn l i e
 repeat' (first|refine z0 ?_|apply ds_nil|apply dw_seq2|refine z16 ?_|apply thenD_n|refine z1 ?_|fail)
 (refine ds_callF id (w0) rfl rfl rfl rfl ⟨rfl,trivial⟩ rfl rfl rfl rfl rfl rfl ?_ ?_)
 ·rintro k2 res H2 ⟨rfl,rfl,rfl⟩;exact⟨rfl,rfl⟩
 rintro k2 res H2 ⟨rfl,rfl,rfl⟩
 change DS _ _ _ _ _ _ _ _
 clear w0
 have w1:=ptake_fn l i e ⟨#[110,111,116]⟩ (by omega)
 repeat' (first|refine z0 ?_|apply ds_nil|apply dw_seq2|refine z16 ?_|apply thenD_n|refine z1 ?_|refine z3 ?_|fail)
 (refine ds_callF id (w1) rfl rfl rfl rfl ⟨rfl,trivial⟩ rfl rfl rfl rfl rfl rfl ?_ ?_)
 ·rintro k2 res H2 ⟨rfl,rfl,rfl⟩;exact⟨rfl,rfl⟩
 rintro k2 res H2 ⟨rfl,rfl,rfl⟩
 change DS _ _ _ _ _ _ _ _
 clear w1
 unfold litT
 cases hn:seesT l i ⟨#[110,111,116]⟩ with
 | true =>
  have:=seesT_lt hn
  have w2:=pname_fn l (i + 1) e (by omega)
  dsimp only
  repeat' (first|refine z0 ?_|apply ds_nil|refine z5 ?_|refine z14 ?_|refine z10 ?_|apply dw_seq2|refine z16 ?_|refine z20 ?_|apply dw_skip|refine z18 ?_|refine z19 ?_|apply thenD_n|refine z3 ?_|fail)
  all_goals try (exfalso;omega)
  (refine ds_callE id (w2) rfl rfl rfl rfl ⟨rfl,trivial⟩ rfl rfl rfl rfl rfl rfl ?_ ?_ ?_)
  ·rintro v ⟨h,rfl⟩;exact⟨_,by rw [h],rfl⟩
  ·rintro k2 res H2 ⟨s,_,rfl,rfl,rfl⟩;exact⟨rfl,rfl⟩
  rintro k2 res H2 ⟨s,h2,rfl,rfl,rfl⟩
  change DS _ _ _ _ _ _ _ _
  clear w2
  rw [h2]
  dsimp only
  obtain⟨_,h2l⟩:=nameT_lt h2
  have w3:=pterms_fn l (i + 1 + 1) e false (by omega) hl hok
  repeat' (first|refine z0 ?_|apply ds_nil|apply dw_seq2|refine z16 ?_|apply thenD_n|refine z3 ?_|fail)
  all_goals try (exfalso;omega)
  (refine ds_callE id (w3) rfl rfl rfl rfl ⟨rfl,trivial⟩ rfl rfl rfl rfl rfl rfl ?_ ?_ ?_)
  ·rintro v ⟨m,h,rfl⟩;exact⟨m,by rw [h],rfl⟩
  ·rintro k2 res H2 ⟨x,f,j,_,_,rfl,rfl,rfl⟩;exact⟨rfl,rfl⟩
  rintro k2 res H2 ⟨x,f,j,h3,h3l,rfl,rfl,rfl⟩
  change DS _ _ _ _ _ _ _ _
  clear w3
  rw [h3]
  dsimp only
  repeat' (first|refine z0 ?_|apply ds_nil|apply dw_seq2|refine z16 ?_|apply dw_ret|apply thenD_n|refine z3 ?_|fail)
  all_goals try (exfalso;omega)
  exact⟨.inl rfl,_,rfl,id,1,_,prH l j e,rfl,⟨rfl,trivial⟩,rfl,rfl,rfl,rfl,rfl,rfl,⟨2,hereT l e i,0,s,x⟩,j,rfl,rfl,rfl,rfl⟩
 | false =>
  dsimp only
  by_cases hil:i < l.length
  ·by_cases hk:l[i].kind=1
   ·have ht:isTestT l i=false:=by unfold isTestT;rw [List.getElem?_eq_getElem hil];exact decide_eq_false (by omega)
    rw [ht]
    have w2:=pname_fn l (i) e (by omega)
    dsimp only
    repeat' (first|refine z0 ?_|apply ds_nil|refine z5 ?_|refine z14 ?_|refine z10 ?_|apply dw_seq2|refine z16 ?_|refine z20 ?_|apply dw_skip|refine z18 ?_|refine z19 ?_|apply thenD_n|(refine z23 ?_ ?_ <;> intro hg)|((fail_if_success (apply dt_known;exact rfl));apply dt_guardP;exact rfl;exact rfl;exact rfl;all_goals intro hg))
    all_goals try (exfalso;omega)
    (refine ds_callE id (w2) rfl rfl rfl rfl ⟨rfl,trivial⟩ rfl rfl rfl rfl rfl rfl ?_ ?_ ?_)
    ·rintro v ⟨h,rfl⟩;exact⟨_,by rw [h],rfl⟩
    ·rintro k2 res H2 ⟨s,_,rfl,rfl,rfl⟩;exact⟨rfl,rfl⟩
    rintro k2 res H2 ⟨s,h2,rfl,rfl,rfl⟩
    change DS _ _ _ _ _ _ _ _
    clear w2
    rw [h2]
    dsimp only
    obtain⟨_,h2l⟩:=nameT_lt h2
    have w3:=pterms_fn l (i + 1) e false (by omega) hl hok
    repeat' (first|refine z0 ?_|apply ds_nil|apply dw_seq2|refine z16 ?_|apply thenD_n|refine z3 ?_|fail)
    all_goals try (exfalso;omega)
    (refine ds_callE id (w3) rfl rfl rfl rfl ⟨rfl,trivial⟩ rfl rfl rfl rfl rfl rfl ?_ ?_ ?_)
    ·rintro v ⟨m,h,rfl⟩;exact⟨m,by rw [h],rfl⟩
    ·rintro k2 res H2 ⟨x,f,j,_,_,rfl,rfl,rfl⟩;exact⟨rfl,rfl⟩
    rintro k2 res H2 ⟨x,f,j,h3,h3l,rfl,rfl,rfl⟩
    change DS _ _ _ _ _ _ _ _
    clear w3
    rw [h3]
    dsimp only
    repeat' (first|refine z0 ?_|apply ds_nil|apply dw_seq2|refine z16 ?_|apply dw_ret|apply thenD_n|refine z3 ?_|fail)
    all_goals try (exfalso;omega)
    exact⟨.inl rfl,_,rfl,id,1,_,prH l j e,rfl,⟨rfl,trivial⟩,rfl,rfl,rfl,rfl,rfl,rfl,⟨1,hereT l e i,0,s,x⟩,j,rfl,rfl,rfl,rfl⟩
   ·have ht:isTestT l i=true:=by unfold isTestT;rw [List.getElem?_eq_getElem hil];exact decide_eq_true (by omega)
    rw [ht]
    have w4:=ptest_fn l i e (hereT l e i) hi hl hok
    dsimp only
    repeat' (first|refine z0 ?_|apply ds_nil|refine z5 ?_|refine z14 ?_|refine z10 ?_|apply dw_seq2|refine z16 ?_|refine z20 ?_|apply dw_skip|refine z18 ?_|refine z19 ?_|apply thenD_n|(refine z23 ?_ ?_ <;> intro hg)|((fail_if_success (apply dt_known;exact rfl));apply dt_guardP;exact rfl;exact rfl;exact rfl;all_goals intro hg))
    all_goals try (exfalso;omega)
    refine ds_callE (fun x=>match x with|0=>0|_=>2) w4 rfl rfl rfl rfl ⟨rfl,rfl,trivial⟩ rfl rfl rfl rfl rfl rfl ?_ ?_ ?_
    ·rintro v ⟨m,h,rfl⟩;exact⟨m,by rw [h],rfl⟩
    ·rintro k2 res H2 ⟨kd,op,ts,j,_,_,rfl,rfl,rfl⟩;exact⟨rfl,rfl⟩
    rintro k2 res H2 ⟨kd,op,ts,j,h4,h4l,rfl,rfl,rfl⟩
    change DS _ _ _ _ _ _ _ _
    clear w4
    rw [h4]
    dsimp only
    repeat' (first|refine z0 ?_|apply ds_nil|apply dw_seq2|refine z16 ?_|apply dw_ret|apply thenD_n|apply thenD_r|refine z3 ?_|fail)
    all_goals try (exfalso;omega)
    exact⟨.inl rfl,_,rfl,id,1,_,prH l j e,rfl,⟨rfl,trivial⟩,rfl,rfl,rfl,rfl,rfl,rfl,⟨kd,hereT l e i,op,⟨#[]⟩,ts⟩,j,rfl,rfl,rfl,rfl⟩
  ·have ht:isTestT l i=true:=by unfold isTestT;rw [List.getElem?_eq_none (by omega)]
   rw [ht]
   have w4:=ptest_fn l i e (hereT l e i) hi hl hok
   dsimp only
   repeat' (first|refine z0 ?_|apply ds_nil|refine z5 ?_|refine z14 ?_|refine z10 ?_|apply dw_seq2|refine z16 ?_|refine z20 ?_|apply dw_skip|refine z18 ?_|refine z19 ?_|apply thenD_n|(refine z23 ?_ ?_ <;> intro hg)|((fail_if_success (apply dt_known;exact rfl));apply dt_guardP;exact rfl;exact rfl;exact rfl;all_goals intro hg))
   all_goals try (exfalso;omega)
   refine ds_callE (fun x=>match x with|0=>0|_=>2) w4 rfl rfl rfl rfl ⟨rfl,rfl,trivial⟩ rfl rfl rfl rfl rfl rfl ?_ ?_ ?_
   ·rintro v ⟨m,h,rfl⟩;exact⟨m,by rw [h],rfl⟩
   ·rintro k2 res H2 ⟨kd,op,ts,j,_,_,rfl,rfl,rfl⟩;exact⟨rfl,rfl⟩
   rintro k2 res H2 ⟨kd,op,ts,j,h4,h4l,rfl,rfl,rfl⟩
   change DS _ _ _ _ _ _ _ _
   clear w4
   rw [h4]
   dsimp only
   repeat' (first|refine z0 ?_|apply ds_nil|apply dw_seq2|refine z16 ?_|apply dw_ret|apply thenD_n|apply thenD_r|refine z3 ?_|fail)
   all_goals try (exfalso;omega)
   exact⟨.inl rfl,_,rfl,id,1,_,prH l j e,rfl,⟨rfl,trivial⟩,rfl,rfl,rfl,rfl,rfl,rfl,⟨kd,hereT l e i,op,⟨#[]⟩,ts⟩,j,rfl,rfl,rfl,rfl⟩
abbrev truV (x:TRu):SV:=.agg [.d (.int .i64 x.at_),.d (.str x.name),.d (.slice 2 (x.terms.map encTTm)),.d (.int .i64 x.fold),.d (.slice 5 (x.body.map encTLt))]
set_option maxHeartbeats 8000000 in
theorem prule_fn (l:List Tok) (i:Nat) (e:Int) (hi:i≤l.length) (hl:l.length≤900000) (hok:l.all tokOk=true):FnOkE false Tryd.prog tab tab_ok 62 [.loc 0 0] 1 1 (prH l i e) (fun k r H=>∃ x j,ruleT l e i = .ok (x,j)∧k=1∧r=truV x∧H=prH l j e) (fun v=>∃ j,ruleT l e i = .error j∧v=plV (hereT l e j)):=by
 refine fn_enterRE _ Tryd.func62 rfl rfl (by kernel_rfl) ?_
 intro O w0 E0 β0
 have ll:(l.map encTok).length=l.length:=List.length_map _
 have w0:=here_fn l i e
 repeat' (first|refine z0 ?_|apply ds_nil|apply dw_seq2|refine z16 ?_|apply thenD_n|refine z1 ?_|fail)
 (refine ds_callF id (w0) rfl rfl rfl rfl ⟨rfl,trivial⟩ rfl rfl rfl rfl rfl rfl ?_ ?_)
 ·rintro k2 res H2 ⟨rfl,rfl,rfl⟩;exact⟨rfl,rfl⟩
 rintro k2 res H2 ⟨rfl,rfl,rfl⟩
 change DS _ _ _ _ _ _ _ _
 clear w0
 unfold ruleT
 have w2:=pname_fn l i e (by omega)
 repeat' (first|refine z0 ?_|apply ds_nil|apply dw_seq2|refine z16 ?_|apply thenD_n|refine z1 ?_|refine z3 ?_|fail)
 (refine ds_callE id (w2) rfl rfl rfl rfl ⟨rfl,trivial⟩ rfl rfl rfl rfl rfl rfl ?_ ?_ ?_)
 ·rintro v ⟨h,rfl⟩;exact⟨_,by rw [h],rfl⟩
 ·rintro k2 res H2 ⟨s,_,rfl,rfl,rfl⟩;exact⟨rfl,rfl⟩
 rintro k2 res H2 ⟨s,h2,rfl,rfl,rfl⟩
 change DS _ _ _ _ _ _ _ _
 clear w2
 rw [h2]
 dsimp only
 obtain⟨_,h2l⟩:=nameT_lt h2
 have w3:=pterms_fn l (i + 1) e true (by omega) hl hok
 repeat' (first|refine z0 ?_|apply ds_nil|apply dw_seq2|refine z16 ?_|apply thenD_n|refine z3 ?_|fail)
 (refine ds_callE id (w3) rfl rfl rfl rfl ⟨rfl,trivial⟩ rfl rfl rfl rfl rfl rfl ?_ ?_ ?_)
 ·rintro v ⟨m,h,rfl⟩;exact⟨m,by rw [h],rfl⟩
 ·rintro k2 res H2 ⟨x,f,j,_,_,rfl,rfl,rfl⟩;exact⟨rfl,rfl⟩
 rintro k2 res H2 ⟨ts,f,m,h3,h3l,rfl,rfl,rfl⟩
 change DS _ _ _ _ _ _ _ _
 clear w3
 rw [h3]
 dsimp only
 repeat' ((fail_if_success (apply dw_stopS 4));(first|refine z0 ?_|apply ds_nil|apply dw_seq2|apply thenD_n|refine z3 ?_|fail))
 refine dw_cut (ι:=Bool) (fun b=>⟨3,[(0,.loc 0 0),(2,.loc 1 0),(3,.loc 2 0),(24,.d (.bool b))],[(0,prB l (match b with|true=>m + 1|false=>m) e),(1,.blk 39 [.d (.int .i64 0),.d (.str ⟨#[]⟩),.nils,.d (.int .i64 0),.nils]),(2,.blk 39 [.d (.int .i64 (hereT l e i)),.d (.str s),.d (.slice 2 (ts.map encTTm)),.d (.int .i64 f),.nils])]⟩) (fun b=>b=decide (f=0∧seesT l m ⟨#[46]⟩=true)) ?_ ?_
 ·by_cases hf:f=0
  ·have w4:=ptake_fn l m e ⟨#[46]⟩ (by omega)
   repeat' (first|refine z0 ?_|refine z12 ?_|apply ds_nil|refine z16 ?_|apply thenD_n|((fail_if_success (apply ds_known;exact rfl));apply ds_guardP;exact rfl;exact rfl;exact rfl;all_goals intro hg))
   all_goals try (exfalso;omega)
   (refine ds_callF id (w4) rfl rfl rfl rfl ⟨rfl,trivial⟩ rfl rfl rfl rfl rfl rfl ?_ ?_)
   ·rintro k2 res H2 ⟨rfl,rfl,rfl⟩;exact⟨rfl,rfl⟩
   rintro k2 res H2 ⟨rfl,rfl,rfl⟩
   change DS _ _ _ _ _ _ _ _
   clear w4
   cases hd:seesT l m ⟨#[46]⟩ with
   | true =>
    repeat' (first|refine z0 ?_|apply ds_nil|apply thenD_n)
    exact⟨true,(decide_eq_true ⟨hf,rfl⟩).symm,ent_ren id ⟨rfl,rfl,rfl,rfl,trivial⟩ ⟨rfl,rfl,rfl,trivial⟩ rfl rfl rfl rfl rfl rfl⟩
   | false =>
    repeat' (first|refine z0 ?_|apply ds_nil|apply thenD_n)
    exact⟨false,(decide_eq_false (fun h=>by cases h.2)).symm,ent_ren id ⟨rfl,rfl,rfl,rfl,trivial⟩ ⟨rfl,rfl,rfl,trivial⟩ rfl rfl rfl rfl rfl rfl⟩
  ·repeat' (first|refine z0 ?_|refine z12 ?_|apply ds_nil|refine z16 ?_|apply thenD_n|((fail_if_success (apply ds_known;exact rfl));apply ds_guardP;exact rfl;exact rfl;exact rfl;all_goals intro hg))
   all_goals try (exfalso;omega)
   exact⟨false,(decide_eq_false (fun h=>hf h.1)).symm,ent_ren id ⟨rfl,rfl,rfl,rfl,trivial⟩ ⟨rfl,rfl,rfl,trivial⟩ rfl rfl rfl rfl rfl rfl⟩
 ·intro b hb
  cases b with
  | true =>
   obtain⟨hf,hd⟩:=of_decide_eq_true hb.symm
   rw [if_pos ⟨hf,hd⟩]
   have:=seesT_lt hd
   dsimp only
   refine dw_ent (ent_cellnil 2 4 5 rfl rfl rfl) ?_
   repeat' (first|refine z0 ?_|apply ds_nil|apply dw_seq2|refine z16 ?_|apply dw_ret|refine z18 ?_|apply thenD_n|apply thenD_r|refine z3 ?_|fail)
   exact⟨.inl rfl,_,rfl,id,1,_,prH l (m + 1) e,rfl,⟨rfl,trivial⟩,rfl,rfl,rfl,rfl,rfl,rfl,⟨hereT l e i,s,ts,f,[]⟩,m + 1,rfl,rfl,rfl,rfl⟩
  | false =>
   rw [if_neg (of_decide_eq_false hb.symm)]
   clear hb
   dsimp only
   have w5:=need_fn l m e ⟨#[58,45]⟩ (by omega)
   refine dw_ent (ent_cellrow 2 4 43 5 rfl rfl rfl) ?_
   repeat' (first|refine z0 ?_|apply dw_seq2|refine z16 ?_|apply dw_skip|refine z19 ?_|apply thenD_n)
   (refine ds_callE id (w5) rfl rfl rfl rfl ⟨rfl,trivial⟩ rfl rfl rfl rfl rfl rfl ?_ ?_ ?_)
   ·rintro v ⟨hs,rfl⟩;exact⟨m,by rw [hs];rfl,rfl⟩
   ·rintro k2 res H2 ⟨_,rfl,rfl,rfl⟩;exact⟨rfl,rfl⟩
   rintro k2 res H2 ⟨hs,rfl,rfl,rfl⟩
   change DS _ _ _ _ _ _ _ _
   clear w5
   have hml:=seesT_lt hs
   rw [hs,if_pos rfl]
   repeat' (first|apply ds_nil|apply dw_seq2|apply dw_block|apply thenD_n)
   refine ds_loop (ι:=Nat × List TLt × Nat) (fun x=>⟨4,[(0,.loc 0 0),(2,.loc 1 0),(3,.loc 2 0)],[(0,prB l x.1 e),(1,.blk 39 [.d (.int .i64 0),.d (.str ⟨#[]⟩),.nils,.d (.int .i64 0),.nils]),(2,.blk 39 [.d (.int .i64 (hereT l e i)),.d (.str s),.d (.slice 2 (ts.map encTTm)),.d (.int .i64 f),.row 3]),(3,.row 43 5 (x.2.1.map encTLt))]⟩)
    (fun x=>litsGo l e (l.length + 1) (m + 1) []=litsGo l e x.2.2 x.1 x.2.1∧x.1≤l.length∧l.length < x.2.2 + x.1∧x.2.1.length≤x.1) (fun x=>x.2.2) (m + 1,[],l.length + 1) ⟨rfl,by show m + 1≤l.length;omega,by show l.length < l.length + 1 + (m + 1);omega,Nat.zero_le _⟩ (ent_ren id ⟨rfl,rfl,rfl,trivial⟩ ⟨rfl,rfl,rfl,rfl,trivial⟩ rfl rfl rfl rfl rfl rfl) ?_
   rintro⟨j,acc,n⟩ ⟨ht,hj,hn,ha⟩
   dsimp only at ht hj hn ha ⊢
   obtain⟨n,rfl⟩:∃ m,n=m + 1:=⟨n - 1,by omega⟩
   rw [ht,litsGo_succ]
   have w6:=plit_fn l j e hj hl hok
   repeat' (first|refine z0 ?_|apply dw_seq2|refine z16 ?_|apply dw_block)
   (refine ds_callE id (w6) rfl rfl rfl rfl ⟨rfl,trivial⟩ rfl rfl rfl rfl rfl rfl ?_ ?_ ?_)
   ·rintro v ⟨q,h,rfl⟩;exact⟨q,by rw [h],rfl⟩
   ·rintro k2 res H2 ⟨x,q,_,rfl,rfl,rfl⟩;exact⟨rfl,rfl⟩
   rintro k2 res H2 ⟨x,q,h6,rfl,rfl,rfl⟩
   change DS _ _ _ _ _ _ _ _
   clear w6
   obtain⟨q1,q2⟩:=litT_lt h6
   rw [h6]
   dsimp only
   have lac:(acc.map encTLt).length=acc.length:=List.length_map _
   have hap:(acc++[x]).map encTLt=acc.map encTLt++[encTLt x]:=List.map_append
   have w7:=ptake_fn l q e ⟨#[44]⟩ (by omega)
   repeat' (first|refine z0 ?_|apply ds_nil|apply dw_seq2|refine z16 ?_|apply thenD_n|refine z1 ?_|refine z3 ?_|refine z4 ?_|refine z2 ?_|fail)
   (refine ds_callF id (w7) rfl rfl rfl rfl ⟨rfl,trivial⟩ rfl rfl rfl rfl rfl rfl ?_ ?_)
   ·rintro k2 res H2 ⟨rfl,rfl,rfl⟩;exact⟨rfl,rfl⟩
   rintro k2 res H2 ⟨rfl,rfl,rfl⟩
   change DS _ _ _ _ _ _ _ _
   clear w7
   cases hc:seesT l q ⟨#[44]⟩ with
   | true =>
    have:=seesT_lt hc
    repeat' (first|refine z0 ?_|apply ds_nil|apply dw_skip|refine z19 ?_|apply thenD_n|apply inB_n)
    exact⟨(q + 1,acc++[x],n),⟨if_pos rfl,by show q + 1≤l.length;omega,by show l.length < n + (q + 1);omega,by show (acc++[x]).length≤q + 1;rw [List.length_append];simp;omega⟩,ent_ren (fun x=>match x with|0=>0|1=>1|2=>2|_=>_) ⟨rfl,rfl,rfl,trivial⟩ ⟨rfl,rfl,rfl,by dsimp only;rw [hap];rfl,trivial⟩ rfl rfl rfl rfl rfl rfl,by show n < n + 1;omega⟩
   | false =>
    rw [if_neg (fun h=>Bool.noConfusion h)]
    dsimp only
    have w8:=need_fn l q e ⟨#[46]⟩ (by omega)
    repeat' (first|refine z0 ?_|apply ds_nil|apply dw_seq2|refine z16 ?_|apply dw_exit|refine z18 ?_|apply thenD_n|apply thenD_e|refine z17 ?_|(apply inB_x;exact rfl))
    (refine ds_callE id (w8) rfl rfl rfl rfl ⟨rfl,trivial⟩ rfl rfl rfl rfl rfl rfl ?_ ?_ ?_)
    ·rintro v ⟨h,rfl⟩;exact⟨q,by rw [h];rfl,rfl⟩
    ·rintro k2 res H2 ⟨_,rfl,rfl,rfl⟩;exact⟨rfl,rfl⟩
    rintro k2 res H2 ⟨h8,rfl,rfl,rfl⟩
    change DS _ _ _ _ _ _ _ _
    clear w8
    have:=seesT_lt h8
    rw [h8,if_pos rfl]
    repeat' ((fail_if_success (apply dw_stopS 11));(first|apply ds_nil|apply thenD_n))
    refine dw_ent (ent_cellseal 2 4 6 rfl rfl rfl rfl rfl) ?_
    repeat' (first|refine z0 ?_|apply ds_nil|apply dw_seq2|refine z16 ?_|apply dw_ret|apply thenD_n|refine z3 ?_|fail)
    exact⟨.inl rfl,_,rfl,id,1,.agg [.d (.int .i64 (hereT l e i)),.d (.str s),.d (.slice 2 (ts.map encTTm)),.d (.int .i64 f),.d (.slice 5 (acc.map encTLt++[encTLt x]))],prH l (q + 1) e,rfl,⟨rfl,trivial⟩,rfl,rfl,rfl,rfl,rfl,rfl,⟨hereT l e i,s,ts,f,acc++[x]⟩,q + 1,rfl,rfl,by dsimp only [truV];rw [hap],rfl⟩
section
variable {Γ : Ctx} {k : Nat} {L : Sl} {H : Hp}
theorem ev_bin_run {b:BinOp} {t t2 ty:TypeId} {x:Operand} {u v:Value} {r:Bool} (hx:opSV L x = .val u) (hxo:opOkB x=true)
  (h1:∀ w,(eqGuard b t x (.const v) u v).run Γ.P w = .ok () w) (h2:∀ w,(binOp b t u v).run Γ.P w = .ok (.bool r) w):Ev Γ (lo k) L H (.binOp b t x (.const v) t2) ty (.d (.bool r)):=by
 unfold Ev
 intro e a w m
 have hr:=m.op x (opOkB_spec hxo)
 rw [hx] at hr
 have hv:a.eval x=u:=hr
 refine⟨.bool r,fun _ _ _ _ w' _=>?_,.bool⟩
 have hc:a.eval (.const v)=v:=rfl
 simp [execOp,hv,hc,h1,h2]
theorem ev_assert_run {t t2 ty:TypeId} {x:Operand} {kd:IntKind} {n:Int} (hx:opSV L x = .val (.iface t (.int kd n))) (hxo:opOkB x=true)
  (hrun:∀ w,(Instr.typeAssert (.iface t (.int kd n)) t2 t true).run Γ.P w = .ok (.tuple #[.int kd n,.bool true]) w) (hn:(Lit.int kd n).wf=true):Ev Γ (lo k) L H (.typeAssert x t2 t true) ty (.tup [.d (.int kd n),.d (.bool true)]):=by
 unfold Ev
 intro e a w m
 have hr:=m.op x (opOkB_spec hxo)
 rw [hx] at hr
 have hv:a.eval x = .iface t (.int kd n):=hr
 refine⟨.tuple #[.int kd n,.bool true],fun _ _ _ _ w' _=>?_,_,rfl,⟨.int hn,.bool,trivial⟩⟩
 simp [execOp,hv,hrun]
end
abbrev treeV (rs:List TRu):SV:=.agg [.d (.slice 5 (rs.map encTRu))]
def parseMay (l:List Tok) (e:Int) (v:Value) (H:Hp):Prop:=∃ j acc,rulesGo l e (l.length + 1) 0 [] = .error j∧v=plV (hereT l e j)∧H=[(1,.blk 24 [.row 4]),(2,.blk 3 [.d (.int .i64 0)]),(3,.blk 28 [.d (.int .i64 0)]),(4,.row 39 5 acc)]
def parseRC (l:List Tok) (e:Int) (_:Nat) (H:Hp):Prop:=∃ j,rulesGo l e (l.length + 1) 0 [] = .error j∧Hp.get H 1=some (.blk 24 [.nils])∧Hp.get H 2=some (.blk 3 [.d (.int .i64 (hereT l e j))])∧Hp.get H 3=some (.blk 28 [.d (.int .i64 1)])
def parseR (l:List Tok) (e:Int) (k:Nat) (r:SV) (H:Hp):Prop:=k=1∧H=[]∧r=match rulesGo l e (l.length + 1) 0 [] with
 | .ok rs=>.tup [treeV rs,.d (.int .i64 0),.d (.int .i64 0)]
 | .error j=>.tup [.agg [.nils],.d (.int .i64 (hereT l e j)),.d (.int .i64 1)]
set_option maxHeartbeats 8000000 in
theorem parse1_catch (l:List Tok) (e:Int) (hh:∀ j,(Lit.int .i64 (hereT l e j)).wf=true):CatchOk false Tryd.prog tab tab_ok 61 [1,2,3] 4 (parseMay l e) (parseRC l e):=by
 refine catch_of _ Tryd.func61 rfl rfl rfl (by decide) (by decide) (by decide) ?_
 rintro O w0 E0 β0 v k H ⟨j,acc,hj,rfl,rfl⟩
 repeat' (first|refine z0 ?_|apply dw_seq2|refine z16 ?_|fail)
 change DS _ _ _ _ _ _ _ _
 refine ds_ev (ev_bin_run (r:=true) rfl rfl (fun w=>rfl) (fun w=>by kernel_rfl)) rfl rfl ?_
 repeat' (first|refine z0 ?_|apply ds_nil|apply dw_seq2|refine z16 ?_|refine z18 ?_|apply thenD_n)
 refine ds_ev (ev_assert_run rfl rfl (fun w=>by kernel_rfl) (hh j)) rfl rfl ?_
 repeat' (first|refine z0 ?_|apply ds_nil|apply dw_seq2|refine z16 ?_|apply dw_skip|refine z19 ?_|apply thenD_n|refine z3 ?_|fail)
 exact⟨.inl rfl,j,hj,rfl,rfl,rfl⟩
set_option maxHeartbeats 8000000 in
theorem parse1_idle:IdleOk false Tryd.prog 61:=by
 refine idle_of tab tab_ok Tryd.func61 rfl rfl (by decide) (by decide) ?_
 intro w0 N hN
 obtain⟨n,rfl⟩:∃ n,N=n + Tryd.f61.ntmps:=⟨N - Tryd.f61.ntmps,by omega⟩
 repeat' (first|refine z0 ?_|apply dw_seq2|refine z16 ?_|fail)
 change DS _ _ _ _ _ _ _ _
 refine ds_ev (ev_bin_run (r:=false) rfl rfl (fun w=>rfl) (fun w=>by kernel_rfl)) rfl rfl ?_
 repeat' (first|apply ds_nil|apply dw_skip|refine z19 ?_|apply thenD_n)
 exact .inl rfl
set_option maxHeartbeats 8000000 in
theorem pparse_fn (l:List Tok) (e:Int) (hh:∀ j,(Lit.int .i64 (hereT l e j)).wf=true) (hl:l.length≤900000) (hok:l.all tokOk=true):FnOk false Tryd.prog tab tab_ok 40 [.loc 0 0] 1 1 (prH l 0 e) (parseR l e):=by
 refine FnOk.kept ?_
 have ll:(l.map encTok).length=l.length:=List.length_map _
 refine fn_enterDef (g:=61) (JA:=4) (kA:=4) (LA:=[(2,.loc 1 0),(3,.loc 2 0),(4,.loc 3 0),(0,.loc 0 0)]) (HA:=[(0,prB l 0 e),(1,.blk 24 [.nils]),(2,.blk 3 [.d (.int .i64 0)]),(3,.blk 28 [.d (.int .i64 0)])]) (ids:=[1,2,3]) (rs:=[(2,1),(3,2),(4,3)]) (may:=parseMay l e) (RC:=parseRC l e) _ Tryd.func40 rfl rfl (by kernel_rfl) (by kernel_rfl) (by decide) (by decide) (by decide) rfl rfl (by decide) ?_ ?_ parse1_idle (parse1_catch l e hh) ?_
 ·intro O w0 E0 β0
  repeat' (first|apply ds_nil|refine z16 ?_|refine z1 ?_|fail)
  exact⟨rfl,ent_ren id ⟨rfl,rfl,rfl,rfl,trivial⟩ ⟨rfl,rfl,rfl,rfl,trivial⟩ rfl rfl rfl rfl rfl rfl⟩
 ·intro O w0 E0 β0
  refine dw_ent (ent_cellrow 1 0 39 5 rfl rfl rfl) ?_
  repeat' (first|apply dw_seq2|apply dw_block)
  refine ds_loop (ι:=Nat × List TRu × Nat) (fun x=>⟨5,[(0,.loc 0 0),(2,.loc 1 0),(3,.loc 2 0),(4,.loc 3 0)],[(0,prB l x.1 e),(1,.blk 24 [.row 4]),(2,.blk 3 [.d (.int .i64 0)]),(3,.blk 28 [.d (.int .i64 0)]),(4,.row 39 5 (x.2.1.map encTRu))]⟩)
   (fun x=>rulesGo l e (l.length + 1) 0 []=rulesGo l e x.2.2 x.1 x.2.1∧x.1≤l.length∧l.length < x.2.2 + x.1∧x.2.1.length≤x.1) (fun x=>x.2.2) (0,[],l.length + 1) ⟨rfl,Nat.zero_le _,Nat.lt_succ_self _,Nat.le_refl _⟩ (ent_ren id ⟨rfl,rfl,rfl,rfl,trivial⟩ ⟨rfl,rfl,rfl,rfl,rfl,trivial⟩ rfl rfl rfl rfl rfl rfl) ?_
  rintro⟨j,acc,n⟩ ⟨ht,hj,hn,ha⟩
  dsimp only at ht hj hn ha ⊢
  obtain⟨n,rfl⟩:∃ m,n=m + 1:=⟨n - 1,by omega⟩
  rw [rulesGo_succ l e n j acc] at ht
  by_cases hjl:j < l.length
  ·rw [if_pos hjl] at ht
   have w1:=prule_fn l j e hj hl hok
   repeat' (first|refine z0 ?_|apply ds_nil|refine z5 ?_|refine z10 ?_|apply dw_seq2|refine z16 ?_|refine z20 ?_|apply dw_block|apply dw_skip|apply dw_exit|apply thenD_n|apply thenD_e|refine z17 ?_|refine z3 ?_|(refine z23 ?_ ?_ <;> intro hg)|fail)
   all_goals try (exfalso;omega)
   (refine ds_callE id (w1) rfl rfl rfl rfl ⟨rfl,trivial⟩ rfl rfl rfl rfl rfl rfl ?_ ?_ ?_)
   ·rintro v ⟨q,h,rfl⟩
    exact⟨by intro p hp;simp only [List.mem_cons,List.not_mem_nil,or_false] at hp;rcases hp with rfl|rfl|rfl <;> rfl,q,acc.map encTRu,by rw [ht,h],rfl,rfl⟩
   ·rintro k2 res H2 ⟨x,q,_,rfl,rfl,rfl⟩;exact⟨rfl,rfl⟩
   rintro k2 res H2 ⟨x,q,h6,rfl,rfl,rfl⟩
   change DS _ _ _ _ _ _ _ _
   clear w1
   obtain⟨q1,q2⟩:=ruleT_lt h6
   rw [h6] at ht
   dsimp only at ht
   have lac:(acc.map encTRu).length=acc.length:=List.length_map _
   have hap:(acc++[x]).map encTRu=acc.map encTRu++[encTRu x]:=List.map_append
   repeat' (first|refine z0 ?_|apply ds_nil|refine z16 ?_|apply thenD_n|apply inB_n|refine z1 ?_|refine z3 ?_|refine z4 ?_|refine z2 ?_|fail)
   all_goals try (exfalso;omega)
   exact⟨(q,acc++[x],n),⟨ht,q2,by show l.length < n + q;omega,by show (acc++[x]).length≤q;rw [List.length_append];simp;omega⟩,ent_ren (fun x=>match x with|0=>0|1=>1|2=>2|3=>3|_=>_) ⟨rfl,rfl,rfl,rfl,trivial⟩ ⟨rfl,rfl,rfl,rfl,by dsimp only;rw [hap];rfl,trivial⟩ rfl rfl rfl rfl rfl rfl,by show n < n + 1;omega⟩
  ·rw [if_neg hjl] at ht
   repeat' ((fail_if_success (apply dw_stopS 5));(first|refine z0 ?_|refine z5 ?_|refine z10 ?_|apply dw_seq2|refine z16 ?_|refine z20 ?_|apply dw_block|apply dw_skip|apply dw_exit|apply thenD_n|apply thenD_e|refine z17 ?_|(refine z23 ?_ ?_ <;> intro hg)|fail))
   all_goals try (exfalso;omega)
   refine dw_ent (ent_cellseal 1 0 4 rfl rfl rfl rfl rfl) ?_
   repeat' (first|refine z0 ?_|apply ds_nil|apply dw_seq2|refine z16 ?_|apply dw_ret|apply thenD_n|refine z3 ?_|fail)
   unfold parseR
   rw [ht]
   exact⟨.inl rfl,_,rfl,id,1,_,[],rfl,trivial,rfl,rfl,rfl,rfl,rfl,rfl,rfl,rfl,rfl⟩
 ·rintro k H ⟨j,hj,h1,h2,h3⟩
  unfold parseR
  rw [hj]
  refine⟨.tup [.agg [.nils],.d (.int .i64 (hereT l e j)),.d (.int .i64 1)],?_,id,1,_,[],rfl,trivial,rfl,rfl,rfl,rfl,rfl,rfl,rfl,rfl,rfl⟩
  have e1:resOne (locSl [(2,1),(3,2),(4,3)]) H tab (.cell 2 24)=some (.agg [.nils]):=by
   show (match Hp.get H 1 with
    | some (.blk _ cs)=>(match (tiGet tab 24).sh with
     | .struct _=>(match Nat.ble (0 + (tiGet tab 24).cells) cs.length with
      | true=>some (SV.agg ((cs.drop 0).take (tiGet tab 24).cells))
      | false=>none)
     | .other=>none
     | _=>cs[0]?)
    | _=>none)=_
   rw [h1];rfl
  have e2:resOne (locSl [(2,1),(3,2),(4,3)]) H tab (.cell 3 3)=some (.d (.int .i64 (hereT l e j))):=by
   show (match Hp.get H 2 with
    | some (.blk _ cs)=>(match (tiGet tab 3).sh with
     | .struct _=>(match Nat.ble (0 + (tiGet tab 3).cells) cs.length with
      | true=>some (SV.agg ((cs.drop 0).take (tiGet tab 3).cells))
      | false=>none)
     | .other=>none
     | _=>cs[0]?)
    | _=>none)=_
   rw [h2];rfl
  have e3:resOne (locSl [(2,1),(3,2),(4,3)]) H tab (.cell 4 28)=some (.d (.int .i64 1)):=by
   show (match Hp.get H 3 with
    | some (.blk _ cs)=>(match (tiGet tab 28).sh with
     | .struct _=>(match Nat.ble (0 + (tiGet tab 28).cells) cs.length with
      | true=>some (SV.agg ((cs.drop 0).take (tiGet tab 28).cells))
      | false=>none)
     | .other=>none
     | _=>cs[0]?)
    | _=>none)=_
   rw [h3];rfl
  show resSV _ H tab [.cell 2 24,.cell 3 3,.cell 4 28]=_
  simp only [resSV,resL,e1,e2,e3]
end Go.Proofs.YtapciiffpnociabDoor
