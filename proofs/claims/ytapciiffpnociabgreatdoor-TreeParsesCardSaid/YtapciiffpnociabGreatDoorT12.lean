/- Several texts in one: TreF TreG TreX TreY TreZ TreH GxWin GxLit GxStr. Condition: none. -/
import Derived.Test.YtapciiffpnociabGreatDoorT11
import Derived.Test.YtapciiffpnociabGreatDoorT08
namespace Go.Proofs.YtapciiffpnociabGreatDoor
open Go Go.RowKit
abbrev tlB (kind at_ op:Int) (name:ByteArray) (ts:SV):HB:=.blk 51 [.d (.int .i64 kind),.d (.int .i64 at_),.d (.int .i64 op),.d (.str name),ts]
abbrev prB (l:List Tok) (i:Nat) (e:Int):HB:=.blk 74 [.d (.slice 3 (l.map encTok)),.d (.int .i64 i),.d (.int .i64 e)]
attribute [local irreducible] DW DS DL DQ Ev FnOk FnP FnOkE thenD inBlockD
set_option maxHeartbeats 8000000 in
theorem ptest_fn (l:List Tok) (i:Nat) (e a:Int) (hi:i≤l.length) (hl:l.length≤900000) (hok:l.all tokOk=true):FnOkE false Tryz.prog tab tab_ok 109 [.loc 0 0,.loc 1 0] 2 2 [(0,prB l i e),(1,tlB 1 a 0 ⟨#[]⟩ .nils)] (fun k r H=>∃ kd op ts j,testT l i = .ok ((kd,op,ts),j)∧j≤l.length∧k=2∧r = .tup []∧H=[(0,prB l j e),(1,tlB kd a op ⟨#[]⟩ (.d (.slice 2 (ts.map encTTm))))]) (fun v=>∃ j,testT l i = .error j∧v=plV (hereT l e j)):=by
 refine fn_enterRE _ Tryz.func109 rfl rfl (by kernel_rfl) ?_
 intro O w0 E0 β0
 have ll:(l.map encTok).length=l.length:=List.length_map _
 refine dw_ent (ent_cellrow 1 4 49 2 rfl rfl rfl) ?_
 have w1:=pterm_fn l i e (by omega) hok
 unfold testT
 repeat' (first|refine z0 ?_|apply dw_seq2|refine z16 ?_|fail)
 (refine ds_callE id (w1) rfl rfl rfl rfl ⟨rfl,trivial⟩ rfl rfl rfl rfl rfl rfl ?_ ?_ ?_)
 ·rintro v ⟨k,hk,rfl⟩;exact⟨k,by rw [hk],rfl⟩
 ·rintro k2 res H2 ⟨t,k,_,_,rfl,rfl,rfl⟩;exact⟨rfl,rfl⟩
 rintro k2 res H2 ⟨t,k,hk,_,rfl,rfl,rfl⟩
 change DS _ _ _ _ _ _ _ _
 clear w1
 rw [hk]
 dsimp only
 obtain⟨hk1,hk2⟩:=termT_lt hk
 repeat' ((fail_if_success (apply dw_stopR 2));(first|apply ds_nil|refine z5 ?_|refine z6 ?_|refine z9 ?_|refine z11 ?_|apply dw_seq2|refine z20 ?_|apply thenD_n|refine z1 ?_|refine z3 ?_|fail))
 obtain⟨op,hop⟩:∃ op,op=firstQ l opsT k 0:=⟨_,rfl⟩
 obtain⟨ob1,ob2⟩:=firstQ_bound l opsT k 7 0 (Nat.le_refl _)
 rw [← hop] at ob1 ob2 ⊢
 have ob2:op≤7:=ob2
 obtain⟨jf,hjf⟩:∃ jf:Nat,jf=if op≠0 then k + 1 else k:=⟨_,rfl⟩
 refine dw_cut (ι:=Unit) (fun _=>⟨3,[(0,.loc 0 0),(1,.loc 1 0)],[(0,prB l jf e),(1,tlB 1 a op ⟨#[]⟩ (.row 2)),(2,.row 49 2 [encTTm t])]⟩) (fun _=>jf≤l.length) ?_ ?_
 ·repeat' (first|refine z0 ?_|apply ds_nil|apply dw_seq2|refine z16 ?_|apply dw_block|apply thenD_n|refine z4 ?_|fail)
  refine ds_loop (ι:=Nat) (fun q=>⟨3,[(0,.loc 0 0),(1,.loc 1 0),(21,.d (.slice 1 (opsT.map encT))),(22,.d (.int .i64 7)),(23,.d (.int .i64 q))],[(0,prB l k e),(1,tlB 1 a 0 ⟨#[]⟩ (.row 2)),(2,.row 49 2 [encTTm t])]⟩)
   (fun q=>q≤7∧op=firstQ l opsT k q) (fun q=>7 - q) 0 ⟨by omega,hop⟩ (ent_ren (fun x=>match x with|0=>0|1=>1|_=>_) ⟨rfl,rfl,rfl,rfl,rfl,trivial⟩ ⟨rfl,rfl,rfl,trivial⟩ rfl rfl rfl rfl rfl rfl) ?_
  rintro q ⟨hq,hfq⟩
  dsimp only at hq hfq ⊢
  have lf:(opsT.map encT).length=7:=rfl
  by_cases hq7:q < 7
  ·have hql:q < opsT.length:=hq7
   rw [firstQ_step l opsT k q hql] at hfq
   have w2:=ptake_fn l k e opsT[q] (by omega)
   repeat' (first|refine z0 ?_|apply ds_nil|apply dw_seq2|refine z16 ?_|apply dw_block|apply dw_skip|apply dw_exit|apply thenD_n|apply thenD_e|refine z17 ?_|(refine z23 ?_ ?_ <;> intro hg)|fail)
   all_goals try (exfalso;omega)
   (refine ds_callF id (w2) rfl rfl rfl rfl ⟨rfl,trivial⟩ rfl rfl rfl rfl rfl rfl ?_ ?_)
   ·rintro k2 res H2 ⟨rfl,rfl,rfl⟩;exact⟨rfl,rfl⟩
   rintro k2 res H2 ⟨rfl,rfl,rfl⟩
   change DS _ _ _ _ _ _ _ _
   clear w2
   cases hsq:seesT l k opsT[q] with
   | true =>
    rw [hsq,if_pos rfl,Int.add_comm] at hfq
    rw [if_pos (by omega)] at hjf
    subst hjf
    have hjl:=seesT_lt hsq
    clear hop
    subst hfq
    repeat' (first|refine z0 ?_|apply ds_nil|apply dw_seq2|refine z16 ?_|apply dw_exit|refine z18 ?_|apply thenD_n|apply thenD_e|refine z17 ?_|(apply inB_x;exact rfl)|refine z3 ?_|fail)
    all_goals try (exfalso;omega)
    exact⟨(),by omega,ent_ren id ⟨rfl,rfl,trivial⟩ ⟨rfl,rfl,rfl,trivial⟩ rfl rfl rfl rfl rfl rfl⟩
   | false =>
    rw [hsq,if_neg (by simp)] at hfq
    repeat' (first|refine z0 ?_|apply ds_nil|refine z16 ?_|apply dw_skip|refine z19 ?_|apply thenD_n|apply inB_n)
    all_goals try (exfalso;omega)
    exact⟨q + 1,⟨by omega,hfq⟩,ent_ren id ⟨rfl,rfl,rfl,rfl,rfl,trivial⟩ ⟨rfl,rfl,rfl,trivial⟩ rfl rfl rfl rfl rfl rfl,by show 7 - (q + 1) < 7 - q;omega⟩
  ·rw [firstQ_end l opsT k q (by show 7≤q;omega)] at hfq
   rw [if_neg (by omega)] at hjf
   subst hjf
   clear hop
   subst hfq
   repeat' (first|refine z0 ?_|apply ds_nil|apply dw_seq2|refine z16 ?_|apply dw_block|apply dw_skip|apply dw_exit|apply thenD_n|apply thenD_e|refine z17 ?_|(refine z23 ?_ ?_ <;> intro hg)|fail)
   all_goals try (exfalso;omega)
   exact⟨(),by omega,ent_ren id ⟨rfl,rfl,trivial⟩ ⟨rfl,rfl,rfl,trivial⟩ rfl rfl rfl rfl rfl rfl⟩
 ·intro _ hjl
  clear hop
  by_cases h0:op=0
  ·subst h0
   rw [if_neg (by simp)] at hjf
   subst hjf
   rw [if_pos rfl]
   have w2:=fail_fn l jf e
   repeat' (first|refine z0 ?_|apply ds_nil|apply dw_seq2|refine z16 ?_|refine z18 ?_|apply thenD_n)
   all_goals try (exfalso;omega)
   (refine ds_callE id (w2) rfl rfl rfl rfl ⟨rfl,trivial⟩ rfl rfl rfl rfl rfl rfl ?_ ?_ ?_)
   ·rintro v rfl;exact⟨_,rfl,rfl⟩
   ·rintro _ _ _ h;exact h.elim
   ·rintro _ _ _ h;exact h.elim
  ·rw [if_pos h0] at hjf
   subst hjf
   rw [if_neg h0]
   have w3:=pterm_fn l (k + 1) e (by omega) hok
   repeat' (first|refine z0 ?_|apply ds_nil|apply dw_seq2|refine z16 ?_|apply dw_skip|apply thenD_n|(refine z23 ?_ ?_ <;> intro hg)|fail)
   all_goals try (exfalso;omega)
   (refine ds_callE id (w3) rfl rfl rfl rfl ⟨rfl,trivial⟩ rfl rfl rfl rfl rfl rfl ?_ ?_ ?_)
   ·rintro v ⟨m,hm,rfl⟩;exact⟨m,by rw [hm],rfl⟩
   ·rintro k2 res H2 ⟨t,m,_,_,rfl,rfl,rfl⟩;exact⟨rfl,rfl⟩
   rintro k2 res H2 ⟨t2,m,hm,_,rfl,rfl,rfl⟩
   change DS _ _ _ _ _ _ _ _
   clear w3
   rw [hm]
   dsimp only
   obtain⟨hm1,hm2⟩:=termT_lt hm
   by_cases h5:op < 5
   ·rw [if_pos h5]
    repeat' ((fail_if_success (apply dw_stopS 13));(fail_if_success (apply dw_stopR 13));(first|refine z0 ?_|apply ds_nil|refine z5 ?_|refine z6 ?_|refine z9 ?_|refine z11 ?_|apply dw_seq2|refine z16 ?_|refine z20 ?_|apply thenD_n|refine z1 ?_|refine z3 ?_|fail))
    all_goals try (exfalso;omega)
    refine dw_ent (ent_cellseal 1 4 12 rfl rfl rfl rfl rfl) ?_
    repeat' (first|refine z0 ?_|apply ds_nil|apply dw_seq2|refine z16 ?_|apply dw_skip|apply thenD_n|refine z3 ?_|(refine z23 ?_ ?_ <;> intro hg)|fail)
    all_goals try (exfalso;omega)
    exact⟨.inr rfl,_,rfl,id,2,_,[(0,prB l m e),(1,tlB 3 a op ⟨#[]⟩ (.d (.slice 2 ([t,t2].map encTTm))))],rfl,⟨rfl,rfl,trivial⟩,rfl,rfl,rfl,rfl,rfl,rfl,3,op,[t,t2],m,rfl,by omega,rfl,rfl,rfl⟩
   ·rw [if_neg h5]
    have w4:=need_fn l m e ⟨#[61]⟩ (by omega)
    repeat' (first|refine z0 ?_|apply ds_nil|refine z5 ?_|refine z6 ?_|refine z9 ?_|refine z11 ?_|apply dw_seq2|refine z16 ?_|refine z20 ?_|apply dw_skip|apply thenD_n|refine z1 ?_|refine z3 ?_|(refine z23 ?_ ?_ <;> intro hg)|fail)
    all_goals try (exfalso;omega)
    (refine ds_callE id (w4) rfl rfl rfl rfl ⟨rfl,trivial⟩ rfl rfl rfl rfl rfl rfl ?_ ?_ ?_)
    ·rintro v ⟨hs,rfl⟩;exact⟨m,by rw [hs];rfl,rfl⟩
    ·rintro k2 res H2 ⟨_,rfl,rfl,rfl⟩;exact⟨rfl,rfl⟩
    rintro k2 res H2 ⟨hs,rfl,rfl,rfl⟩
    change DS _ _ _ _ _ _ _ _
    clear w4
    have hml:=seesT_lt hs
    rw [hs,if_pos rfl]
    have w5:=pterm_fn l (m + 1) e (by omega) hok
    repeat' (first|refine z0 ?_|apply ds_nil|apply dw_seq2|refine z16 ?_|apply thenD_n)
    all_goals try (exfalso;omega)
    (refine ds_callE id (w5) rfl rfl rfl rfl ⟨rfl,trivial⟩ rfl rfl rfl rfl rfl rfl ?_ ?_ ?_)
    ·rintro v ⟨q,hq,rfl⟩;exact⟨q,by rw [hq],rfl⟩
    ·rintro k2 res H2 ⟨t,m,_,_,rfl,rfl,rfl⟩;exact⟨rfl,rfl⟩
    rintro k2 res H2 ⟨t3,q,hq,_,rfl,rfl,rfl⟩
    change DS _ _ _ _ _ _ _ _
    clear w5
    rw [hq]
    dsimp only
    obtain⟨hq1,hq2⟩:=termT_lt hq
    repeat' ((fail_if_success (apply dw_stopT 17));(first|apply ds_nil|apply thenD_n|refine z1 ?_|refine z3 ?_|fail))
    all_goals try (exfalso;omega)
    refine dw_split 11 (by kernel_rfl) (by kernel_rfl) (by kernel_rfl) rfl rfl rfl ?_
    repeat' (first|refine z5 ?_|refine z6 ?_|refine z9 ?_|refine z11 ?_|fail)
    refine⟨_,_,_,_,ent_cellseal 1 4 26 rfl rfl rfl rfl rfl,rfl,?_⟩
    repeat' refine z10 ?_
    exact⟨.inr rfl,_,rfl,id,2,_,[(0,prB l q e),(1,tlB 4 a op ⟨#[]⟩ (.d (.slice 2 ([t,t2,t3].map encTTm))))],rfl,⟨rfl,rfl,trivial⟩,rfl,rfl,rfl,rfl,rfl,rfl,4,op,[t,t2,t3],q,rfl,by omega,rfl,rfl,rfl⟩
theorem testT_lt {l:List Tok} {i j:Nat} {x:Int × Int × List TTm} (h:testT l i = .ok (x,j)):i < j∧j≤l.length:=by
 unfold testT at h
 cases h1:termT l i with
 | error k=>rw [h1] at h;cases h
 | ok p =>
  obtain⟨a,k⟩:=p
  rw [h1] at h
  dsimp only at h
  obtain⟨k1,k2⟩:=termT_lt h1
  split at h
  ·cases h
  cases h2:termT l (k + 1) with
  | error k=>rw [h2] at h;cases h
  | ok p =>
   obtain⟨b,m⟩:=p
   rw [h2] at h
   dsimp only at h
   obtain⟨m1,m2⟩:=termT_lt h2
   split at h
   ·injection h with h;injection h with h3 h4;omega
   split at h
   ·cases h3:termT l (m + 1) with
    | error k=>rw [h3] at h;cases h
    | ok p =>
     obtain⟨c,q⟩:=p
     rw [h3] at h
     dsimp only at h
     obtain⟨q1,q2⟩:=termT_lt h3
     injection h with h;injection h with h3 h4;omega
   ·cases h
theorem nameT_lt {l:List Tok} {i j:Nat} {s:ByteArray} (h:nameT l i = .ok (s,j)):j=i + 1∧j≤l.length:=by
 unfold nameT at h
 by_cases hl:i < l.length
 ·rw [List.getElem?_eq_getElem hl] at h
  dsimp only at h
  split at h
  ·injection h with h;injection h with h1 h2;omega
  ·cases h
 ·rw [List.getElem?_eq_none (by omega)] at h;cases h
theorem termsGo_lt {l:List Tok} {head:Bool}:∀ (n i:Nat) (acc:List TTm) {x:List TTm × Int} {j:Nat},termsGo l head n i acc = .ok (x,j)→i < j∧j≤l.length
 | 0,_,_,_,_,h=>by cases h
 | n + 1,i,acc,x,j,h=>by
  rw [termsGo_succ] at h
  generalize foldT l head i 0=f at h
  cases h1:termT l (if f≠0 then i + 1 else i) with
  | error k=>rw [h1] at h;cases h
  | ok p =>
   obtain⟨a,k⟩:=p
   rw [h1] at h
   dsimp only at h
   obtain⟨k1,k2⟩:=termT_lt h1
   have hik:i < k:=by split at k1 <;> omega
   split at h
   ·split at h
    ·rename_i hs
     have:=seesT_lt hs
     injection h with h;injection h with h3 h4;omega
    ·cases h
   ·have:=termsGo_lt n (k + 1) _ h
    omega
theorem termsT_lt {l:List Tok} {head:Bool} {i j:Nat} {x:List TTm × Int} (h:termsT l i head = .ok (x,j)):i < j∧j≤l.length:=by
 unfold termsT at h
 split at h
 ·split at h
  ·rename_i hs
   have:=seesT_lt hs
   injection h with h;injection h with h3 h4;omega
  ·have:=termsGo_lt _ _ _ h;omega
 ·cases h
theorem litT_lt {l:List Tok} {e:Int} {i j:Nat} {x:TLt} (h:litT l e i = .ok (x,j)):i < j∧j≤l.length:=by
 have nm:∀ (q:Nat) (kd:Int),(match nameT l q with
   | .error k=>(.error k:PR TLt)
   | .ok (s,k)=>(match termsT l k false with
    | .error m=>.error m
    | .ok ((ts,_),m)=>.ok (⟨kd,hereT l e i,0,s,ts⟩,m))) = .ok (x,j)→q < j∧j≤l.length:=by
  intro q kd hq
  cases h1:nameT l q with
  | error k=>rw [h1] at hq;cases hq
  | ok p =>
   obtain⟨a,k⟩:=p
   rw [h1] at hq
   dsimp only at hq
   have:=nameT_lt h1
   cases h2:termsT l k false with
   | error k=>rw [h2] at hq;cases hq
   | ok p =>
    obtain⟨⟨b,f⟩,m⟩:=p
    rw [h2] at hq
    dsimp only at hq
    have:=termsT_lt h2
    injection hq with hq;injection hq with h3 h4;omega
 unfold litT at h
 split at h
 ·have:=nm (i + 1) 2 h;omega
 ·split at h
  ·cases h1:testT l i with
   | error k=>rw [h1] at h;cases h
   | ok p =>
    obtain⟨⟨a,b,c⟩,k⟩:=p
    rw [h1] at h
    dsimp only at h
    have:=testT_lt h1
    injection h with h;injection h with h3 h4;omega
  ·have:=nm i 1 h;omega
theorem litsGo_succ (l:List Tok) (e:Int) (n i:Nat) (acc:List TLt):litsGo l e (n + 1) i acc=match litT l e i with
  | .error k=>.error k
  | .ok (x,k)=>if seesT l k ⟨#[44]⟩ then litsGo l e n (k + 1) (acc++[x]) else .ok (acc++[x],k):=rfl
theorem rulesGo_succ (l:List Tok) (e:Int) (n i:Nat) (acc:List TRu):rulesGo l e (n + 1) i acc=if i < l.length then
   (match ruleT l e i with
   | .error k=>.error k
   | .ok (r,k)=>rulesGo l e n k (acc++[r]))
  else .ok acc:=rfl
theorem litsGo_lt {l:List Tok} {e:Int}:∀ (n i:Nat) (acc:List TLt) {x:List TLt} {j:Nat},litsGo l e n i acc = .ok (x,j)→i < j∧j≤l.length
 | 0,_,_,_,_,h=>by cases h
 | n + 1,i,acc,x,j,h=>by
  unfold litsGo at h
  cases h1:litT l e i with
  | error k=>rw [h1] at h;cases h
  | ok p =>
   obtain⟨a,k⟩:=p
   rw [h1] at h
   dsimp only at h
   have:=litT_lt h1
   split at h
   ·have:=litsGo_lt n (k + 1) _ h;omega
   ·injection h with h;injection h with h3 h4;omega
theorem ruleT_lt {l:List Tok} {e:Int} {i j:Nat} {x:TRu} (h:ruleT l e i = .ok (x,j)):i < j∧j≤l.length:=by
 unfold ruleT at h
 cases h1:nameT l i with
 | error k=>rw [h1] at h;cases h
 | ok p =>
  obtain⟨s,k⟩:=p
  rw [h1] at h
  dsimp only at h
  have:=nameT_lt h1
  cases h2:termsT l k true with
  | error k=>rw [h2] at h;cases h
  | ok p =>
   obtain⟨⟨ts,f⟩,m⟩:=p
   rw [h2] at h
   dsimp only at h
   have:=termsT_lt h2
   split at h
   ·rename_i hs
    have:=seesT_lt hs.2
    injection h with h;injection h with h3 h4;omega
   ·split at h
    ·cases h3:litsGo l e (l.length + 1) (m + 1) [] with
     | error k=>rw [h3] at h;cases h
     | ok p =>
      obtain⟨b,q⟩:=p
      rw [h3] at h
      dsimp only at h
      have:=litsGo_lt _ _ _ h3
      split at h
      ·rename_i hs
       have:=seesT_lt hs
       injection h with h;injection h with h3 h4;omega
      ·cases h
    ·cases h
theorem FnOk.imp {dr:Bool} {P:Program} {τ:List (Nat × TI)} {τok:TabOk P τ} {f:FuncId} {args:List SV} {J k:Nat} {H:Hp} {R R':Nat→SV→Hp→Prop} (h:FnOk dr P τ τok f args J k H R) (hi:∀ k r H,R k r H→R' k r H):FnOk dr P τ τok f args J k H R':=by
 unfold FnOk at h ⊢
 refine⟨h.1,fun O e w vs hH hr=>(h.2 O e w vs hH hr).mono ?_⟩
 rintro en w' ⟨k',r,H',e',v,hR,h1⟩
 exact⟨k',r,H',e',v,hi _ _ _ hR,h1⟩
def rdIs {α:Type} (p:PR α) (x:α) (k:Nat):Bool→Prop
 | false=>p = .ok (x,k)
 | true=>p = .error k
def rdOut {α:Type} (p:PR α) (l:List Tok) (e:Int) (enc:α→SV) (r:SV) (H:Hp):Prop:=∃ x k fl,r=enc x∧H=rdH l k e fl∧rdIs p x k fl
theorem rdRes_out {α:Type} [Nonempty α] {p:PR α} {l:List Tok} {e:Int} {enc:α→SV} {junk:SV→Prop} {r:SV} {H:Hp} (hj:∀ r,junk r→∃ x,r=enc x) (h:rdRes p l e enc junk r H):rdOut p l e enc r H:=by
 unfold rdRes at h
 split at h
 ·exact⟨_,_,false,h.1,h.2,rfl⟩
 ·obtain⟨x,hx⟩:=hj r h.1
  exact⟨x,_,true,hx,h.2,rfl⟩
abbrev RdC (f:FuncId) (args:List SV) (l:List Tok) (i:Nat) (e:Int) (fl:Bool) {α:Type} (p:PR α) (enc:α→SV):Prop:=FnOk false Tryz.prog tab tab_ok f args 1 1 (rdH l i e fl) (fun k r H=>k=1∧rdOut p l e enc r H)
theorem rname_out (l:List Tok) (i:Nat) (e:Int) (f:Bool) (hi:i≤1000000):RdC 34 [.loc 0 0] l i e f (rdP f i (nameT l i)) (fun s=>.d (.str s)) :=
 have:Nonempty ByteArray:=⟨⟨#[]⟩⟩
 (rname_fn l i e f hi).imp fun _ _ _ h=>⟨h.1,rdRes_out (fun _ h=>h) h.2⟩
theorem rterm_out (l:List Tok) (i:Nat) (e:Int) (f:Bool) (hi:i≤1000000) (hok:l.all tokOk=true):RdC 60 [.loc 0 0] l i e f (rdP f i (termT l i)) tmV :=
 have:Nonempty TTm:=⟨⟨⟨#[]⟩,0⟩⟩
 (rterm_fn l i e f hi hok).imp fun _ _ _ h=>⟨h.1,rdRes_out (fun _ h=>h) h.2⟩
theorem text_is {l:List Tok} {i:Nat} {f:Bool} {s:ByteArray} (hs:s≠⟨#[]⟩):textT l i f=s↔f=false∧seesT l i s=true:=by
 cases f with
 | true=>rw [textT_failed];exact⟨fun h=>absurd h.symm hs,fun h=>Bool.noConfusion h.1⟩
 | false=>rw [← textT_sees hs,decide_eq_true_iff];exact⟨fun h=>⟨rfl,h⟩,fun h=>h.2⟩
theorem termT_err {l:List Tok} {i k:Nat} (hi:i≤l.length) (h:termT l i = .error k):k≤l.length:=by
 unfold termT at h
 generalize hb:seesT l i ⟨#[45]⟩=b at h
 have key:∀ q:Nat,(match l[q]? with
  | none=>(.error q:PR TTm)
  | some t=>if t.kind=2∧b=false then .ok ((⟨t.text,0⟩:TTm),q + 1)
   else if t.kind≠3∨(b=true∧t.text=(⟨#[48]⟩:ByteArray)) then .error q
   else .ok ((⟨(⟨#[]⟩:ByteArray),(match b with|true=>-1|false=>1) * numT t.text⟩:TTm),q + 1)) = .error k→k=q:=by
  intro q hq
  cases hl:l[q]? with
  | none=>rw [hl] at hq;injection hq with hq;exact hq.symm
  | some t =>
   rw [hl] at hq
   dsimp only at hq
   split at hq
   ·cases hq
   ·split at hq
    ·injection hq with hq;exact hq.symm
    ·cases hq
 cases b with
 | true=>have:=key (i + 1) h;have:=seesT_lt hb;omega
 | false=>have:=key i h;omega
theorem nameT_err {l:List Tok} {i k:Nat} (hi:i≤l.length) (h:nameT l i = .error k):k≤l.length:=by
 unfold nameT at h
 split at h
 ·split at h
  ·cases h
  ·injection h with h;omega
 ·injection h with h;omega
theorem termsGo_err {l:List Tok} {head:Bool} {k:Nat}:∀ (n i:Nat) (acc:List TTm),i≤l.length→termsGo l head n i acc = .error k→k≤l.length
 | 0,i,acc,hi,h=>by unfold termsGo at h;injection h with h;omega
 | n + 1,i,acc,hi,h=>by
  rw [termsGo_succ] at h
  have hj:(if foldT l head i 0≠0 then i + 1 else i)≤l.length:=by
   split
   ·rename_i hf;exact foldT_sees hf
   ·exact hi
  cases ht:termT l (if foldT l head i 0≠0 then i + 1 else i) with
  | error q=>rw [ht] at h;injection h with h;subst h;exact termT_err hj ht
  | ok x =>
   obtain⟨t,q⟩:=x
   rw [ht] at h
   dsimp only at h
   have hq:=(termT_lt ht).2
   split at h
   ·split at h
    ·cases h
    ·injection h with h;omega
   ·rename_i hn
    have:seesT l q ⟨#[44]⟩=true:=Bool.not_eq_false _▸fun hf=>hn (.inr hf)
    exact termsGo_err n (q + 1) _ (seesT_lt this) h
theorem termsT_err {l:List Tok} {head:Bool} {i k:Nat} (hi:i≤l.length) (h:termsT l i head = .error k):k≤l.length:=by
 unfold termsT at h
 split at h
 ·rename_i h1
  split at h
  ·cases h
  ·exact termsGo_err _ _ _ (seesT_lt h1) h
 ·injection h with h;omega
theorem termsGo_none {l:List Tok} {head:Bool} (i:Nat):termsT l i head=if seesT l i ⟨#[40]⟩ then
  (if seesT l (i + 1) ⟨#[41]⟩ then .ok (([],0),i + 2) else termsGo l head (l.length + 1) (i + 1) [])
 else .error i:=rfl
def wordsR:List ByteArray:=⟨#[]⟩::foldsT
def opsR:List ByteArray:=⟨#[]⟩::opsT
def foldG (ws:List ByteArray) (s:ByteArray):Nat→Int
 | 0=>0
 | k + 1=>if k≠0∧s=ws.getD k ⟨#[]⟩ then (k:Int) else foldG ws s k
abbrev foldS (s:ByteArray) (k:Nat):Int:=foldG wordsR s k
theorem foldG_succ {ws:List ByteArray} {s:ByteArray} {k:Nat} (h0:1≤k) (h:k < ws.length):foldG ws s (k + 1)=if s=ws[k] then (k:Int) else foldG ws s k:=by
 show (if k≠0∧s=ws.getD k ⟨#[]⟩ then (k:Int) else foldG ws s k)=_
 rw [List.getD_eq_getElem?_getD,List.getElem?_eq_getElem h]
 by_cases hs:s=ws[k]
 ·rw [if_pos ⟨by omega,hs⟩,if_pos hs]
 ·rw [if_neg (fun h=>hs h.2),if_neg hs]
theorem foldS_succ {s:ByteArray} {k:Nat} (h0:1≤k) (h:k < wordsR.length):foldS s (k + 1)=if s=wordsR[k] then (k:Int) else foldS s k:=foldG_succ h0 h
theorem foldS_is (l:List Tok) (j:Nat):foldT l true j 0=foldS (textT l j false) 5:=by
 have e:∀ s:ByteArray,s≠⟨#[]⟩→seesT l j s=decide (textT l j false=s):=fun s hs=>(textT_sees hs).symm
 show firstT l j [⟨#[99,111,117,110,116]⟩,⟨#[115,117,109]⟩,⟨#[108,101,97,115,116]⟩,⟨#[109,111,115,116]⟩] (0 + 1)=_
 simp only [firstT]
 rw [e _ (by decide),e _ (by decide),e _ (by decide),e _ (by decide)]
 generalize textT l j false=s
 have f5:foldS s 5=if s=⟨#[109,111,115,116]⟩ then 4 else if s=⟨#[108,101,97,115,116]⟩ then 3 else if s=⟨#[115,117,109]⟩ then 2 else if s=⟨#[99,111,117,110,116]⟩ then 1 else 0:=by
  rw [foldS_succ (by decide) (by decide),foldS_succ (by decide) (by decide),foldS_succ (by decide) (by decide),foldS_succ (by decide) (by decide)]
  rfl
 rw [f5]
 simp only [decide_eq_true_eq]
 by_cases h1:s=⟨#[99,111,117,110,116]⟩
 ·subst h1;decide
 by_cases h2:s=⟨#[115,117,109]⟩
 ·subst h2;decide
 by_cases h3:s=⟨#[108,101,97,115,116]⟩
 ·subst h3;decide
 by_cases h4:s=⟨#[109,111,115,116]⟩
 ·subst h4;decide
 simp only [h1,h2,h3,h4,if_false]
theorem foldG_low (ws:List ByteArray) (s:ByteArray):∀ k,0≤foldG ws s k∧foldG ws s k≤k
 | 0=>⟨Int.le_refl _,Int.le_refl _⟩
 | k + 1=>by
  have:=foldG_low ws s k
  unfold foldG
  split <;> omega
theorem foldS_low (s:ByteArray) (k:Nat):0≤foldS s k∧foldS s k≤k:=foldG_low _ _ _
theorem foldO_is (l:List Tok) (j:Nat):firstQ l opsT j 0=foldG opsR (textT l j false) 8:=by
 have e:∀ s:ByteArray,s≠⟨#[]⟩→seesT l j s=decide (textT l j false=s):=fun s hs=>(textT_sees hs).symm
 show firstT l j [⟨#[60]⟩,⟨#[60,61]⟩,⟨#[61]⟩,⟨#[33,61]⟩,⟨#[43]⟩,⟨#[45]⟩,⟨#[42]⟩] (0 + 1)=_
 simp only [firstT]
 rw [e _ (by decide),e _ (by decide),e _ (by decide),e _ (by decide),e _ (by decide),e _ (by decide),e _ (by decide)]
 generalize textT l j false=s
 have f8:foldG opsR s 8=if s=⟨#[42]⟩ then 7 else if s=⟨#[45]⟩ then 6 else if s=⟨#[43]⟩ then 5 else if s=⟨#[33,61]⟩ then 4 else if s=⟨#[61]⟩ then 3 else if s=⟨#[60,61]⟩ then 2 else if s=⟨#[60]⟩ then 1 else 0:=by
  rw [foldG_succ (by decide) (by decide),foldG_succ (by decide) (by decide),foldG_succ (by decide) (by decide),foldG_succ (by decide) (by decide),foldG_succ (by decide) (by decide),foldG_succ (by decide) (by decide),foldG_succ (by decide) (by decide)]
  rfl
 rw [f8]
 simp only [decide_eq_true_eq]
 by_cases h1:s=⟨#[60]⟩
 ·subst h1;decide
 by_cases h2:s=⟨#[60,61]⟩
 ·subst h2;decide
 by_cases h3:s=⟨#[61]⟩
 ·subst h3;decide
 by_cases h4:s=⟨#[33,61]⟩
 ·subst h4;decide
 by_cases h5:s=⟨#[43]⟩
 ·subst h5;decide
 by_cases h6:s=⟨#[45]⟩
 ·subst h6;decide
 by_cases h7:s=⟨#[42]⟩
 ·subst h7;decide
 simp only [h1,h2,h3,h4,h5,h6,h7,if_false]
theorem foldO_none:foldG opsR ⟨#[]⟩ 8=0:=by kernel_rfl
theorem foldO_text {s:ByteArray} (h:foldG opsR s 8≠0):∃ (q:Nat) (hq:q < opsR.length),foldG opsR s 8=q∧s=opsR[q]:=by
 have key:∀ k,k≤opsR.length→foldG opsR s k≠0→∃ (q:Nat) (hq:q < opsR.length),foldG opsR s k=q∧s=opsR[q]:=by
  intro k
  induction k with
  | zero=>intro _ h;exact absurd rfl h
  | succ k ih =>
   intro hk hne
   by_cases h0:k=0
   ·subst h0;exact absurd (by unfold foldG;rfl) hne
   ·rw [foldG_succ (by omega) (by omega)] at hne ⊢
    by_cases hs:s=opsR[k]
    ·rw [if_pos hs];exact⟨k,by omega,rfl,hs⟩
    ·rw [if_neg hs] at hne ⊢;exact ih (by omega) hne
 exact key 8 (by decide) h
set_option maxHeartbeats 8000000 in
theorem rneed_t (l:List Tok) (i:Nat) (e:Int) (s:ByteArray):FnOk false Tryz.prog tab tab_ok 37 [.loc 0 0,.d (.str s)] 1 1 (rdH l i e true) (fun k r H=>k=1∧r = .tup []∧H=rdH l i e true):=by
 refine fn_enterR _ Tryz.func37 rfl rfl (by kernel_rfl) ?_
 intro O w0 E0 β0
 repeat' (first|refine z0 ?_|apply ds_nil|apply dw_seq2|refine z16 ?_|apply dw_ret|refine z18 ?_|apply thenD_n|apply thenD_r)
 exact⟨.inl rfl,_,rfl,id,1,_,rdH l i e true,rfl,⟨rfl,trivial⟩,rfl,rfl,rfl,rfl,rfl,rfl,rfl,rfl,rfl⟩
theorem rneed_s (l:List Tok) (i:Nat) (e:Int) (s:ByteArray) (hi:i≤1000000) (h:textT l i false=s):FnOk false Tryz.prog tab tab_ok 37 [.loc 0 0,.d (.str s)] 1 1 (rdH l i e false) (fun k r H=>k=1∧r = .tup []∧H=rdH l (i + 1:Nat) e false):=by
 have w:=rneed_fn l i e false s hi
 rw [decide_eq_true h] at w
 exact w
theorem rneed_c (l:List Tok) (i:Nat) (e:Int) (f:Bool) (s:ByteArray) (hs:s≠⟨#[]⟩) (hi:i≤1000000):∃ j g,FnOk false Tryz.prog tab tab_ok 37 [.loc 0 0,.d (.str s)] 1 1 (rdH l i e f) (fun k r H=>k=1∧r = .tup []∧H=rdH l j e g) ∧
  ((f=false∧g=false∧j=i + 1∧seesT l i s=true)∨(g=true∧j=i∧(f=false→seesT l i s=false))):=by
 have w:=rneed_fn l i e f s hi
 cases f with
 | true=>exact⟨i,true,w,.inr ⟨rfl,rfl,fun h=>Bool.noConfusion h⟩⟩
 | false =>
  rw [textT_sees hs] at w
  cases h:seesT l i s with
  | true=>rw [h] at w;exact⟨i + 1,false,w,.inl ⟨rfl,rfl,rfl,rfl⟩⟩
  | false=>rw [h] at w;exact⟨i,true,w,.inr ⟨rfl,rfl,fun _=>rfl⟩⟩
abbrev rdB (l:List Tok) (i:Nat) (e:Int) (f:Bool):HB:=.blk 76 [.d (.slice 3 (l.map encTok)),.d (.int .i64 i),.d (.int .i64 e),.d (.bool f)]
def tlInv (l:List Tok) (p:PR (List TTm × Int)) (head:Bool) (j:Nat) (acc:List TTm) (F:Int) (more fl:Bool) (n:Nat):Prop:=j≤l.length∧match fl,more with
 | true,_=>p = .error j
 | false,true=>F=0∧p=termsGo l head n j acc∧l.length < n + j∧acc.length≤j
 | false,false=>p=if seesT l j ⟨#[41]⟩ then .ok ((acc,F),j + 1) else .error j
def tlM:Bool→Bool→Nat→Nat
 | false,true,n=>n + 1
 | _,_,_=>0
set_option maxHeartbeats 8000000 in
theorem rterms_out (l:List Tok) (i:Nat) (e:Int) (f head:Bool) (hi:i≤l.length) (hl:l.length≤900000) (hok:l.all tokOk=true):RdC 35 [.loc 0 0,.d (.bool head)] l i e f (rdP f i (termsT l i head)) (fun x=>.tup [.d (.slice 2 (x.1.map encTTm)),.d (.int .i64 x.2)]):=by
 refine fn_enterR _ Tryz.func35 rfl rfl (by kernel_rfl) ?_
 intro O w0 E0 β0
 have ll:(l.map encTok).length=l.length:=List.length_map _
 obtain⟨j0,f0,w1,h0⟩:=rneed_c l i e f ⟨#[40]⟩ (by decide) (by omega)
 have hj0:j0≤l.length:=by
  rcases h0 with ⟨_,_,rfl,h⟩|⟨_,rfl,_⟩
  ·exact seesT_lt h
  ·exact hi
 have w2:=rtext_fn l j0 e f0
 repeat' (first|refine z0 ?_|apply ds_nil|apply dw_seq2|refine z16 ?_|apply thenD_n)
 (refine ds_callF id (w1) rfl rfl rfl rfl ⟨rfl,trivial⟩ rfl rfl rfl rfl rfl rfl ?_ ?_)
 ·rintro k2 res H2 ⟨rfl,rfl,rfl⟩;exact⟨rfl,rfl⟩
 rintro k2 res H2 ⟨rfl,rfl,rfl⟩
 change DS _ _ _ _ _ _ _ _
 clear w1
 repeat' (first|refine z0 ?_|apply ds_nil|apply dw_seq2|refine z16 ?_|apply thenD_n)
 (refine ds_callF id (w2) rfl rfl rfl rfl ⟨rfl,trivial⟩ rfl rfl rfl rfl rfl rfl ?_ ?_)
 ·rintro k2 res H2 ⟨rfl,rfl,rfl⟩;exact⟨rfl,rfl⟩
 rintro k2 res H2 ⟨rfl,rfl,rfl⟩
 change DS _ _ _ _ _ _ _ _
 clear w2
 by_cases hc:textT l j0 f0=⟨#[41]⟩
 ·obtain⟨rfl,hs1⟩:=(text_is (by decide)).1 hc
  rcases h0 with ⟨rfl,_,rfl,hs⟩|⟨h,_⟩
  ·have w3:=rneed_s l (i + 1) e ⟨#[41]⟩ (by omega) hc
   have ht:termsT l i head = .ok (([],0),i + 2):=by rw [termsGo_none,hs,hs1];rfl
   have:=seesT_lt hs1
   rw [hc]
   repeat' (first|refine z0 ?_|apply ds_nil|apply dw_seq2|refine z16 ?_|refine z18 ?_|apply thenD_n)
   (refine ds_callF id (w3) rfl rfl rfl rfl ⟨rfl,trivial⟩ rfl rfl rfl rfl rfl rfl ?_ ?_)
   ·rintro k2 res H2 ⟨rfl,rfl,rfl⟩;exact⟨rfl,rfl⟩
   rintro k2 res H2 ⟨rfl,rfl,rfl⟩
   change DS _ _ _ _ _ _ _ _
   clear w3
   repeat' (first|refine z0 ?_|apply ds_nil|apply dw_seq2|refine z16 ?_|apply thenD_n)
   refine dw_ent (ent_nild 4 2 rfl) ?_
   repeat' (first|apply dw_ret|apply thenD_r)
   exact⟨.inl rfl,_,rfl,id,1,_,rdH l (i + 1 + 1:Nat) e false,rfl,⟨rfl,trivial⟩,rfl,rfl,rfl,rfl,rfl,rfl,rfl,([],0),_,false,rfl,rfl,ht⟩
  ·cases h
 obtain⟨p,hp⟩:∃ p,p=rdP f i (termsT l i head):=⟨_,rfl⟩
 rw [← hp]
 have hn:f0=false→seesT l j0 ⟨#[41]⟩=false:=fun h=>Bool.eq_false_iff.2 fun h2=>hc ((text_is (by decide)).2 ⟨h,h2⟩)
 generalize textT l j0 f0=t0 at hc
 repeat' (first|refine z0 ?_|apply ds_nil|apply dw_seq2|refine z16 ?_|apply dw_block|apply dw_skip|apply thenD_n|(refine z23 ?_ ?_ <;> intro hg)|fail)
 all_goals try (exfalso;exact absurd (by assumption) hc)
 refine dw_ent (ent_nilrow (t:=6) 49 2 rfl) ?_
 refine ds_loop (ι:=Nat × List TTm × Int × Bool × Bool × Nat) (fun x=>⟨2,[(0,.loc 0 0),(1,.d (.bool head)),(6,.row 1),(7,.d (.int .i64 x.2.2.1)),(8,.d (.bool x.2.2.2.1))],[(0,rdB l x.1 e x.2.2.2.2.1),(1,.row 49 2 (x.2.1.map encTTm))]⟩)
  (fun x=>tlInv l p head x.1 x.2.1 x.2.2.1 x.2.2.2.1 x.2.2.2.2.1 x.2.2.2.2.2) (fun x=>tlM x.2.2.2.2.1 x.2.2.2.1 x.2.2.2.2.2) (j0,[],0,true,f0,l.length + 1) ?_ (ent_ren (fun x=>match x with|0=>0|_=>_) ⟨rfl,rfl,rfl,rfl,rfl,trivial⟩ ⟨rfl,rfl,trivial⟩ rfl rfl rfl rfl rfl rfl) ?_
 ·refine⟨hj0,?_⟩
  rcases h0 with ⟨rfl,rfl,rfl,hs⟩|⟨rfl,rfl,h⟩
  ·refine⟨rfl,?_,by show l.length < l.length + 1 + (i + 1);omega,Nat.zero_le _⟩
   rw [hp];unfold rdP;dsimp only
   rw [termsGo_none,hs,hn rfl];rfl
  ·show p = .error j0
   rw [hp]
   cases f with
   | true=>rfl
   | false=>unfold rdP;dsimp only;rw [termsGo_none,h rfl];rfl
 clear h0 hn hp hj0 hc
 rintro⟨j,acc,F,more,fl,n⟩ ⟨hj,hinv⟩
 dsimp only at hj hinv ⊢
 cases fl with
 | true =>
  have hinv:p = .error j:=hinv
  have w3:=rneed_t l j e ⟨#[41]⟩
  cases more with
  | true =>
   repeat' (first|refine z0 ?_|apply ds_nil|apply dw_seq2|refine z16 ?_|apply dw_exit|refine z19 ?_|apply thenD_n|apply thenD_e|refine z17 ?_|fail)
   (refine ds_callF id (w3) rfl rfl rfl rfl ⟨rfl,trivial⟩ rfl rfl rfl rfl rfl rfl ?_ ?_)
   ·rintro k2 res H2 ⟨rfl,rfl,rfl⟩;exact⟨rfl,rfl⟩
   rintro k2 res H2 ⟨rfl,rfl,rfl⟩
   change DS _ _ _ _ _ _ _ _
   clear w3
   repeat' (first|refine z0 ?_|apply ds_nil|apply dw_seq2|refine z16 ?_|apply thenD_n)
   refine dw_ent (ent_seal 4 rfl rfl rfl) ?_
   repeat' (apply dw_ret)
   exact⟨.inl rfl,_,rfl,id,1,_,rdH l j e true,rfl,⟨rfl,trivial⟩,rfl,rfl,rfl,rfl,rfl,rfl,rfl,(acc,F),_,true,rfl,rfl,hinv⟩
  | false =>
   repeat' (first|refine z0 ?_|refine z12 ?_|apply ds_nil|apply dw_seq2|refine z16 ?_|apply dw_exit|refine z19 ?_|apply thenD_n|apply thenD_e|refine z17 ?_|fail)
   (refine ds_callF id (w3) rfl rfl rfl rfl ⟨rfl,trivial⟩ rfl rfl rfl rfl rfl rfl ?_ ?_)
   ·rintro k2 res H2 ⟨rfl,rfl,rfl⟩;exact⟨rfl,rfl⟩
   rintro k2 res H2 ⟨rfl,rfl,rfl⟩
   change DS _ _ _ _ _ _ _ _
   clear w3
   repeat' (first|refine z0 ?_|apply ds_nil|apply dw_seq2|refine z16 ?_|apply thenD_n)
   refine dw_ent (ent_seal 4 rfl rfl rfl) ?_
   repeat' (apply dw_ret)
   exact⟨.inl rfl,_,rfl,id,1,_,rdH l j e true,rfl,⟨rfl,trivial⟩,rfl,rfl,rfl,rfl,rfl,rfl,rfl,(acc,F),_,true,rfl,rfl,hinv⟩
 | false=>cases more with
  | false =>
   have hinv:p=if seesT l j ⟨#[41]⟩ then .ok ((acc,F),j + 1) else .error j:=hinv
   obtain⟨j2,g,w3,h3⟩:=rneed_c l j e false ⟨#[41]⟩ (by decide) (by omega)
   have hr:rdIs p (acc,F) j2 g:=by
    rcases h3 with ⟨_,rfl,rfl,h⟩|⟨rfl,rfl,h⟩
    ·show p=_;rw [hinv,h];rfl
    ·show p=_;rw [hinv,h rfl];rfl
   clear h3 hinv
   repeat' (first|refine z0 ?_|refine z12 ?_|apply ds_nil|apply dw_seq2|refine z16 ?_|apply dw_exit|refine z19 ?_|apply thenD_n|apply thenD_e|refine z17 ?_|fail)
   (refine ds_callF id (w3) rfl rfl rfl rfl ⟨rfl,trivial⟩ rfl rfl rfl rfl rfl rfl ?_ ?_)
   ·rintro k2 res H2 ⟨rfl,rfl,rfl⟩;exact⟨rfl,rfl⟩
   rintro k2 res H2 ⟨rfl,rfl,rfl⟩
   change DS _ _ _ _ _ _ _ _
   clear w3
   repeat' (first|refine z0 ?_|apply ds_nil|apply dw_seq2|refine z16 ?_|apply thenD_n)
   refine dw_ent (ent_seal 4 rfl rfl rfl) ?_
   repeat' (apply dw_ret)
   exact⟨.inl rfl,_,rfl,id,1,_,rdH l j2 e g,rfl,⟨rfl,trivial⟩,rfl,rfl,rfl,rfl,rfl,rfl,rfl,(acc,F),j2,g,rfl,rfl,hr⟩
  | true =>
   obtain⟨rfl,hgo,hn,ha⟩:F=0∧p=termsGo l head n j acc∧l.length < n + j∧acc.length≤j:=hinv
   obtain⟨m,rfl⟩:∃ m,n=m + 1:=⟨n - 1,by omega⟩
   rw [termsGo_succ] at hgo
   obtain⟨F,hF⟩:∃ F:Int,F=foldT l head j 0:=⟨_,rfl⟩
   rw [← hF] at hgo
   have w1:=rtext_fn l j e false
   repeat' (first|refine z0 ?_|apply ds_nil|apply dw_seq2|refine z16 ?_|apply dw_block|apply dw_skip|refine z18 ?_|apply thenD_n)
   (refine ds_callF id (w1) rfl rfl rfl rfl ⟨rfl,trivial⟩ rfl rfl rfl rfl rfl rfl ?_ ?_)
   ·rintro k2 res H2 ⟨rfl,rfl,rfl⟩;exact⟨rfl,rfl⟩
   rintro k2 res H2 ⟨rfl,rfl,rfl⟩
   change DS _ _ _ _ _ _ _ _
   clear w1
   obtain⟨s,hs⟩:∃ s,s=textT l j false:=⟨_,rfl⟩
   rw [← hs]
   repeat' ((fail_if_success (apply dw_stopR 10));(first|refine z0 ?_|apply ds_nil|apply thenD_n))
   refine dw_cut (ι:=Unit) (fun _=>⟨2,[(0,.loc 0 0),(1,.d (.bool head)),(6,.row 1),(7,.d (.int .i64 F)),(9,.d (.str s))],[(0,rdB l j e false),(1,.row 49 2 (acc.map encTTm))]⟩) (fun _=>True) ?_ ?_
   ·cases head with
    | false =>
     have hF:F=0:=hF
     subst hF
     repeat' (first|refine z0 ?_|apply ds_nil|apply dw_seq2|refine z16 ?_|apply dw_skip|refine z19 ?_|apply thenD_n)
     exact⟨(),trivial,ent_ren id ⟨rfl,rfl,rfl,rfl,rfl,trivial⟩ ⟨rfl,rfl,trivial⟩ rfl rfl rfl rfl rfl rfl⟩
    | true =>
     have lw:(wordsR.map encT).length=5:=rfl
     have hF5:foldS s 5=F:=by rw [hs,hF];exact (foldS_is l j).symm
     clear hF hgo
     repeat' (first|refine z0 ?_|apply ds_nil|apply dw_seq2|refine z16 ?_|apply dw_block|refine z18 ?_|apply thenD_n|refine z4 ?_|fail)
     refine ds_loop (ι:=Nat) (fun q=>⟨2,[(0,.loc 0 0),(1,.d (.bool true)),(6,.row 1),(7,.d (.int .i64 (foldS s q))),(9,.d (.str s)),(10,.d (.slice 1 (wordsR.map encT))),(11,.d (.int .i64 q))],[(0,rdB l j e false),(1,.row 49 2 (acc.map encTTm))]⟩)
      (fun q=>1≤q∧q≤5) (fun q=>5 - q) 1 ⟨by omega,by omega⟩ (ent_ren id ⟨rfl,rfl,rfl,rfl,rfl,rfl,rfl,trivial⟩ ⟨rfl,rfl,trivial⟩ rfl rfl rfl rfl rfl rfl) ?_
     rintro q ⟨h1,hq⟩
     dsimp only at h1 hq ⊢
     by_cases hq5:q < 5
     ·have hql:q < wordsR.length:=hq5
      have hstep:=foldS_succ (s:=s) h1 hql
      by_cases hsq:s=wordsR[q]
      ·rw [if_pos hsq] at hstep
       repeat' (first|refine z0 ?_|apply ds_nil|apply dw_seq2|refine z16 ?_|apply dw_block|apply dw_skip|apply dw_exit|apply thenD_n|apply thenD_e|apply inB_n|refine z17 ?_|(refine z23 ?_ ?_ <;> intro hg)|fail)
       all_goals try (exfalso;first|omega|exact absurd hsq (by assumption))
       exact⟨q + 1,⟨by omega,by omega⟩,ent_ren id ⟨rfl,rfl,rfl,congrArg (fun z=>SV.d (D.int .i64 z)) hstep.symm,rfl,rfl,rfl,trivial⟩ ⟨rfl,rfl,trivial⟩ rfl rfl rfl rfl rfl rfl,by show 5 - (q + 1) < 5 - q;omega⟩
      ·rw [if_neg hsq] at hstep
       repeat' (first|refine z0 ?_|apply ds_nil|apply dw_seq2|refine z16 ?_|apply dw_block|apply dw_skip|apply dw_exit|apply thenD_n|apply thenD_e|apply inB_n|refine z17 ?_|(refine z23 ?_ ?_ <;> intro hg)|fail)
       all_goals try (exfalso;first|omega|exact absurd (by assumption) hsq)
       exact⟨q + 1,⟨by omega,by omega⟩,ent_ren id ⟨rfl,rfl,rfl,congrArg (fun z=>SV.d (D.int .i64 z)) hstep.symm,rfl,rfl,rfl,trivial⟩ ⟨rfl,rfl,trivial⟩ rfl rfl rfl rfl rfl rfl,by show 5 - (q + 1) < 5 - q;omega⟩
     ·have:q=5:=by omega
      subst this
      rw [hF5]
      repeat' (first|refine z0 ?_|apply ds_nil|apply dw_seq2|refine z16 ?_|apply dw_exit|refine z19 ?_|apply thenD_n|apply thenD_e|refine z17 ?_|fail)
      all_goals try (exfalso;omega)
      exact⟨(),trivial,ent_ren id ⟨rfl,rfl,rfl,rfl,rfl,trivial⟩ ⟨rfl,rfl,trivial⟩ rfl rfl rfl rfl rfl rfl⟩
   ·intro _ _
    have hF0:0≤F:=by
     rw [hF]
     cases head with
     | false=>exact Int.le_refl _
     | true=>rw [foldS_is];exact (foldS_low _ _).1
    obtain⟨jf,hjf⟩:∃ jf:Nat,jf=if F≠0 then j + 1 else j:=⟨_,rfl⟩
    rw [← hjf] at hgo
    have hjl:jf≤l.length:=by
     rw [hjf]
     split
     ·rename_i h;rw [hF] at h;exact foldT_sees h
     ·exact hj
    refine dw_cut (ι:=Unit) (fun _=>⟨2,[(0,.loc 0 0),(1,.d (.bool head)),(6,.row 1),(7,.d (.int .i64 F))],[(0,rdB l jf e false),(1,.row 49 2 (acc.map encTTm))]⟩) (fun _=>True) ?_ ?_
    ·by_cases hz:F=0
     ·rw [if_neg (fun h=>h hz)] at hjf
      subst hjf
      clear hF hgo
      subst hz
      repeat' (first|refine z0 ?_|apply ds_nil|apply dw_seq2|refine z16 ?_|apply dw_skip|refine z19 ?_|apply thenD_n)
      all_goals try (exfalso;omega)
      exact⟨(),trivial,ent_ren id ⟨rfl,rfl,rfl,rfl,trivial⟩ ⟨rfl,rfl,trivial⟩ rfl rfl rfl rfl rfl rfl⟩
     ·rw [if_pos hz] at hjf
      subst hjf
      have w3:=rneed_s l j e s (by omega) hs.symm
      clear hF hgo hs
      repeat' (first|refine z0 ?_|apply ds_nil|apply dw_seq2|refine z16 ?_|apply dw_skip|apply thenD_n|(refine z23 ?_ ?_ <;> intro hg)|fail)
      all_goals try (exfalso;omega)
      (refine ds_callF id (w3) rfl rfl rfl rfl ⟨rfl,trivial⟩ rfl rfl rfl rfl rfl rfl ?_ ?_)
      ·rintro k2 res H2 ⟨rfl,rfl,rfl⟩;exact⟨rfl,rfl⟩
      rintro k2 res H2 ⟨rfl,rfl,rfl⟩
      change DS _ _ _ _ _ _ _ _
      clear w3
      repeat' (first|apply ds_nil|apply thenD_n)
      exact⟨(),trivial,ent_ren id ⟨rfl,rfl,rfl,rfl,trivial⟩ ⟨rfl,rfl,trivial⟩ rfl rfl rfl rfl rfl rfl⟩
    ·intro _ _
     clear hs hF
     have hjj:j≤jf:=by rw [hjf];split <;> omega
     have w4:=rterm_out l jf e false (by omega) hok
     repeat' (first|refine z0 ?_|apply dw_seq2|refine z16 ?_|fail)
     (refine ds_callF id (w4) rfl rfl rfl rfl ⟨rfl,trivial⟩ rfl rfl rfl rfl rfl rfl ?_ ?_)
     ·rintro k2 res H2 ⟨rfl,t,k,fl,rfl,rfl,_⟩;exact⟨rfl,rfl⟩
     rintro k2 res H2 ⟨rfl,t,k,fl,rfl,rfl,hk⟩
     change DS _ _ _ _ _ _ _ _
     clear w4 hjf
     have hk2:k≤l.length:=by
      cases fl with
      | false=>exact (termT_lt hk).2
      | true=>exact termT_err hjl hk
     have hk1:fl=false→jf < k:=fun h=>by subst h;exact (termT_lt hk).1
     have lac:(acc.map encTTm).length=acc.length:=List.length_map _
     have hap:(acc++[t]).map encTTm=acc.map encTTm++[encTTm t]:=List.map_append
     have w5:=rtext_fn l k e fl
     have hend:(F≠0∨textT l k fl≠⟨#[44]⟩)→tlInv l p head k (acc++[t]) F false fl m:=fun h=>by
      refine⟨hk2,?_⟩
      cases fl with
      | true =>
       have hk:termT l jf = .error k:=hk
       rw [hk] at hgo
       exact hgo
      | false =>
       have hk:termT l jf = .ok (t,k):=hk
       rw [hk] at hgo
       dsimp only at hgo
       rw [if_pos (h.imp id fun h=>Bool.eq_false_iff.2 fun h2=>h ((text_is (by decide)).2 ⟨rfl,h2⟩))] at hgo
       exact hgo
     by_cases hz:F=0
     ·subst hz
      repeat' (first|refine z0 ?_|apply ds_nil|apply dw_seq2|refine z16 ?_|apply thenD_n|refine z4 ?_|refine z2 ?_|fail)
      all_goals try (exfalso;omega)
      (refine ds_callF id (w5) rfl rfl rfl rfl ⟨rfl,trivial⟩ rfl rfl rfl rfl rfl rfl ?_ ?_)
      ·rintro k2 res H2 ⟨rfl,rfl,rfl⟩;exact⟨rfl,rfl⟩
      rintro k2 res H2 ⟨rfl,rfl,rfl⟩
      change DS _ _ _ _ _ _ _ _
      clear w5
      by_cases hsk:textT l k fl=⟨#[44]⟩
      ·clear hend
       obtain⟨rfl,hsk'⟩:=(text_is (by decide)).1 hsk
       have hk:termT l jf = .ok (t,k):=hk
       rw [hk] at hgo
       dsimp only at hgo
       rw [if_neg (by rintro (h|h);exact h rfl;rw [hsk'] at h;cases h)] at hgo
       have:=seesT_lt hsk'
       have:=hk1 rfl
       have w6:=rneed_s l k e ⟨#[44]⟩ (by omega) hsk
       rw [hsk]
       clear hk
       repeat' (first|refine z0 ?_|apply ds_nil|apply dw_seq2|refine z16 ?_|refine z18 ?_|apply thenD_n)
       all_goals try (exfalso;omega)
       (refine ds_callF id (w6) rfl rfl rfl rfl ⟨rfl,trivial⟩ rfl rfl rfl rfl rfl rfl ?_ ?_)
       ·rintro k2 res H2 ⟨rfl,rfl,rfl⟩;exact⟨rfl,rfl⟩
       rintro k2 res H2 ⟨rfl,rfl,rfl⟩
       change DS _ _ _ _ _ _ _ _
       clear w6
       repeat' (first|apply ds_nil|apply thenD_n|apply inB_n)
       exact⟨(k + 1,acc++[t],0,true,false,m),⟨by show k + 1≤l.length;omega,rfl,hgo,by show l.length < m + (k + 1);omega,by show (acc++[t]).length≤k + 1;rw [List.length_append];simp;omega⟩,ent_ren (fun x=>match x with|0=>0|_=>_) ⟨rfl,rfl,rfl,rfl,rfl,trivial⟩ ⟨rfl,by dsimp only;rw [hap];rfl,trivial⟩ rfl rfl rfl rfl rfl rfl,Nat.lt_succ_self _⟩
      ·have hinv:=hend (.inr hsk)
       clear hend hgo hk
       generalize textT l k fl=t1 at hsk
       repeat' (first|refine z0 ?_|apply ds_nil|apply dw_seq2|refine z16 ?_|apply dw_skip|apply thenD_n|apply inB_n|(refine z23 ?_ ?_ <;> intro hg)|fail)
       all_goals try (exfalso;first|omega|exact absurd (by assumption) hsk)
       exact⟨(k,acc++[t],0,false,fl,m),hinv,ent_ren (fun x=>match x with|0=>0|_=>_) ⟨rfl,rfl,rfl,rfl,congrArg (fun z=>SV.d (D.bool z)) (decide_eq_false hsk),trivial⟩ ⟨rfl,by dsimp only;rw [hap];rfl,trivial⟩ rfl rfl rfl rfl rfl rfl,by cases fl <;> exact Nat.succ_pos _⟩
     ·have hinv:=hend (.inl hz)
      clear hend hgo hk w5
      repeat' (first|refine z0 ?_|refine z12 ?_|apply ds_nil|apply dw_seq2|refine z16 ?_|apply dw_skip|refine z19 ?_|apply thenD_n|apply inB_n|refine z4 ?_|refine z2 ?_|((fail_if_success (apply ds_known;exact rfl));apply ds_guardP;exact rfl;exact rfl;exact rfl;all_goals intro hg))
      all_goals try (exfalso;omega)
      exact⟨(k,acc++[t],F,false,fl,m),hinv,ent_ren (fun x=>match x with|0=>0|_=>_) ⟨rfl,rfl,rfl,rfl,rfl,trivial⟩ ⟨rfl,by dsimp only;rw [hap];rfl,trivial⟩ rfl rfl rfl rfl rfl rfl,by cases fl <;> exact Nat.succ_pos _⟩
theorem rdIs_true {α:Type} {p:PR α} {x:α} {k m:Nat} {g:Bool} (h:rdIs (rdP true k p) x m g):g=true∧m=k:=by
 cases g with
 | false=>cases h
 | true=>injection (show Except.error k=Except.error m from h) with h;exact⟨rfl,h.symm⟩
theorem need_is {l:List Tok} {i j:Nat} {f g:Bool} {s:ByteArray} (h:(f=false∧g=false∧j=i + 1∧seesT l i s=true)∨(g=true∧j=i∧(f=false→seesT l i s=false))) :
  rdIs (rdP f i (if seesT l i s=true then .ok ((),i + 1) else .error i)) () j g:=by
 rcases h with ⟨rfl,rfl,rfl,h⟩|⟨rfl,rfl,h⟩
 ·show (if seesT l i s=true then _ else _)=_;rw [if_pos h]
 ·cases f with
  | true=>rfl
  | false=>show (if seesT l j s=true then _ else _)=_;rw [h rfl];rfl
theorem need_lt {l:List Tok} {i j:Nat} {f g:Bool} {s:ByteArray} (hi:i≤l.length) (h:(f=false∧g=false∧j=i + 1∧seesT l i s=true)∨(g=true∧j=i∧(f=false→seesT l i s=false))):j≤l.length:=by
 rcases h with ⟨_,_,rfl,h⟩|⟨_,rfl,_⟩
 ·exact seesT_lt h
 ·exact hi
theorem rdIs_lt {α:Type} {p:PR α} {l:List Tok} {i:Nat} {x:α} {k:Nat} {f g:Bool} (hi:i≤l.length) (ho:∀ j y,p = .ok (y,j)→j≤l.length) (he:∀ j,p = .error j→j≤l.length) (h:rdIs (rdP f i p) x k g):k≤l.length:=by
 cases f with
 | true=>obtain⟨_,rfl⟩:=rdIs_true h;exact hi
 | false=>cases g with
  | false=>exact ho _ _ h
  | true=>exact he _ h
theorem term_le {l:List Tok} {i k:Nat} {t:TTm} {f g:Bool} (hi:i≤l.length) (h:rdIs (rdP f i (termT l i)) t k g):k≤l.length:=rdIs_lt hi (fun _ _ h=>(termT_lt h).2) (fun _ h=>termT_err hi h) h
theorem name_le {l:List Tok} {i k:Nat} {t:ByteArray} {f g:Bool} (hi:i≤l.length) (h:rdIs (rdP f i (nameT l i)) t k g):k≤l.length:=rdIs_lt hi (fun _ _ h=>(nameT_lt h).2) (fun _ h=>nameT_err hi h) h
theorem terms_le {l:List Tok} {i k:Nat} {head:Bool} {t:List TTm × Int} {f g:Bool} (hi:i≤l.length) (h:rdIs (rdP f i (termsT l i head)) t k g):k≤l.length:=rdIs_lt hi (fun _ _ h=>(termsT_lt h).2) (fun _ h=>termsT_err hi h) h
theorem lit_not {l:List Tok} {e:Int} {i k m:Nat} {s:ByteArray} {x:List TTm × Int} {g g2:Bool} (hn:seesT l i ⟨#[110,111,116]⟩=true) (h1:rdIs (rdP false (i + 1) (nameT l (i + 1))) s k g) (h2:rdIs (rdP g k (termsT l k false)) x m g2) :
  rdIs (rdP false i (litT l e i)) (⟨2,hereT l e i,0,s,x.1⟩:TLt) m g2:=by
 obtain⟨ts,z⟩:=x
 unfold rdP litT
 rw [hn]
 dsimp only
 cases g with
 | true =>
  obtain⟨rfl,rfl⟩:=rdIs_true h2
  rw [show nameT l (i + 1) = .error m from h1]
  rfl
 | false =>
  rw [show nameT l (i + 1) = .ok (s,k) from h1]
  dsimp only
  cases g2 with
  | true=>rw [show termsT l k false = .error m from h2];rfl
  | false=>rw [show termsT l k false = .ok ((ts,z),m) from h2];rfl
theorem lit_yes {l:List Tok} {e:Int} {i k m:Nat} {s:ByteArray} {x:List TTm × Int} {g g2:Bool} (hn:seesT l i ⟨#[110,111,116]⟩=false) (ht:isTestT l i=false) (h1:rdIs (rdP false i (nameT l i)) s k g) (h2:rdIs (rdP g k (termsT l k false)) x m g2) :
  rdIs (rdP false i (litT l e i)) (⟨1,hereT l e i,0,s,x.1⟩:TLt) m g2:=by
 obtain⟨ts,z⟩:=x
 unfold rdP litT
 rw [hn,ht]
 dsimp only
 cases g with
 | true =>
  obtain⟨rfl,rfl⟩:=rdIs_true h2
  rw [show nameT l i = .error m from h1]
  rfl
 | false =>
  rw [show nameT l i = .ok (s,k) from h1]
  dsimp only
  cases g2 with
  | true=>rw [show termsT l k false = .error m from h2];rfl
  | false=>rw [show termsT l k false = .ok ((ts,z),m) from h2];rfl
theorem lit_op {l:List Tok} {e:Int} {i:Nat} (hn:seesT l i ⟨#[110,111,116]⟩=false) (ht:isTestT l i=true):litT l e i=match testT l i with
   | .error k=>.error k
   | .ok ((kind,op,ts),k)=>.ok (⟨kind,hereT l e i,op,⟨#[]⟩,ts⟩,k):=by
 unfold litT
 rw [hn,ht]
 rfl
theorem lit_test2 {l:List Tok} {e F:Int} {i k k' m:Nat} {a b:TTm} {f g g' g3:Bool} (hn:f=false→seesT l i ⟨#[110,111,116]⟩=false∧isTestT l i=true) (h1:rdIs (rdP f i (termT l i)) a k g) (hF:F=foldG opsR (textT l k g) 8)
  (h2:rdIs (rdP g k (if F=0 then .error k else .ok ((),k + 1))) () k' g') (h3:rdIs (rdP g' k' (termT l k')) b m g3) (h5:F < 5):rdIs (rdP f i (litT l e i)) (⟨3,hereT l e i,F,⟨#[]⟩,[a,b]⟩:TLt) m g3:=by
 cases f with
 | true =>
  obtain⟨rfl,rfl⟩:=rdIs_true h1
  obtain⟨rfl,rfl⟩:=rdIs_true h2
  obtain⟨rfl,rfl⟩:=rdIs_true h3
  rfl
 | false =>
  obtain⟨n1,n2⟩:=hn rfl
  unfold rdP
  dsimp only
  rw [lit_op n1 n2]
  unfold testT
  cases g with
  | true =>
   obtain⟨rfl,rfl⟩:=rdIs_true h2
   obtain⟨rfl,rfl⟩:=rdIs_true h3
   rw [show termT l i = .error m from h1]
   rfl
  | false =>
   rw [show termT l i = .ok (a,k) from h1]
   dsimp only
   rw [foldO_is,← hF]
   by_cases hz:F=0
   ·rw [if_pos hz] at h2
    rw [if_pos hz]
    cases g' with
    | false=>cases h2
    | true =>
     obtain⟨rfl,rfl⟩:=rdIs_true h3
     injection (show Except.error k=Except.error m from h2) with h
     subst h
     rfl
   ·rw [if_neg hz] at h2
    rw [if_neg hz]
    cases g' with
    | true=>cases h2
    | false =>
     injection (show Except.ok ((),k + 1)=Except.ok ((),k') from h2) with h
     injection h with _ h
     subst h
     cases g3 with
     | true=>rw [show termT l (k + 1) = .error m from h3];rfl
     | false =>
      rw [show termT l (k + 1) = .ok (b,m) from h3]
      dsimp only
      rw [if_pos h5]
      rfl
theorem lit_test3 {l:List Tok} {e F:Int} {i k k' m m' q:Nat} {a b c:TTm} {f g g' g3 g4 g5:Bool} (hn:f=false→seesT l i ⟨#[110,111,116]⟩=false∧isTestT l i=true) (h1:rdIs (rdP f i (termT l i)) a k g) (hF:F=foldG opsR (textT l k g) 8)
  (h2:rdIs (rdP g k (if F=0 then .error k else .ok ((),k + 1))) () k' g') (h3:rdIs (rdP g' k' (termT l k')) b m g3) (h5:¬ F < 5)
  (h4:rdIs (rdP g3 m (if seesT l m ⟨#[61]⟩=true then .ok ((),m + 1) else .error m)) () m' g4) (h6:rdIs (rdP g4 m' (termT l m')) c q g5):rdIs (rdP f i (litT l e i)) (⟨4,hereT l e i,F,⟨#[]⟩,[a,b,c]⟩:TLt) q g5:=by
 cases f with
 | true =>
  obtain⟨rfl,rfl⟩:=rdIs_true h1
  obtain⟨rfl,rfl⟩:=rdIs_true h2
  obtain⟨rfl,rfl⟩:=rdIs_true h3
  obtain⟨rfl,rfl⟩:=rdIs_true h4
  obtain⟨rfl,rfl⟩:=rdIs_true h6
  rfl
 | false =>
  obtain⟨n1,n2⟩:=hn rfl
  unfold rdP
  dsimp only
  rw [lit_op n1 n2]
  unfold testT
  cases g with
  | true =>
   obtain⟨rfl,rfl⟩:=rdIs_true h2
   obtain⟨rfl,rfl⟩:=rdIs_true h3
   obtain⟨rfl,rfl⟩:=rdIs_true h4
   obtain⟨rfl,rfl⟩:=rdIs_true h6
   rw [show termT l i = .error q from h1]
   rfl
  | false =>
   rw [show termT l i = .ok (a,k) from h1]
   dsimp only
   rw [foldO_is,← hF]
   rw [if_neg (show ¬ F=0 by omega)] at h2 ⊢
   cases g' with
   | true=>cases h2
   | false =>
    injection (show Except.ok ((),k + 1)=Except.ok ((),k') from h2) with h
    injection h with _ h
    subst h
    cases g3 with
    | true =>
     obtain⟨rfl,rfl⟩:=rdIs_true h4
     obtain⟨rfl,rfl⟩:=rdIs_true h6
     rw [show termT l (k + 1) = .error q from h3]
     rfl
    | false =>
     rw [show termT l (k + 1) = .ok (b,m) from h3]
     dsimp only
     rw [if_neg h5]
     by_cases hs:seesT l m ⟨#[61]⟩=true
     ·rw [if_pos hs]
      have h4:rdIs (if seesT l m ⟨#[61]⟩=true then Except.ok ((),m + 1) else Except.error m:PR Unit) () m' g4:=h4
      rw [if_pos hs] at h4
      cases g4 with
      | true=>cases h4
      | false =>
       injection (show Except.ok ((),m + 1)=Except.ok ((),m') from h4) with h
       injection h with _ h
       subst h
       cases g5 with
       | true=>rw [show termT l (m + 1) = .error q from h6];rfl
       | false=>rw [show termT l (m + 1) = .ok (c,q) from h6];rfl
     ·rw [if_neg hs]
      have h4:rdIs (if seesT l m ⟨#[61]⟩=true then Except.ok ((),m + 1) else Except.error m:PR Unit) () m' g4:=h4
      rw [if_neg hs] at h4
      cases g4 with
      | false=>cases h4
      | true =>
       injection (show Except.error m=Except.error m' from h4) with h
       subst h
       obtain⟨rfl,rfl⟩:=rdIs_true h6
       rfl
abbrev tlV (x:TLt):SV:=.agg [.d (.int .i64 x.kind),.d (.int .i64 x.at_),.d (.int .i64 x.op),.d (.str x.name),.d (.slice 2 (x.terms.map encTTm))]
set_option maxHeartbeats 8000000 in
theorem plit_fn (l:List Tok) (i:Nat) (e:Int) (hi:i≤l.length) (hl:l.length≤900000) (hok:l.all tokOk=true):FnOkE false Tryz.prog tab tab_ok 92 [.loc 0 0] 1 1 (prH l i e) (fun k r H=>∃ x j,litT l e i = .ok (x,j)∧k=1∧r=tlV x∧H=prH l j e) (fun v=>∃ j,litT l e i = .error j∧v=plV (hereT l e j)):=by
 refine fn_enterRE _ Tryz.func92 rfl rfl (by kernel_rfl) ?_
 intro O w0 E0 β0
 have ll:(l.map encTok).length=l.length:=List.length_map _
 have w0:=here_fn l i e
 repeat' (first|refine z0 ?_|apply ds_nil|apply dw_seq2|refine z16 ?_|apply thenD_n|refine z1 ?_|fail)
 (refine ds_callF id (w0) rfl rfl rfl rfl ⟨rfl,trivial⟩ rfl rfl rfl rfl rfl rfl ?_ ?_)
 ·rintro k2 res H2 ⟨rfl,rfl,rfl⟩;exact⟨rfl,rfl⟩
 rintro k2 res H2 ⟨rfl,rfl,rfl⟩
 change DS _ _ _ _ _ _ _ _
 clear w0
 have w1:=ptake_fn l i e ⟨#[110,111,116]⟩ (by omega)
 repeat' (first|refine z0 ?_|apply ds_nil|apply dw_seq2|refine z16 ?_|apply thenD_n|refine z1 ?_|refine z3 ?_|fail)
 (refine ds_callF id (w1) rfl rfl rfl rfl ⟨rfl,trivial⟩ rfl rfl rfl rfl rfl rfl ?_ ?_)
 ·rintro k2 res H2 ⟨rfl,rfl,rfl⟩;exact⟨rfl,rfl⟩
 rintro k2 res H2 ⟨rfl,rfl,rfl⟩
 change DS _ _ _ _ _ _ _ _
 clear w1
 unfold litT
 cases hn:seesT l i ⟨#[110,111,116]⟩ with
 | true =>
  have:=seesT_lt hn
  have w2:=pname_fn l (i + 1) e (by omega)
  dsimp only
  repeat' (first|refine z0 ?_|apply ds_nil|refine z5 ?_|refine z14 ?_|refine z10 ?_|apply dw_seq2|refine z16 ?_|refine z20 ?_|apply dw_skip|refine z18 ?_|refine z19 ?_|apply thenD_n|refine z3 ?_|fail)
  all_goals try (exfalso;omega)
  (refine ds_callE id (w2) rfl rfl rfl rfl ⟨rfl,trivial⟩ rfl rfl rfl rfl rfl rfl ?_ ?_ ?_)
  ·rintro v ⟨h,rfl⟩;exact⟨_,by rw [h],rfl⟩
  ·rintro k2 res H2 ⟨s,_,rfl,rfl,rfl⟩;exact⟨rfl,rfl⟩
  rintro k2 res H2 ⟨s,h2,rfl,rfl,rfl⟩
  change DS _ _ _ _ _ _ _ _
  clear w2
  rw [h2]
  dsimp only
  obtain⟨_,h2l⟩:=nameT_lt h2
  have w3:=pterms_fn l (i + 1 + 1) e false (by omega) hl hok
  repeat' (first|refine z0 ?_|apply ds_nil|apply dw_seq2|refine z16 ?_|apply thenD_n|refine z3 ?_|fail)
  all_goals try (exfalso;omega)
  (refine ds_callE id (w3) rfl rfl rfl rfl ⟨rfl,trivial⟩ rfl rfl rfl rfl rfl rfl ?_ ?_ ?_)
  ·rintro v ⟨m,h,rfl⟩;exact⟨m,by rw [h],rfl⟩
  ·rintro k2 res H2 ⟨x,f,j,_,_,rfl,rfl,rfl⟩;exact⟨rfl,rfl⟩
  rintro k2 res H2 ⟨x,f,j,h3,h3l,rfl,rfl,rfl⟩
  change DS _ _ _ _ _ _ _ _
  clear w3
  rw [h3]
  dsimp only
  repeat' (first|refine z0 ?_|apply ds_nil|apply dw_seq2|refine z16 ?_|apply dw_ret|apply thenD_n|refine z3 ?_|fail)
  all_goals try (exfalso;omega)
  exact⟨.inl rfl,_,rfl,id,1,_,prH l j e,rfl,⟨rfl,trivial⟩,rfl,rfl,rfl,rfl,rfl,rfl,⟨2,hereT l e i,0,s,x⟩,j,rfl,rfl,rfl,rfl⟩
 | false =>
  dsimp only
  by_cases hil:i < l.length
  ·by_cases hk:l[i].kind=1
   ·have ht:isTestT l i=false:=by unfold isTestT;rw [List.getElem?_eq_getElem hil];exact decide_eq_false (by omega)
    rw [ht]
    have w2:=pname_fn l (i) e (by omega)
    dsimp only
    repeat' (first|refine z0 ?_|apply ds_nil|refine z5 ?_|refine z14 ?_|refine z10 ?_|apply dw_seq2|refine z16 ?_|refine z20 ?_|apply dw_skip|refine z18 ?_|refine z19 ?_|apply thenD_n|(refine z23 ?_ ?_ <;> intro hg)|((fail_if_success (apply dt_known;exact rfl));apply dt_guardP;exact rfl;exact rfl;exact rfl;all_goals intro hg))
    all_goals try (exfalso;omega)
    (refine ds_callE id (w2) rfl rfl rfl rfl ⟨rfl,trivial⟩ rfl rfl rfl rfl rfl rfl ?_ ?_ ?_)
    ·rintro v ⟨h,rfl⟩;exact⟨_,by rw [h],rfl⟩
    ·rintro k2 res H2 ⟨s,_,rfl,rfl,rfl⟩;exact⟨rfl,rfl⟩
    rintro k2 res H2 ⟨s,h2,rfl,rfl,rfl⟩
    change DS _ _ _ _ _ _ _ _
    clear w2
    rw [h2]
    dsimp only
    obtain⟨_,h2l⟩:=nameT_lt h2
    have w3:=pterms_fn l (i + 1) e false (by omega) hl hok
    repeat' (first|refine z0 ?_|apply ds_nil|apply dw_seq2|refine z16 ?_|apply thenD_n|refine z3 ?_|fail)
    all_goals try (exfalso;omega)
    (refine ds_callE id (w3) rfl rfl rfl rfl ⟨rfl,trivial⟩ rfl rfl rfl rfl rfl rfl ?_ ?_ ?_)
    ·rintro v ⟨m,h,rfl⟩;exact⟨m,by rw [h],rfl⟩
    ·rintro k2 res H2 ⟨x,f,j,_,_,rfl,rfl,rfl⟩;exact⟨rfl,rfl⟩
    rintro k2 res H2 ⟨x,f,j,h3,h3l,rfl,rfl,rfl⟩
    change DS _ _ _ _ _ _ _ _
    clear w3
    rw [h3]
    dsimp only
    repeat' (first|refine z0 ?_|apply ds_nil|apply dw_seq2|refine z16 ?_|apply dw_ret|apply thenD_n|refine z3 ?_|fail)
    all_goals try (exfalso;omega)
    exact⟨.inl rfl,_,rfl,id,1,_,prH l j e,rfl,⟨rfl,trivial⟩,rfl,rfl,rfl,rfl,rfl,rfl,⟨1,hereT l e i,0,s,x⟩,j,rfl,rfl,rfl,rfl⟩
   ·have ht:isTestT l i=true:=by unfold isTestT;rw [List.getElem?_eq_getElem hil];exact decide_eq_true (by omega)
    rw [ht]
    have w4:=ptest_fn l i e (hereT l e i) hi hl hok
    dsimp only
    repeat' (first|refine z0 ?_|apply ds_nil|refine z5 ?_|refine z14 ?_|refine z10 ?_|apply dw_seq2|refine z16 ?_|refine z20 ?_|apply dw_skip|refine z18 ?_|refine z19 ?_|apply thenD_n|(refine z23 ?_ ?_ <;> intro hg)|((fail_if_success (apply dt_known;exact rfl));apply dt_guardP;exact rfl;exact rfl;exact rfl;all_goals intro hg))
    all_goals try (exfalso;omega)
    refine ds_callE (fun x=>match x with|0=>0|_=>2) w4 rfl rfl rfl rfl ⟨rfl,rfl,trivial⟩ rfl rfl rfl rfl rfl rfl ?_ ?_ ?_
    ·rintro v ⟨m,h,rfl⟩;exact⟨m,by rw [h],rfl⟩
    ·rintro k2 res H2 ⟨kd,op,ts,j,_,_,rfl,rfl,rfl⟩;exact⟨rfl,rfl⟩
    rintro k2 res H2 ⟨kd,op,ts,j,h4,h4l,rfl,rfl,rfl⟩
    change DS _ _ _ _ _ _ _ _
    clear w4
    rw [h4]
    dsimp only
    repeat' (first|refine z0 ?_|apply ds_nil|apply dw_seq2|refine z16 ?_|apply dw_ret|apply thenD_n|apply thenD_r|refine z3 ?_|fail)
    all_goals try (exfalso;omega)
    exact⟨.inl rfl,_,rfl,id,1,_,prH l j e,rfl,⟨rfl,trivial⟩,rfl,rfl,rfl,rfl,rfl,rfl,⟨kd,hereT l e i,op,⟨#[]⟩,ts⟩,j,rfl,rfl,rfl,rfl⟩
  ·have ht:isTestT l i=true:=by unfold isTestT;rw [List.getElem?_eq_none (by omega)]
   rw [ht]
   have w4:=ptest_fn l i e (hereT l e i) hi hl hok
   dsimp only
   repeat' (first|refine z0 ?_|apply ds_nil|refine z5 ?_|refine z14 ?_|refine z10 ?_|apply dw_seq2|refine z16 ?_|refine z20 ?_|apply dw_skip|refine z18 ?_|refine z19 ?_|apply thenD_n|(refine z23 ?_ ?_ <;> intro hg)|((fail_if_success (apply dt_known;exact rfl));apply dt_guardP;exact rfl;exact rfl;exact rfl;all_goals intro hg))
   all_goals try (exfalso;omega)
   refine ds_callE (fun x=>match x with|0=>0|_=>2) w4 rfl rfl rfl rfl ⟨rfl,rfl,trivial⟩ rfl rfl rfl rfl rfl rfl ?_ ?_ ?_
   ·rintro v ⟨m,h,rfl⟩;exact⟨m,by rw [h],rfl⟩
   ·rintro k2 res H2 ⟨kd,op,ts,j,_,_,rfl,rfl,rfl⟩;exact⟨rfl,rfl⟩
   rintro k2 res H2 ⟨kd,op,ts,j,h4,h4l,rfl,rfl,rfl⟩
   change DS _ _ _ _ _ _ _ _
   clear w4
   rw [h4]
   dsimp only
   repeat' (first|refine z0 ?_|apply ds_nil|apply dw_seq2|refine z16 ?_|apply dw_ret|apply thenD_n|apply thenD_r|refine z3 ?_|fail)
   all_goals try (exfalso;omega)
   exact⟨.inl rfl,_,rfl,id,1,_,prH l j e,rfl,⟨rfl,trivial⟩,rfl,rfl,rfl,rfl,rfl,rfl,⟨kd,hereT l e i,op,⟨#[]⟩,ts⟩,j,rfl,rfl,rfl,rfl⟩
end Go.Proofs.YtapciiffpnociabGreatDoor
namespace Go.Proofs.YtapciiffpnociabGreatDoor
open Go Go.RowKit
def flatD (xs:List (List D)):List SV:=xs.flatten.map .d
theorem flatD_len {es:Nat}:∀ {xs:List (List D)},(∀ x∈xs,x.length=es)→(flatD xs).length=xs.length * es
 | [],_=>by simp [flatD]
 | x::xs,h=>by
  have h1:=flatD_len (xs:=xs) fun y hy=>h y (List.mem_cons_of_mem _ hy)
  have h2:=h x (List.mem_cons_self ..)
  simp only [flatD,List.flatten_cons,List.map_append,List.length_append,List.length_map,List.length_cons,Nat.add_mul] at h1 ⊢
  omega
section
variable {P : Program} (w : World)
end
section
variable {Γ : Ctx} {k : Nat} {L : Sl} {H : Hp} {K : Next'} {ops : List Oper} {rest : List Oper} {t t' ty : TypeId} {x y : Operand}
end
end Go.Proofs.YtapciiffpnociabGreatDoor
namespace Go.Proofs.YtapciiffpnociabGreatDoor
open Go Go.RowKit
theorem flat_inv {X e w es}:∀ (xs:List (List D)) (us:List Value),(∀ x∈xs,x.length=es)→RelL X e w (flatD xs) us →
  ∀ i (hi:i < xs.length) j (hj:j < (xs[i]'hi).length),∃ v,us[i * es + j]? = some v∧RepC X w v ((xs[i]'hi)[j]'hj)
 | [],_,_,_,i,hi,_,_=>absurd hi (Nat.not_lt_zero _)
 | x::xs,us,hl,h,i,hi,j,hj=>by
  have hx:x.length=es:=hl x (List.mem_cons_self ..)
  have hcut:∀ (l:List D) (m:List SV) (us:List Value),RelL X e w (l.map .d++m) us→∃ a b,us=a++b∧a.length=l.length∧(∀ j (hj:j < l.length),∃ v,a[j]? = some v∧RepC X w v l[j])∧RelL X e w m b:=by
   intro l
   induction l with
   | nil=>intro m us h;exact⟨[],us,rfl,rfl,fun j hj=>absurd hj (Nat.not_lt_zero _),h⟩
   | cons y l ih =>
    intro m us h
    cases us with
    | nil=>exact h.elim
    | cons u us =>
     obtain⟨h1,h2⟩:=h
     obtain⟨a,b,rfl,q1,q2,q3⟩:=ih m us h2
     refine⟨u::a,b,rfl,by simp [q1],fun j hj=>?_,q3⟩
     cases j with
     | zero=>exact⟨u,rfl,h1⟩
     | succ j=>exact q2 j (Nat.lt_of_succ_lt_succ hj)
  have h':RelL X e w (x.map .d++flatD xs) us:=by
   have:flatD (x::xs)=x.map .d++flatD xs:=by simp [flatD]
   rw [← this];exact h
  obtain⟨a,b,rfl,q1,q2,q3⟩:=hcut x _ _ h'
  cases i with
  | zero =>
   obtain⟨v,hv,hr⟩:=q2 j hj
   have hja:j < a.length:=by rw [q1];exact hj
   refine⟨v,?_,hr⟩
   rw [Nat.zero_mul,Nat.zero_add,List.getElem?_append_left hja]
   exact hv
  | succ i =>
   obtain⟨v,hv,hr⟩:=flat_inv xs b (fun y hy=>hl y (List.mem_cons_of_mem _ hy)) q3 i (Nat.lt_of_succ_lt_succ hi) j hj
   refine⟨v,?_,hr⟩
   have:(i + 1) * es + j=a.length + (i * es + j):=by rw [q1,hx,Nat.succ_mul];omega
   rw [this,List.getElem?_append_right (Nat.le_add_right _ _),Nat.add_sub_cancel_left]
   exact hv
section
variable {Γ : Ctx} {k : Nat} {L : Sl} {H : Hp} {K : Next'} {ops : List Oper} {rest : List Oper} {t ty : TypeId}
theorem ds_bsR {d te es len:Nat} {pos:String} {af:Array Edge} {g:Option (Nat × Bool)} {ps:List (Nat × Operand)} {cs':List SV} (xs:List (List D)) (ht:Γ.sh t = .slice te) (hkn:(Γ.sh te).known=true) (hes:Γ.cells te=es) (hpos:Nat.blt 0 es=true) (hz:zeroOk (tiGet Γ.τ te).zero=true) (hzl:Nat.beq (tiGet Γ.τ te).zero.length (Γ.cells te)=true) (hok:partsOk ps=true)
  (hlen:Nat.ble (len * es) 16777216=true) (hf:fillSV (fun i=>some (i * es,es)) (initSV (zeroSV Γ.τ te) (len * es)) (partsSV L ps)=some cs') (hxs:cs' = flatD xs) (hxl:∀ x∈xs,x.length=es) (hln:xs.length=len) (hw:wantedSV ops L g=some true) (hd:Nat.blt d Γ.n=true)
  (hk:DS false Γ ops rest K (k + 1) ((d,.row k)::L) ((k,.row te es xs)::H)):DS false Γ ops (⟨some d,.buildSlice t len ps.toArray,ty,pos,af,g⟩::rest) K k L H:=by
 subst hxs
 refine dl_run hw fun e a w m=>?_
 obtain⟨vs',f2,f3,hrun⟩:=run_buildSlice (ty:=ty) ht hkn hes hpos hz hzl hok hlen hf m
 unfold Oper.wp
 rw [hrun]
 have hze:¬ e.dom k:=fun h=>lo_not k ((m.top k).1 h)
 have hlm:len≤maxLen:=by
  have h1:=Nat.le_of_ble_eq_true hlen
  have h2:=Nat.le_of_ble_eq_true hpos
  have:len≤len * es:=Nat.le_mul_of_pos_right _ h2
  unfold maxLen;omega
 have hvl:vs'.size=len * es:=by
  have:=RelL.length _ _ f2
  rw [flatD_len hxl,hln] at this
  simpa using this.symm
 have hη:(e.bindRow k (.slice (some ⟨w.heap.size,0,none⟩) len len)).η k = .slice (some ⟨w.heap.size,0,none⟩) len len:=if_pos rfl
 have m2:=(m.new (lo_not k) (hb:=.row te es xs) (e':=e.bindRow k (.slice (some ⟨w.heap.size,0,none⟩) len len)) (w':=w.alloc (.cells vs' te)) (fun i=>or_congr (m.top i) Iff.rfl) (e.bindRow_ext _ _ hze) (below_alloc Γ.dr _ _)
  (fun b hb=>by simp only [HB.owned,hη,Value.ownBlock,Option.some.injEq] at hb;omega) (fun hX=>by
   refine⟨vs'.toList,⟨by rw [hln];simpa using hvl,.inr ⟨w.heap.size,len,vs',by rw [hη,hln],Nat.zero_le _,heap_alloc_new w _,by rw [hln];exact Nat.le_refl _,hlm,hvl,List.take_of_length_le (by rw [Array.length_toList,hvl,hln];exact Nat.le_refl _)⟩⟩,fun i hi=>hxl _ (List.getElem_mem hi),fun v hv=>f3 v (by simpa using hv),?_⟩
   intro i hi j hj
   obtain⟨v,hv,hr⟩:=flat_inv xs _ hxl f2 i hi j hj
   exact⟨v,hv,RepC.keep (below_alloc Γ.dr w (.cells vs' te)).toBelow.size (fun b hb _=>(below_alloc Γ.dr w _).toBelow.block b hb) (fun b hb hy=>hX b hb hy) hr⟩)).cast (with1_lo k)
 exact⟨_,_,_,_,m2.put (s:=.row k) (v:=.slice (some ⟨w.heap.size,0,none⟩) len len) (Nat.le_of_ble_eq_true hd) ⟨.inr rfl,hη.symm,rfl⟩,hk⟩
end
end Go.Proofs.YtapciiffpnociabGreatDoor
namespace Go.Proofs.YtapciiffpnociabGreatDoor
open Go Go.RowKit
def strPs:Nat→List ByteArray→List (Nat × Operand)
 | _,[]=>[]
 | n,w::ws=>(n,.const (.string w))::strPs (n + 1) ws
theorem fill_strs (L:Sl):∀ (ws pre:List ByteArray) (z:SV),fillSV (fun i=>some (i * 1,1)) (pre.map (fun s=>SV.d (.str s))++List.replicate ws.length z) (partsSV L (strPs pre.length ws))=some ((pre++ws).map fun s=>SV.d (.str s))
 | [],pre,z=>by simp [fillSV,partsSV,strPs]
 | w::ws,pre,z=>by
  have ih:=fill_strs L ws (pre++[w]) z
  show fillSV _ _ ((pre.length,SV.d (.str w))::partsSV L (strPs (pre.length + 1) ws))=_
  have hl:(pre++[w]).length=pre.length + 1:=by simp
  rw [hl] at ih
  unfold fillSV
  dsimp only
  have hc:(Nat.beq (SV.d (.str w)).cells.length 1 && ((SV.d (.str w)).isVar && Nat.ble (pre.length * 1 + 1) (pre.map (fun s=>SV.d (.str s))++List.replicate (w::ws).length z).length))=true:=by
   have:Nat.ble (pre.length * 1 + 1) (pre.map (fun s=>SV.d (.str s))++List.replicate (w::ws).length z).length=true:=Nat.ble_eq_true_of_le (by simp)
   rw [this];rfl
  rw [hc]
  dsimp only
  have hs:splice (pre.map (fun s=>SV.d (.str s))++List.replicate (w::ws).length z) (pre.length * 1) (SV.d (.str w)).cells=(pre++[w]).map (fun s=>SV.d (.str s))++List.replicate ws.length z:=by
   unfold splice
   rw [Nat.mul_one]
   have h1:(pre.map (fun s=>SV.d (.str s))++List.replicate (w::ws).length z).take pre.length=pre.map fun s=>SV.d (.str s):=by
    rw [List.take_append_of_le_length (by simp)];rw [List.take_of_length_le (by simp)]
   have h2:(pre.map (fun s=>SV.d (.str s))++List.replicate (w::ws).length z).drop (pre.length + (SV.d (.str w)).cells.length)=List.replicate ws.length z:=by
    show (pre.map (fun s=>SV.d (.str s))++List.replicate (ws.length + 1) z).drop (pre.length + 1)=_
    rw [List.drop_append]
    simp
   rw [h1,h2]
   simp [SV.cells]
  rw [hs,ih]
  simp
theorem rows_strs:∀ (ws:List ByteArray),rowsOf [0] 1 ws.length (ws.map fun s=>SV.d (.str s))=some (ws.map fun s=>[D.str s])
 | []=>rfl
 | w::ws=>by
  show (match toDs [0] [SV.d (.str w)],rowsOf [0] 1 ws.length (ws.map fun s=>SV.d (.str s)) with
   | some x,some xs=>some (x::xs)
   | _,_=>none)=_
  rw [rows_strs ws]
  rfl
section
variable {Γ : Ctx} {k : Nat} {L : Sl} {H : Hp} {K : Next'} {ops : List Oper} {rest : List Oper} {t ty : TypeId}
theorem ds_bsS (ws:List ByteArray) {d te len:Nat} {pos:String} {af:Array Edge} {g:Option (Nat × Bool)} {ps:List (Nat × Operand)} (ht:Γ.sh t = .slice te) (hkn:(Γ.sh te).known=true) (hes:Γ.cells te=1) (hz:zeroOk (tiGet Γ.τ te).zero=true) (hzl:Nat.beq (tiGet Γ.τ te).zero.length (Γ.cells te)=true)
  (hps:ps=strPs 0 ws) (hok:partsOk (strPs 0 ws)=true) (hln:len=ws.length) (hlen:Nat.ble len 16777216=true) (hce:cellEs Γ.τ 4 te=[0]) (hw:wantedSV ops L g=some true) (hd:Nat.blt d Γ.n=true)
  (hk:DS false Γ ops rest K k ((d,.d (.slice 1 (ws.map fun s=>[D.str s])))::L) H):DS false Γ ops (⟨some d,.buildSlice t len ps.toArray,ty,pos,af,g⟩::rest) K k L H:=by
 subst hps
 subst hln
 have hzn:(zeroSV Γ.τ te).length=1:=by
  unfold zeroSV
  rw [List.length_map,Nat.eq_of_beq_eq_true hzl,hes]
 have hini:initSV (zeroSV Γ.τ te) (ws.length * 1)=List.replicate ws.length ((zeroSV Γ.τ te).getD 0 .junk):=by
  unfold initSV
  rw [Nat.mul_one]
  apply List.ext_getElem
  ·simp
  ·intro i h1 h2
   simp [hzn,Nat.mod_one]
 refine dl_buildSlice (cs':=ws.map fun s=>SV.d (.str s)) ht hkn hes rfl hz hzl hok (by rw [Nat.mul_one];exact hlen) ?_ ?_ (by rw [hce];exact rows_strs ws) hw hd hk
 ·rw [hini]
  have:=fill_strs L ws [] ((zeroSV Γ.τ te).getD 0 .junk)
  simpa using this
 ·rw [List.length_map,Nat.mul_one]
  exact Nat.beq_refl _
end
end Go.Proofs.YtapciiffpnociabGreatDoor
