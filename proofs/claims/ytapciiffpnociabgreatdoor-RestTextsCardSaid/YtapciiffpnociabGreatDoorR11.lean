/- Several texts in one: TreC TreD TreE GxTail GxSpl TreF TreG. Condition: none. -/
import Derived.Test.YtapciiffpnociabGreatDoorR10
import Derived.Test.YtapciiffpnociabGreatDoorR04
import Derived.Test.YtapciiffpnociabGreatDoorR08
import Derived.Test.YtapciiffpnociabGreatDoorR09
namespace Go.Proofs.YtapciiffpnociabGreatDoor
open Go Go.RowKit
theorem fnp_of_callsA {P:Program} {τ:List (Nat × TI)} {τok:TabOk P τ} {f:FuncId} {args:List SV} {R:SV→Prop} (hcall:callable P f=true)
  (h:∀ (X:Nat→Prop) (e:Env) (w:World) (vs:List Value),RelL X e w args vs→Calls P f vs.toArray w fun en w'=>∃ v r,en = .returned v∧R r∧r.low 0=true∧(∀ Y,Rel Y e w' r v)∧Below w.heap.size w w') :
  FnP false P τ τok f args R:=by
 refine⟨hcall,fun O e w vs hH hr=>(h _ e w vs hr).mono ?_⟩
 rintro en w' ⟨v,r,h1,h2,h3,h4,h5⟩
 refine⟨0,r,[],e,v,⟨rfl,h3,h2⟩,h1,?_,h4 _⟩
 exact { top:=hH.top,heap:=(fun p hp=>nomatch hp),ids:=.nil,nodup:=.nil,mine:=(fun b hb=>nomatch hb),os:=h5.os,tape:=h5.tape,output:=h5.output,drawn:=(fun h=>nomatch h),size:=h5.size,block:=(fun b hb _=>h5.block b hb),obound:=hH.obound,tabs:=hH.tabs,jle:=hH.jle,anchor:=hH.anchor }
theorem bytes_below (w:World) (e:TypeId) (s:ByteArray):Below w.heap.size w (Lib.bytesWorld w e s) :=
 ⟨rfl,rfl,rfl,by rw [Lib.bytesWorld_size];exact Nat.le_succ _,fun k hk=>Lib.bytesWorld_at_old w e s k hk⟩
theorem atoi_fn (s:ByteArray) (n:Int) (hl:s.size≤18) (h:Lib.atoi s.data.toList=some n) (hn:(Lit.int .i64 n).wf=true):Fn 116 [.d (.str s)] (fun r=>r = .tup [.d (.int .i64 n),.val .nilIface]):=by
 refine fnp_of_callsA (by kernel_rfl) fun X e w vs hr=>?_
 obtain⟨v1,rfl,h1⟩:∃ v1,vs=[v1]∧Rel X e w (.d (.str s)) v1:=by
  match vs,hr with
  | [v1],⟨h1,_⟩=>exact⟨v1,rfl,h1⟩
 cases h1
 refine (Any.strconv_Atoi Tryz.lays172 s n hl h w).mono ?_
 rintro en w' ⟨h3,t,rfl⟩
 exact⟨_,_,h3,rfl,rfl,fun _=>⟨_,rfl,⟨.int hn,rfl,trivial⟩⟩,bytes_below _ _ _⟩
theorem decFrom_num:∀ (l:List UInt8) (a:Nat),(∀ c∈l,digitB c=true)→∃ m:Nat,Lib.decFrom a l=some m∧(m:Int)=l.foldl (fun n c=>10 * n + ((c.toNat:Int) - 48)) (a:Int)
 | [],a,_=>⟨a,rfl,rfl⟩
 | c::l,a,h=>by
  have hc:=h c (List.mem_cons_self ..)
  unfold digitB at hc
  simp only [Bool.and_eq_true,decide_eq_true_eq] at hc
  have hd:Lib.digitVal c=some (c.toNat - 48):=by unfold Lib.digitVal;rw [if_pos (by omega)]
  obtain⟨m,h1,h2⟩:=decFrom_num l (a * 10 + (c.toNat - 48)) fun x hx=>h x (List.mem_cons_of_mem _ hx)
  refine⟨m,by unfold Lib.decFrom;rw [hd];exact h1,?_⟩
  rw [h2,List.foldl_cons]
  congr 1
  omega
theorem atoi_num {s:ByteArray} (h0:0 < s.size) (h:∀ c∈s.data.toList,digitB c=true):Lib.atoi s.data.toList=some (numT s):=by
 unfold numT
 have hl:s.data.toList.length=s.size:=Array.length_toList
 generalize s.data.toList=l at *
 cases l with
 | nil=>simp at hl;omega
 | cons b r =>
  have hb:=h b (List.mem_cons_self ..)
  unfold digitB at hb
  simp only [Bool.and_eq_true,decide_eq_true_eq] at hb
  obtain⟨m,h1,h2⟩:=decFrom_num (b::r) 0 h
  unfold Lib.atoi
  have e1:(b == 45)=false:=by cases hx:b == 45 with|false=>rfl|true=>rw [eq_of_beq hx] at hb;revert hb;decide
  have e2:(b == 43)=false:=by cases hx:b == 43 with|false=>rfl|true=>rw [eq_of_beq hx] at hb;revert hb;decide
  dsimp only
  rw [e1,e2]
  unfold Lib.decNat
  simp only [List.isEmpty_cons,Bool.false_eq_true,if_false,h1,Option.map_some]
  rw [h2];rfl
theorem ok_num {t:Tok} (h:tokOk t=true) (hk:t.kind=3):0 < t.text.size∧t.text.size≤7∧∀ c∈t.text.data.toList,digitB c=true:=by
 obtain⟨h0,_,h2,h3⟩:=ok_parts h
 rw [hk] at h2 h3
 refine⟨h0,?_,?_⟩
 ·unfold tokErr at h3
  rw [if_neg (by decide)] at h3
  split at h3
  ·cases h3
  ·omega
 ·have hl:t.text.data.toList.length=t.text.size:=Array.length_toList
  rw [← hl] at h2
  generalize t.text.data.toList=l at *
  cases l with
  | nil=>intro c hc;cases hc
  | cons c r =>
   rw [tokAt_cons] at h2
   by_cases a:letterB c=true
   ·rw [if_pos a] at h2
    exfalso
    have:=(Prod.mk.inj h2).1
    split at this <;> cases this
   ·rw [if_neg a] at h2
    by_cases b:digitB c=true
    ·rw [if_pos b] at h2
     have h4:=(Prod.mk.inj h2).2
     rw [List.length_cons] at h4
     have:∀ l:List UInt8,takeW digitB l=l.length→∀ c∈l,digitB c=true:=by
      intro l
      induction l with
      | nil=>intro _ c hc;cases hc
      | cons x xs ih =>
       intro hx c hc
       unfold takeW at hx
       by_cases hd:digitB x=true
       ·rw [if_pos hd] at hx
        rcases List.mem_cons.1 hc with rfl|hc
        ·exact hd
        ·exact ih (by simpa using hx) c hc
       ·rw [if_neg hd] at hx;simp at hx
     intro x hx
     rcases List.mem_cons.1 hx with rfl|hx
     ·exact b
     ·exact this r (by omega) x hx
    ·rw [if_neg b] at h2
     exfalso
     by_cases d:pairB (c::r)=true
     ·rw [if_pos d] at h2;exact absurd (Prod.mk.inj h2).1 (by decide)
     ·rw [if_neg d] at h2
      by_cases g:signs.contains c=true
      ·rw [if_pos g] at h2;exact absurd (Prod.mk.inj h2).1 (by decide)
      ·rw [if_neg g] at h2;exact absurd (Prod.mk.inj h2).1 (by decide)
theorem numT_bound {t:Tok} (h:tokOk t=true) (hk:t.kind=3):0≤numT t.text∧numT t.text≤9999999:=by
 obtain⟨h0,h7,hd⟩:=ok_num h hk
 have hl:t.text.data.toList.length=t.text.size:=Array.length_toList
 unfold numT
 have key:∀ (l:List UInt8) (a:Int) (k:Nat),(∀ c∈l,digitB c=true)→0≤a→a < 10 ^ k→0≤l.foldl (fun n c=>10 * n + ((c.toNat:Int) - 48)) a∧l.foldl (fun n c=>10 * n + ((c.toNat:Int) - 48)) a < 10 ^ (k + l.length):=by
  intro l
  induction l with
  | nil=>intro a k _ h0 h1;exact⟨h0,h1⟩
  | cons c l ih =>
   intro a k hd h0 h1
   have hc:=hd c (List.mem_cons_self ..)
   unfold digitB at hc
   simp only [Bool.and_eq_true,decide_eq_true_eq] at hc
   have:=ih (10 * a + ((c.toNat:Int) - 48)) (k + 1) (fun x hx=>hd x (List.mem_cons_of_mem _ hx)) (by omega) (by rw [Int.pow_succ];omega)
   rw [List.foldl_cons,List.length_cons,show k + (l.length + 1)=k + 1 + l.length by omega]
   exact this
 have:=key t.text.data.toList 0 0 hd (Int.le_refl _) (by decide)
 refine⟨this.1,?_⟩
 have h2:=this.2
 rw [hl,Nat.zero_add] at h2
 have:(10:Int) ^ t.text.size≤10 ^ 7:=by
  have h3:(10:Nat) ^ t.text.size≤10 ^ 7:=Nat.pow_le_pow_right (by decide) h7
  exact_mod_cast h3
 have h4:(10:Int) ^ 7=10000000:=by decide
 omega
attribute [local irreducible] DW DS DL DQ Ev FnOk FnP FnOkE thenD inBlockD
abbrev tmV (t:TTm):SV:=.agg [.d (.str t.var),.d (.int .i64 t.n)]
theorem i64_wf {n:Int} (h1:-9223372036854775808≤n) (h2:n≤9223372036854775807):(Lit.int .i64 n).wf=true:=by
 simp [Lit.wf,IntKind.min,IntKind.max,IntKind.bits,IntKind.signed]
 omega
set_option maxHeartbeats 8000000 in
theorem pterm_fn (l:List Tok) (i:Nat) (e:Int) (hi:i≤1000000) (hok:l.all tokOk=true):FnOkE false Tryz.prog tab tab_ok 107 [.loc 0 0] 1 1 (prH l i e) (fun k r H=>∃ t j,termT l i = .ok (t,j)∧j≤i + 2∧k=1∧r=tmV t∧H=prH l j e) (fun v=>∃ j,termT l i = .error j∧v=plV (hereT l e j)):=by
 refine fn_enterRE _ Tryz.func107 rfl rfl (by kernel_rfl) ?_
 intro O w0 E0 β0
 have ll:(l.map encTok).length=l.length:=List.length_map _
 have w1:=ptake_fn l i e ⟨#[45]⟩ hi
 repeat' (first|refine z0 ?_|apply ds_nil|apply dw_seq2|refine z16 ?_|apply thenD_n|refine z1 ?_|fail)
 (refine ds_callF id (w1) rfl rfl rfl rfl ⟨rfl,trivial⟩ rfl rfl rfl rfl rfl rfl ?_ ?_)
 ·rintro k2 res H2 ⟨rfl,rfl,rfl⟩;exact⟨rfl,rfl⟩
 rintro k2 res H2 ⟨rfl,rfl,rfl⟩
 change DS _ _ _ _ _ _ _ _
 clear w1
 unfold termT
 cases seesT l i ⟨#[45]⟩ with
 | true =>
  dsimp only
  by_cases hl:i + 1 < l.length
  ·rw [List.getElem?_eq_getElem hl]
   dsimp only
   have hot:=List.all_eq_true.1 hok _ (List.getElem_mem hl)
   rw [if_neg (fun h=>Bool.noConfusion h.2)]
   by_cases hk:l[i + 1].kind=3∧l[i + 1].text≠⟨#[48]⟩
   ·obtain⟨b1,b2⟩:=numT_bound hot hk.1
    obtain⟨c1,c2,c3⟩:=ok_num hot hk.1
    have w3:=atoi_fn l[i + 1].text (numT l[i + 1].text) (by omega) (atoi_num c1 c3) (i64_wf (by omega) (by omega))
    rw [if_neg (fun h=>h.elim (fun h=>h hk.1) (fun h=>hk.2 h.2))]
    repeat' (first|refine z0 ?_|refine z12 ?_|apply ds_nil|refine z5 ?_|refine z6 ?_|refine z7 ?_|refine z10 ?_|refine z11 ?_|apply dw_seq2|refine z16 ?_|refine z20 ?_|apply dw_block|apply dw_skip|apply dw_ret|refine z18 ?_|refine z19 ?_|apply thenD_n|apply inB_n|refine z21 ?_ (hc:=by apply w3)|refine z3 ?_|(refine z23 ?_ ?_ <;> intro hg)|((fail_if_success (apply ds_known;exact rfl));apply ds_guardP;exact rfl;exact rfl;exact rfl;all_goals intro hg))
    all_goals try (exfalso;first|omega|exact absurd (by assumption) hk.2)
    exact⟨.inl rfl,_,rfl,id,1,_,prH l (i + 1 + 1:Nat) e,rfl,⟨rfl,trivial⟩,rfl,rfl,rfl,rfl,rfl,rfl,_,_,rfl,by omega,rfl,rfl,rfl⟩
   ·rw [if_pos (Classical.or_iff_not_imp_left.2 fun h=>⟨rfl,Classical.byContradiction fun h2=>hk ⟨Classical.byContradiction h,h2⟩⟩)]
    have w2:=fail_fn l (i + 1) e
    repeat' (first|refine z0 ?_|refine z12 ?_|apply ds_nil|refine z5 ?_|refine z6 ?_|refine z7 ?_|refine z10 ?_|refine z11 ?_|apply dw_seq2|refine z16 ?_|refine z20 ?_|apply dw_block|apply dw_skip|refine z18 ?_|refine z19 ?_|apply thenD_n|apply inB_n|refine z3 ?_|(refine z23 ?_ ?_ <;> intro hg)|((fail_if_success (apply ds_known;exact rfl));apply ds_guardP;exact rfl;exact rfl;exact rfl;all_goals intro hg))
    all_goals try (exfalso;first|omega|exact hk ⟨by omega,by assumption⟩)
    all_goals (refine ds_callE id w2 rfl rfl rfl rfl ⟨rfl,trivial⟩ rfl rfl rfl rfl rfl rfl ?_ ?_ ?_;(rintro v rfl;exact⟨_,rfl,rfl⟩);(rintro _ _ _ h;exact h.elim);(rintro _ _ _ h;exact h.elim))
  ·rw [List.getElem?_eq_none (by omega)]
   dsimp only
   have w2:=fail_fn l (i + 1) e
   repeat' (first|refine z0 ?_|refine z12 ?_|apply ds_nil|refine z5 ?_|refine z6 ?_|refine z7 ?_|refine z10 ?_|refine z11 ?_|apply dw_seq2|refine z16 ?_|refine z20 ?_|apply dw_block|apply dw_skip|refine z18 ?_|refine z19 ?_|apply thenD_n|apply inB_n|refine z3 ?_|(refine z23 ?_ ?_ <;> intro hg)|((fail_if_success (apply ds_known;exact rfl));apply ds_guardP;exact rfl;exact rfl;exact rfl;all_goals intro hg))
   all_goals try (exfalso;omega)
   refine ds_callE id w2 rfl rfl rfl rfl ⟨rfl,trivial⟩ rfl rfl rfl rfl rfl rfl ?_ ?_ ?_
   ·rintro v rfl;exact⟨_,rfl,rfl⟩
   ·rintro _ _ _ h;exact h.elim
   ·rintro _ _ _ h;exact h.elim
 | false =>
  dsimp only
  by_cases hl:i < l.length
  ·rw [List.getElem?_eq_getElem hl]
   dsimp only
   have hot:=List.all_eq_true.1 hok _ (List.getElem_mem hl)
   by_cases hv:l[i].kind=2
   ·rw [if_pos ⟨hv,rfl⟩]
    repeat' (first|refine z0 ?_|refine z12 ?_|apply ds_nil|refine z5 ?_|refine z6 ?_|refine z7 ?_|refine z10 ?_|refine z11 ?_|apply dw_seq2|refine z16 ?_|refine z20 ?_|apply dw_block|apply dw_skip|apply dw_ret|refine z18 ?_|refine z19 ?_|apply thenD_n|apply thenD_r|apply inB_n|apply inB_r|refine z3 ?_|(refine z23 ?_ ?_ <;> intro hg)|((fail_if_success (apply ds_known;exact rfl));apply ds_guardP;exact rfl;exact rfl;exact rfl;all_goals intro hg))
    all_goals try (exfalso;omega)
    exact⟨.inl rfl,_,rfl,id,1,_,prH l (i + 1:Nat) e,rfl,⟨rfl,trivial⟩,rfl,rfl,rfl,rfl,rfl,rfl,_,_,rfl,by omega,rfl,rfl,rfl⟩
   rw [if_neg (fun h=>hv h.1)]
   by_cases hk:l[i].kind=3
   ·obtain⟨b1,b2⟩:=numT_bound hot hk
    obtain⟨c1,c2,c3⟩:=ok_num hot hk
    have w3:=atoi_fn l[i].text (numT l[i].text) (by omega) (atoi_num c1 c3) (i64_wf (by omega) (by omega))
    rw [if_neg (fun h=>h.elim (fun h=>h hk) (fun h=>Bool.noConfusion h.1))]
    repeat' (first|refine z0 ?_|refine z12 ?_|apply ds_nil|refine z5 ?_|refine z6 ?_|refine z7 ?_|refine z10 ?_|refine z11 ?_|apply dw_seq2|refine z16 ?_|refine z20 ?_|apply dw_block|apply dw_skip|apply dw_ret|refine z18 ?_|refine z19 ?_|apply thenD_n|apply thenD_r|apply inB_n|apply inB_r|refine z21 ?_ (hc:=by apply w3)|refine z3 ?_|(refine z23 ?_ ?_ <;> intro hg)|((fail_if_success (apply ds_known;exact rfl));apply ds_guardP;exact rfl;exact rfl;exact rfl;all_goals intro hg))
    all_goals try (exfalso;first|omega|exact absurd (by assumption) hk.2)
    exact⟨.inl rfl,_,rfl,id,1,_,prH l (i + 1:Nat) e,rfl,⟨rfl,trivial⟩,rfl,rfl,rfl,rfl,rfl,rfl,_,_,rfl,by omega,rfl,rfl,rfl⟩
   ·rw [if_pos (.inl hk)]
    have w2:=fail_fn l (i) e
    repeat' (first|refine z0 ?_|refine z12 ?_|apply ds_nil|refine z5 ?_|refine z6 ?_|refine z7 ?_|refine z10 ?_|refine z11 ?_|apply dw_seq2|refine z16 ?_|refine z20 ?_|apply dw_block|apply dw_skip|refine z18 ?_|refine z19 ?_|apply thenD_n|apply inB_n|refine z3 ?_|(refine z23 ?_ ?_ <;> intro hg)|((fail_if_success (apply ds_known;exact rfl));apply ds_guardP;exact rfl;exact rfl;exact rfl;all_goals intro hg))
    all_goals try (exfalso;first|omega|exact hk ⟨by omega,by assumption⟩)
    all_goals (refine ds_callE id w2 rfl rfl rfl rfl ⟨rfl,trivial⟩ rfl rfl rfl rfl rfl rfl ?_ ?_ ?_;(rintro v rfl;exact⟨_,rfl,rfl⟩);(rintro _ _ _ h;exact h.elim);(rintro _ _ _ h;exact h.elim))
  ·rw [List.getElem?_eq_none (by omega)]
   dsimp only
   have w2:=fail_fn l (i) e
   repeat' (first|refine z0 ?_|refine z12 ?_|apply ds_nil|refine z5 ?_|refine z6 ?_|refine z7 ?_|refine z10 ?_|refine z11 ?_|apply dw_seq2|refine z16 ?_|refine z20 ?_|apply dw_block|apply dw_skip|refine z18 ?_|refine z19 ?_|apply thenD_n|apply inB_n|refine z3 ?_|(refine z23 ?_ ?_ <;> intro hg)|((fail_if_success (apply ds_known;exact rfl));apply ds_guardP;exact rfl;exact rfl;exact rfl;all_goals intro hg))
   all_goals try (exfalso;omega)
   refine ds_callE id w2 rfl rfl rfl rfl ⟨rfl,trivial⟩ rfl rfl rfl rfl rfl rfl ?_ ?_ ?_
   ·rintro v rfl;exact⟨_,rfl,rfl⟩
   ·rintro _ _ _ h;exact h.elim
   ·rintro _ _ _ h;exact h.elim
theorem seesT_lt {l:List Tok} {i:Nat} {s:ByteArray} (h:seesT l i s=true):i < l.length:=by
 apply Classical.byContradiction
 intro hn
 unfold seesT at h
 rw [List.getElem?_eq_none (by omega)] at h
 cases h
theorem termT_lt {l:List Tok} {i j:Nat} {t:TTm} (h:termT l i = .ok (t,j)):i < j∧j≤l.length:=by
 unfold termT at h
 generalize hb:seesT l i ⟨#[45]⟩=b at h
 have key:∀ q:Nat,(match l[q]? with
  | none=>(.error q:PR TTm)
  | some t=>if t.kind=2∧b=false then .ok ((⟨t.text,0⟩:TTm),q + 1)
   else if t.kind≠3∨(b=true∧t.text=(⟨#[48]⟩:ByteArray)) then .error q
   else .ok ((⟨(⟨#[]⟩:ByteArray),(match b with|true=>-1|false=>1) * numT t.text⟩:TTm),q + 1)) = .ok (t,j)→j=q + 1∧j≤l.length:=by
  intro q hq
  by_cases hl:q < l.length
  ·rw [List.getElem?_eq_getElem hl] at hq
   dsimp only at hq
   split at hq
   ·injection hq with hq;injection hq with h1 h2;omega
   ·split at hq
    ·cases hq
    ·injection hq with hq;injection hq with h1 h2;omega
  ·rw [List.getElem?_eq_none (by omega)] at hq;cases hq
 cases b with
 | true=>have:=key (i + 1) h;omega
 | false=>have:=key i h;omega
def foldT (l:List Tok) (head:Bool) (j q:Nat):Int:=match head with
 | true=>firstT l j (foldsT.drop q) (q + 1)
 | false=>0
theorem termsGo_succ (l:List Tok) (head:Bool) (m j:Nat) (acc:List TTm):termsGo l head (m + 1) j acc =
  match termT l (if foldT l head j 0≠0 then j + 1 else j) with
  | .error k=>.error k
  | .ok (t,k) =>
   if foldT l head j 0≠0∨seesT l k ⟨#[44]⟩=false then
    (if seesT l k ⟨#[41]⟩ then .ok ((acc++[t],foldT l head j 0),k + 1) else .error k)
   else termsGo l head m (k + 1) (acc++[t]):=by cases head <;> rfl
theorem foldT_step (l:List Tok) (head:Bool) (j q:Nat) (h:q < foldsT.length):foldT l head j q=if head=true∧seesT l j foldsT[q]=true then ((q:Int) + 1) else foldT l head j (q + 1):=by
 unfold foldT
 cases head with
 | true =>
  dsimp only
  rw [List.drop_eq_getElem_cons h,firstT]
  by_cases hs:seesT l j foldsT[q]=true
  ·rw [if_pos hs,if_pos ⟨rfl,hs⟩]
  ·rw [if_neg hs,if_neg (fun h=>hs h.2)];rfl
 | false=>simp
theorem foldT_end (l:List Tok) (head:Bool) (j q:Nat) (h:foldsT.length≤q):foldT l head j q=0:=by
 unfold foldT
 rw [List.drop_of_length_le h]
 cases head <;> rfl
theorem foldT_sees {l:List Tok} {head:Bool} {j q:Nat} (h:foldT l head j q≠0):j < l.length:=by
 unfold foldT at h
 cases head with
 | true =>
  dsimp only at h
  generalize foldsT.drop q=ws at h
  generalize (q:Int) + 1=z at h
  induction ws generalizing z with
  | nil=>exact absurd rfl h
  | cons w ws ih =>
   unfold firstT at h
   by_cases hs:seesT l j w=true
   ·exact seesT_lt hs
   ·rw [if_neg hs] at h;exact ih _ h
 | false=>exact absurd rfl h
set_option maxHeartbeats 8000000 in
theorem pterms_fn (l:List Tok) (i:Nat) (e:Int) (head:Bool) (hi:i≤l.length) (hl:l.length≤900000) (hok:l.all tokOk=true):FnOkE false Tryz.prog tab tab_ok 89 [.loc 0 0,.d (.bool head)] 1 1 (prH l i e) (fun k r H=>∃ x f j,termsT l i head = .ok ((x,f),j)∧j≤l.length∧k=1∧r = .tup [.d (.slice 2 (x.map encTTm)),.d (.int .i64 f)]∧H=prH l j e) (fun v=>∃ j,termsT l i head = .error j∧v=plV (hereT l e j)):=by
 refine fn_enterRE _ Tryz.func89 rfl rfl (by kernel_rfl) ?_
 intro O w0 E0 β0
 have ll:(l.map encTok).length=l.length:=List.length_map _
 have w1:=need_fn l i e ⟨#[40]⟩ (by omega)
 repeat' (first|refine z0 ?_|apply ds_nil|apply dw_seq2|refine z16 ?_|apply thenD_n)
 (refine ds_callE id (w1) rfl rfl rfl rfl ⟨rfl,trivial⟩ rfl rfl rfl rfl rfl rfl ?_ ?_ ?_)
 ·rintro v ⟨hs,rfl⟩;exact⟨i,by unfold termsT;rw [hs];rfl,rfl⟩
 ·rintro k2 res H2 ⟨_,rfl,rfl,rfl⟩;exact⟨rfl,rfl⟩
 rintro k2 res H2 ⟨hs,rfl,rfl,rfl⟩
 change DS _ _ _ _ _ _ _ _
 clear w1
 have hil:=seesT_lt hs
 have w1:=ptake_fn l (i + 1) e ⟨#[41]⟩ (by omega)
 repeat' (first|refine z0 ?_|apply ds_nil|apply dw_seq2|refine z16 ?_|apply thenD_n)
 (refine ds_callF id (w1) rfl rfl rfl rfl ⟨rfl,trivial⟩ rfl rfl rfl rfl rfl rfl ?_ ?_)
 ·rintro k2 res H2 ⟨rfl,rfl,rfl⟩;exact⟨rfl,rfl⟩
 rintro k2 res H2 ⟨rfl,rfl,rfl⟩
 change DS _ _ _ _ _ _ _ _
 clear w1
 have ht:termsT l i head=(if seesT l (i + 1) ⟨#[41]⟩ then .ok (([],0),i + 2) else termsGo l head (l.length + 1) (i + 1) []):=by unfold termsT;rw [hs];rfl
 cases hc:seesT l (i + 1) ⟨#[41]⟩ with
 | true =>
  rw [hc] at ht
  have:=seesT_lt hc
  repeat' (first|refine z0 ?_|apply ds_nil|apply dw_seq2|refine z16 ?_|refine z18 ?_|apply thenD_n)
  refine dw_ent (ent_nild 4 2 rfl) ?_
  repeat' (first|apply dw_ret|apply thenD_r)
  exact⟨.inl rfl,_,rfl,id,1,_,prH l (i + 1 + 1:Nat) e,rfl,⟨rfl,trivial⟩,rfl,rfl,rfl,rfl,rfl,rfl,[],0,_,ht,by omega,rfl,rfl,rfl⟩
 | false =>
  rw [hc,if_neg (by simp)] at ht
  dsimp only
  repeat' (first|apply ds_nil|apply dw_seq2|apply dw_block|apply dw_skip|refine z19 ?_|apply thenD_n)
  refine dw_ent (ent_nilrow (t:=6) 49 2 rfl) ?_
  refine ds_loop (ι:=Nat × List TTm × Nat) (fun x=>⟨2,[(0,.loc 0 0),(1,.d (.bool head)),(6,.row 1),(7,.d (.int .i64 0))],[(0,.blk 74 [.d (.slice 3 (l.map encTok)),.d (.int .i64 x.1),.d (.int .i64 e)]),(1,.row 49 2 (x.2.1.map encTTm))]⟩)
   (fun x=>termsT l i head=termsGo l head x.2.2 x.1 x.2.1∧x.1≤l.length∧l.length < x.2.2 + x.1∧x.2.1.length≤x.1) (fun x=>x.2.2) (i + 1,[],l.length + 1) ⟨ht,by show i + 1≤l.length;omega,by show l.length < l.length + 1 + (i + 1);omega,Nat.zero_le _⟩ (ent_ren (fun x=>match x with|0=>0|_=>_) ⟨rfl,rfl,rfl,rfl,trivial⟩ ⟨rfl,rfl,trivial⟩ rfl rfl rfl rfl rfl rfl) ?_
  clear hs hc ht
  rintro⟨j,acc,n⟩ ⟨ht,hj,hn,ha⟩
  dsimp only at ht hj hn ha ⊢
  have lf:(foldsT.map encT).length=4:=rfl
  have lw:(wordsL.map encT).length=5:=rfl
  obtain⟨m,rfl⟩:∃ m,n=m + 1:=⟨n - 1,by omega⟩
  rw [termsGo_succ] at ht
  repeat' ((fail_if_success (apply dw_stopR 6));(apply dw_block))
  obtain⟨f,hf⟩:∃ f:Int,f=foldT l head j 0:=⟨_,rfl⟩
  rw [← hf] at ht
  obtain⟨jf,hjf⟩:∃ jf:Nat,jf=if f≠0 then j + 1 else j:=⟨_,rfl⟩
  rw [← hjf] at ht
  refine dw_cut (ι:=Unit) (fun _=>⟨2,[(0,.loc 0 0),(1,.d (.bool head)),(6,.row 1),(7,.d (.int .i64 f))],[(0,.blk 74 [.d (.slice 3 (l.map encTok)),.d (.int .i64 jf),.d (.int .i64 e)]),(1,.row 49 2 (acc.map encTTm))]⟩) (fun _=>jf≤l.length) ?_ ?_
  ·repeat' (first|(apply ds_slD;exact rfl;exact rfl;exact rfl;exact rfl;exact rfl;exact rfl;(refine⟨?_,?_,?_⟩ <;> (omega));((with_reducible apply hv_drop);(exact nat_add_1 _));exact rfl;exact rfl)|refine z0 ?_|apply ds_nil|apply dw_seq2|refine z16 ?_|apply dw_block|apply thenD_n|refine z21 ?_ (hc:=by apply words_fn)|fail)
   refine ds_loop (ι:=Nat) (fun q=>⟨2,[(0,.loc 0 0),(1,.d (.bool head)),(6,.row 1),(7,.d (.int .i64 0)),(17,.d (.slice 1 (foldsT.map encT))),(18,.d (.int .i64 4)),(19,.d (.int .i64 q))],[(0,.blk 74 [.d (.slice 3 (l.map encTok)),.d (.int .i64 j),.d (.int .i64 e)]),(1,.row 49 2 (acc.map encTTm))]⟩)
    (fun q=>q≤4∧f=foldT l head j q) (fun q=>4 - q) 0 ⟨by omega,hf⟩ (ent_ren id ⟨rfl,rfl,rfl,rfl,rfl,rfl,rfl,trivial⟩ ⟨rfl,rfl,trivial⟩ rfl rfl rfl rfl rfl rfl) ?_
   rintro q ⟨hq,hfq⟩
   dsimp only at hq hfq ⊢
   by_cases hq4:q < 4
   ·have hql:q < foldsT.length:=hq4
    rw [foldT_step l head j q hql] at hfq
    have w2:=ptake_fn l j e foldsT[q] (by omega)
    cases head with
    | true =>
     repeat' (first|refine z0 ?_|apply ds_nil|apply dw_seq2|refine z16 ?_|apply dw_block|apply dw_skip|apply dw_exit|apply thenD_n|apply thenD_e|refine z17 ?_|(refine z23 ?_ ?_ <;> intro hg)|fail)
     all_goals try (exfalso;omega)
     (refine ds_callF id (w2) rfl rfl rfl rfl ⟨rfl,trivial⟩ rfl rfl rfl rfl rfl rfl ?_ ?_)
     ·rintro k2 res H2 ⟨rfl,rfl,rfl⟩;exact⟨rfl,rfl⟩
     rintro k2 res H2 ⟨rfl,rfl,rfl⟩
     change DS _ _ _ _ _ _ _ _
     clear w2
     cases hsq:seesT l j foldsT[q] with
     | true =>
      rw [hsq,if_pos ⟨rfl,rfl⟩,Int.add_comm] at hfq
      rw [if_pos (by omega)] at hjf
      subst hjf
      have hjl:=seesT_lt hsq
      clear ht hf
      subst hfq
      repeat' (first|refine z0 ?_|apply ds_nil|apply dw_seq2|refine z16 ?_|apply dw_exit|refine z18 ?_|apply thenD_n|apply thenD_e|refine z17 ?_|(apply inB_x;exact rfl))
      all_goals try (exfalso;omega)
      exact⟨(),by omega,ent_ren id ⟨rfl,rfl,rfl,rfl,trivial⟩ ⟨rfl,rfl,trivial⟩ rfl rfl rfl rfl rfl rfl⟩
     | false =>
      rw [hsq,if_neg (by simp)] at hfq
      repeat' (first|refine z0 ?_|apply ds_nil|refine z16 ?_|apply dw_skip|refine z19 ?_|apply thenD_n|apply inB_n)
      all_goals try (exfalso;omega)
      exact⟨q + 1,⟨by omega,hfq⟩,ent_ren id ⟨rfl,rfl,rfl,rfl,rfl,rfl,rfl,trivial⟩ ⟨rfl,rfl,trivial⟩ rfl rfl rfl rfl rfl rfl,by show 4 - (q + 1) < 4 - q;omega⟩
    | false =>
     rw [if_neg (by simp)] at hfq
     repeat' (first|refine z0 ?_|refine z12 ?_|apply ds_nil|apply dw_seq2|refine z16 ?_|apply dw_block|apply dw_skip|apply dw_exit|refine z19 ?_|apply thenD_n|apply thenD_e|apply inB_n|refine z17 ?_|(refine z23 ?_ ?_ <;> intro hg)|fail)
     all_goals try (exfalso;omega)
     exact⟨q + 1,⟨by omega,hfq⟩,ent_ren id ⟨rfl,rfl,rfl,rfl,rfl,rfl,rfl,trivial⟩ ⟨rfl,rfl,trivial⟩ rfl rfl rfl rfl rfl rfl,by show 4 - (q + 1) < 4 - q;omega⟩
   ·rw [foldT_end l head j q (by show 4≤q;omega)] at hfq
    rw [if_neg (by omega)] at hjf
    subst hjf
    clear ht hf
    subst hfq
    repeat' (first|refine z0 ?_|refine z12 ?_|apply ds_nil|apply dw_seq2|refine z16 ?_|apply dw_block|apply dw_skip|apply dw_exit|refine z19 ?_|apply thenD_n|apply thenD_e|apply inB_n|refine z17 ?_|(refine z23 ?_ ?_ <;> intro hg)|((fail_if_success (apply ds_known;exact rfl));apply ds_guardB;exact rfl;exact rfl;exact rfl;all_goals intro hg))
    all_goals try (exfalso;omega)
    exact⟨(),by omega,ent_ren id ⟨rfl,rfl,rfl,rfl,trivial⟩ ⟨rfl,rfl,trivial⟩ rfl rfl rfl rfl rfl rfl⟩
  ·intro _ hjl
   have hjj:j≤jf:=by rw [hjf];split <;> omega
   have w3:=pterm_fn l jf e (by omega) hok
   repeat' (first|refine z0 ?_|apply dw_seq2|refine z16 ?_|fail)
   (refine ds_callE id (w3) rfl rfl rfl rfl ⟨rfl,trivial⟩ rfl rfl rfl rfl rfl rfl ?_ ?_ ?_)
   ·rintro v ⟨k,hk,rfl⟩;exact⟨k,by rw [ht,hk],rfl⟩
   ·rintro k2 res H2 ⟨t,k,_,_,rfl,rfl,rfl⟩;exact⟨rfl,rfl⟩
   rintro k2 res H2 ⟨t,k,hk,_,rfl,rfl,rfl⟩
   change DS _ _ _ _ _ _ _ _
   clear w3
   rw [hk] at ht
   dsimp only at ht
   obtain⟨hk1,hk2⟩:=termT_lt hk
   have lac:(acc.map encTTm).length=acc.length:=List.length_map _
   have hap:(acc++[t]).map encTTm=acc.map encTTm++[encTTm t]:=List.map_append
   by_cases hf0:f=0
   ·subst hf0
    repeat' (first|refine z0 ?_|apply ds_nil|apply dw_seq2|refine z16 ?_|apply thenD_n|refine z1 ?_|refine z3 ?_|refine z4 ?_|refine z2 ?_|fail)
    all_goals try (exfalso;omega)
    have w4:=ptake_fn l k e ⟨#[44]⟩ (by omega)
    (refine ds_callF id (w4) rfl rfl rfl rfl ⟨rfl,trivial⟩ rfl rfl rfl rfl rfl rfl ?_ ?_)
    ·rintro k2 res H2 ⟨rfl,rfl,rfl⟩;exact⟨rfl,rfl⟩
    rintro k2 res H2 ⟨rfl,rfl,rfl⟩
    change DS _ _ _ _ _ _ _ _
    clear w4
    cases hsk:seesT l k ⟨#[44]⟩ with
    | true =>
     rw [hsk,if_neg (by rintro (h|h);exact h rfl;cases h)] at ht
     have:=seesT_lt hsk
     repeat' (first|refine z0 ?_|apply ds_nil|apply dw_skip|refine z19 ?_|apply thenD_n|apply inB_n)
     all_goals try (exfalso;omega)
     exact⟨(k + 1,acc++[t],m),⟨ht,by show k + 1≤l.length;omega,by show l.length < m + (k + 1);omega,by show (acc++[t]).length≤k + 1;rw [List.length_append];simp;omega⟩,ent_ren (fun x=>match x with|0=>0|_=>_) ⟨rfl,rfl,rfl,rfl,trivial⟩ ⟨rfl,by dsimp only;rw [hap];rfl,trivial⟩ rfl rfl rfl rfl rfl rfl,by show m < m + 1;omega⟩
    | false =>
     rw [hsk,if_pos (.inr rfl)] at ht
     have w5:=need_fn l k e ⟨#[41]⟩ (by omega)
     dsimp only
     repeat' (first|refine z0 ?_|apply ds_nil|apply dw_seq2|refine z16 ?_|apply dw_exit|refine z18 ?_|apply thenD_n|apply thenD_e|refine z17 ?_|(apply inB_x;exact rfl))
     all_goals try (exfalso;omega)
     (refine ds_callE id (w5) rfl rfl rfl rfl ⟨rfl,trivial⟩ rfl rfl rfl rfl rfl rfl ?_ ?_ ?_)
     ·rintro v ⟨hs,rfl⟩;exact⟨k,by rw [ht,hs];rfl,rfl⟩
     ·rintro k2 res H2 ⟨_,rfl,rfl,rfl⟩;exact⟨rfl,rfl⟩
     rintro k2 res H2 ⟨hs,rfl,rfl,rfl⟩
     change DS _ _ _ _ _ _ _ _
     clear w5
     have hkl:=seesT_lt hs
     rw [hs,if_pos rfl] at ht
     repeat' (first|refine z0 ?_|apply ds_nil|apply dw_seq2|refine z16 ?_|apply thenD_n)
     all_goals try (exfalso;omega)
     refine dw_ent (ent_seal 4 rfl rfl rfl) ?_
     repeat' (apply dw_ret)
     exact⟨.inl rfl,_,rfl,id,1,_,prH l (k + 1:Nat) e,rfl,⟨rfl,trivial⟩,rfl,rfl,rfl,rfl,rfl,rfl,acc++[t],_,k + 1,ht,by omega,rfl,by rw [hap],rfl⟩
   ·rw [if_pos (.inl hf0)] at ht
    have w5:=need_fn l k e ⟨#[41]⟩ (by omega)
    repeat' (first|refine z0 ?_|refine z12 ?_|apply ds_nil|apply dw_seq2|refine z16 ?_|apply dw_exit|refine z18 ?_|apply thenD_n|apply thenD_e|refine z17 ?_|(apply inB_x;exact rfl)|refine z1 ?_|refine z3 ?_|refine z4 ?_|refine z2 ?_|((fail_if_success (apply ds_known;exact rfl));apply ds_guardP;exact rfl;exact rfl;exact rfl;all_goals intro hg))
    all_goals try (exfalso;omega)
    (refine ds_callE id (w5) rfl rfl rfl rfl ⟨rfl,trivial⟩ rfl rfl rfl rfl rfl rfl ?_ ?_ ?_)
    ·rintro v ⟨hs,rfl⟩;exact⟨k,by rw [ht,hs];rfl,rfl⟩
    ·rintro k2 res H2 ⟨_,rfl,rfl,rfl⟩;exact⟨rfl,rfl⟩
    rintro k2 res H2 ⟨hs,rfl,rfl,rfl⟩
    change DS _ _ _ _ _ _ _ _
    clear w5
    have hkl:=seesT_lt hs
    rw [hs,if_pos rfl] at ht
    repeat' (first|refine z0 ?_|apply ds_nil|apply dw_seq2|refine z16 ?_|apply thenD_n)
    all_goals try (exfalso;omega)
    refine dw_ent (ent_seal 4 rfl rfl rfl) ?_
    repeat' (apply dw_ret)
    exact⟨.inl rfl,_,rfl,id,1,_,prH l (k + 1:Nat) e,rfl,⟨rfl,trivial⟩,rfl,rfl,rfl,rfl,rfl,rfl,acc++[t],_,k + 1,ht,by omega,rfl,by rw [hap],rfl⟩
end Go.Proofs.YtapciiffpnociabGreatDoor
namespace Go.Proofs.YtapciiffpnociabGreatDoor
open Go Go.RowKit
section
variable {Γ : Ctx} {l : List Oper} {κ c : Nat}
def tailB (l:List Oper) (c:Nat):Bool:=(enumO 0 l).all fun q=>Nat.blt q.1 c || (List.range q.1).all fun i=>reachB l l.length q.1 i
theorem tailB_spec (h:tailB l c=true) {j i:Nat} {o:Oper} (hj:l[j]? = some o) (hc:c≤j) (hi:i < j):reachB l l.length j i=true:=by
 unfold tailB at h
 rw [List.all_eq_true] at h
 have h1:=h (j,o) ((enumO_mem l 0 (j,o)).2 ⟨Nat.zero_le _,by simpa using hj⟩)
 rw [Bool.or_eq_true] at h1
 rcases h1 with h1|h1
 ·have:j < c:=Nat.le_of_ble_eq_true h1
  omega
 ·exact List.all_eq_true.1 h1 i (List.mem_range.2 hi)
theorem enumO_app:∀ (a b:List Oper) (n:Nat),enumO n (a++b)=enumO n a++enumO (n + a.length) b
 | [],b,n=>rfl
 | o::a,b,n=>by
  rw [List.cons_append,enumO,enumO,enumO_app a b (n + 1),List.cons_append,List.length_cons,show n + 1 + a.length=n + (a.length + 1) by omega]
theorem down_spec (hdown:regDownB l=true):∀ j o,l[j]? = some o→∀ e∈o.after,Region.binds .any e=true→e.on < j:=by
 intro j o hj e he hb
 unfold regDownB at hdown
 rw [List.all_eq_true] at hdown
 have h1:=hdown (j,o) ((enumO_mem l 0 (j,o)).2 ⟨Nat.zero_le _,by simpa using hj⟩)
 rw [List.all_eq_true] at h1
 have h2:=h1 e (by simpa using he)
 simp only [hb,Bool.not_true,Bool.false_or] at h2
 exact Nat.le_of_ble_eq_true h2
theorem first_ready (hdown:regDownB l=true) {listed:Array Bool} {q:Nat × Oper} {rem':List (Nat × Oper)} (g:Going l listed (q::rem')):q.1∈Region.ready .any l.toArray listed:=by
 obtain⟨h1,h2⟩:=(g.left q).1 (List.mem_cons_self ..)
 refine mem_ready.2 ⟨h2,q.2,by simpa using h1,fun e' he hb=>?_⟩
 have hlt:=down_spec hdown q.1 q.2 h1 e' he hb
 have hln:e'.on < listed.size:=by rw [g.size];have:=lt_of_some h1;omega
 cases hx:listed.getD e'.on false with
 | true=>rfl
 | false =>
  exfalso
  have hx':listed.getD e'.on true=false:=(getD_flip hln).trans hx
  have hlen':e'.on < l.length:=by rw [← g.size];exact hln
  have hm:=(g.left (e'.on,l[e'.on])).2 ⟨by simp [hlen'],hx'⟩
  rcases List.mem_cons.1 hm with h|h
  ·have:e'.on=q.1:=by rw [← h]
   omega
  ·have:=(List.pairwise_cons.1 g.sorted).1 _ h
   simp at this
   omega
theorem tail_run (hdown:regDownB l=true) (hT:tailB l c=true) {Q:Exit→Act→World→Prop}:∀ (m:Nat) (listed:Array Bool) (a:Act) (w:World),Going l listed (enumO (l.length - m) (l.drop (l.length - m)))→m≤l.length - c→wpList Γ.P l.toArray Q (l.drop (l.length - m)) a w→wpAny Γ.P .any l.toArray Q m listed a w
 | 0,listed,a,w,g,_,h=>by
  have hn:l.drop (l.length - 0)=[]:=List.drop_eq_nil_of_le (by omega)
  rw [hn] at g h
  refine⟨?_,h⟩
  apply List.eq_nil_iff_forall_not_mem.2
  intro j hj
  obtain⟨h1,o,ho,_⟩:=mem_ready.1 hj
  have:=(g.left (j,o)).2 ⟨by simpa using ho,h1⟩
  simp [enumO] at this
 | m + 1,listed,a,w,g,hm,h=>by
  have hj:l.length - (m + 1) < l.length:=by omega
  have hd:l.drop (l.length - (m + 1))=l[l.length - (m + 1)]::l.drop (l.length - m):=by
   rw [List.drop_eq_getElem_cons hj]
   congr 2
   omega
  have hen:enumO (l.length - (m + 1)) (l.drop (l.length - (m + 1)))=(l.length - (m + 1),l[l.length - (m + 1)])::enumO (l.length - m) (l.drop (l.length - m)):=by
   rw [hd,enumO]
   congr 2
   omega
  rw [hen] at g
  rw [hd] at h
  generalize hJ:l.length - (m + 1)=J at *
  have hr:=first_ready hdown g
  refine⟨fun h0=>?_,fun i hi=>?_⟩
  ·rw [h0] at hr;simp at hr
  ·obtain⟨h1,o,ho,hall⟩:=mem_ready.1 hi
   have hio:l[i]? = some o:=by simpa using ho
   have hij:i=J:=by
    have hmem:=(g.left (i,o)).2 ⟨hio,h1⟩
    rcases List.mem_cons.1 hmem with h|h
    ·exact congrArg Prod.fst h
    ·exfalso
     have hlt:J < i:=by simpa using (List.pairwise_cons.1 g.sorted).1 _ h
     have:=reach_done g l.length i o (tailB_spec hT hio (by omega) hlt) hio hall
     have h3:=((g.left (J,l[J])).1 (List.mem_cons_self ..)).2
     have hJs:J < listed.size:=by rw [g.size];exact hj
     rw [getD_flip hJs] at h3
     rw [h3] at this
     cases this
   subst hij
   have g':=Going.rest (pre:=[]) (i:=i) (o:=l[i]) (post:=enumO (l.length - m) (l.drop (l.length - m))) g hi rfl (by rw [List.getElem?_eq_getElem hj])
   unfold wpOp
   have hlk:l.toArray[i]? = some l[i]:=by simp [hj]
   rw [hlk]
   unfold wpList at h
   split at h
   ·rename_i hw
    simp only [hw,if_true]
    exact h.imp (fun h=>Oper.wp_mono (fun a' w' hk=>tail_run hdown hT m _ a' w' g' (by omega) hk) h) id
   ·rename_i hw
    simp only [hw]
    exact tail_run hdown hT m _ _ w g' (by omega) h
theorem tail_sim (hB:regAnyB l=true) (hT:tailB l c=true) (hcl:c≤l.length) {K:FS→Prop} {Q:Exit→Act→World→Prop} (hQ:∀ s e a w,K s→Rep Γ (lo (κ + c)) s e a w→wpList Γ.P l.toArray Q (l.drop c) a w) :
  ∀ (fuel:Nat) (listed:Array Bool) (a:Act) (w:World) (s:FS) (e:Env) (D:Nat→Prop) (rem:List (Nat × Oper)) (lg:Log),Going l listed (rem++enumO c (l.drop c))→(∀ q∈rem,q.1 < c)→rem.length=fuel→Rep Γ D s e a w →
   (∀ x,D x→x < κ + c∧∀ j,x=κ + j→listed.getD j false=true)→DR Γ l κ rem lg K s→wpAny Γ.P .any l.toArray Q (fuel + (l.length - c)) listed a w:=by
 simp only [regAnyB,Bool.and_eq_true] at hB
 obtain⟨hdown,hpair,hcall⟩:=hB
 intro fuel
 induction fuel with
 | zero =>
  intro listed a w s e D rem lg g hrc hlen hr hD hd
  have hrem:rem=[]:=List.eq_nil_of_length_eq_zero hlen
  subst hrem
  rw [Nat.zero_add]
  have hcc:l.length - (l.length - c)=c:=by omega
  refine tail_run hdown hT (l.length - c) listed a w (by rw [hcc];exact g) (Nat.le_refl _) ?_
  rw [hcc]
  cases hd with
  | nil hk =>
   obtain⟨L,H,m,hs⟩:=hr
   obtain⟨e',m'⟩:=m.widenTo (k':=lo (κ + c)) fun x hx=>(hD x hx).1
   exact hQ s e' a w hk ⟨L,H,m',hs⟩
 | succ fuel ih =>
  intro listed a w s e D rem lg g hrc hlen hr hD hd
  rw [show fuel + 1 + (l.length - c)=(fuel + (l.length - c)) + 1 by omega]
  obtain⟨q0,rem0,hq0⟩:∃ q r,rem=q::r:=by
   cases rem with
   | nil=>simp at hlen
   | cons q r=>exact⟨q,r,rfl⟩
  refine⟨fun h0=>?_,fun i hi=>?_⟩
  ·exfalso
   have hg:=g
   rw [hq0,List.cons_append] at hg
   have:=first_ready hdown hg
   rw [h0] at this
   simp at this
  ·obtain⟨h1,o,ho,hall⟩:=mem_ready.1 hi
   have hio:l[i]? = some o:=by simpa using ho
   have hic:i < c:=by
    apply Classical.byContradiction
    intro hn
    have hq0c:q0.1 < c:=hrc q0 (by rw [hq0];exact List.mem_cons_self ..)
    have hrd:=reach_done g l.length i o (tailB_spec hT hio (by omega) (show q0.1 < i by omega)) hio hall
    have h3:=(g.left q0).1 (List.mem_append_left _ (by rw [hq0];exact List.mem_cons_self ..))
    have hs:q0.1 < listed.size:=by rw [g.size];exact lt_of_some h3.1
    have h4:=h3.2
    rw [getD_flip hs,hrd] at h4
    cases h4
   have hmem:(i,o)∈rem:=by
    rcases List.mem_append.1 ((g.left (i,o)).2 ⟨hio,h1⟩) with h|h
    ·exact h
    ·exfalso
     have:=((enumO_mem _ _ _).1 h).1
     simp only at this
     omega
   obtain⟨pre,post,hre⟩:=List.append_of_mem hmem
   have g0:=g
   rw [hre,List.append_assoc,List.cons_append] at g0
   have g':=g0.rest hi rfl hio
   rw [← List.append_assoc] at g'
   have hpull:DR Γ l κ ((i,o)::(pre++post)) lg K s:=by
    refine DR.pull pre lg s (fun q hq=>?_) (hre▸hd)
    have hqr:q∈rem++enumO c (l.drop c):=List.mem_append_left _ (by rw [hre];exact List.mem_append_left _ hq)
    obtain⟨hq1,hq2⟩:=(g.left q).1 hqr
    have hqi:q.1 < i:=by
     have hs:=g0.sorted
     rw [List.pairwise_append] at hs
     have:=hs.2.2 q hq (i,o) (List.mem_cons_self ..)
     simpa using this
    have hqs:q.1 < listed.size:=by rw [g.size];exact lt_of_some hq1
    have hq2':listed.getD q.1 false=false:=(getD_flip hqs).symm.trans hq2
    have e0:path2B l i q.1=false:=path2_false hio hall g.closed hq2'
    have e1:=path2_edge e0
    have e2:edgeB l q.1 i=false:=by
     cases hx:edgeB l q.1 i with
     | false=>rfl
     | true =>
      obtain⟨o',ho',e',he',hb',hon⟩:=edgeB_spec.1 hx
      have:=down_spec hdown q.1 o' ho' e' he' hb'
      omega
    refine⟨e0,e2,?_,fun hcq=>?_⟩
    ·unfold regPairB at hpair
     rw [List.all_eq_true] at hpair
     have p1:=hpair (i,o) ((enumO_mem l 0 (i,o)).2 ⟨Nat.zero_le _,by simpa using hio⟩)
     rw [List.all_eq_true] at p1
     have p2:=p1 q ((enumO_mem l 0 q).2 ⟨Nat.zero_le _,by simpa using hq1⟩)
     have hnb:Nat.ble i q.1=false:=by
      cases hb:Nat.ble i q.1 with
      | false=>rfl
      | true=>have:=Nat.le_of_ble_eq_true hb;omega
     simp only [hnb,Bool.false_or,e1] at p2
     exact p2
    ·cases hci:isCall o with
     | false=>rfl
     | true =>
      have:=calls_done g hcall hq1 hcq i o hio hci hqi hall
      rw [hq2'] at this
      cases this
   cases hpull with
   | cons cc S rd wr hm hl hne hn hk =>
    have hz:¬ D (κ + i):=by
     intro hx
     have:=(hD _ hx).2 i rfl
     have hin:i < listed.size:=by rw [g.size];exact lt_of_some hio
     rw [← getD_flip hin,h1] at this
     cases this
    refine Mv.sound hm hr ⟨κ + c,fun x hx=>(hD x hx).1⟩ hz hio Q _ fun v u a' w' e' hv hr'=>?_
    refine ih (listed.setIfInBounds i true) a' w' _ e' _ (pre++post) _ g' (fun q hq=>hrc q ?_) ?_ hr' (fun x hx=>?_) (hk v u hv)
    ·rw [hre];rcases List.mem_append.1 hq with h|h <;> simp [h]
    ·rw [hre] at hlen
     simp only [List.length_append,List.length_cons] at hlen ⊢
     omega
    ·have hin:i < listed.size:=by rw [g.size];exact lt_of_some hio
     rcases hx with hx|hx
     ·refine⟨(hD x hx).1,fun j hj=>?_⟩
      have:=(hD x hx).2 j hj
      by_cases hij:i=j
      ·subst hij;simp [hin]
      ·rw [getD_set_ne false hij];exact this
     ·subst hx
      refine⟨by omega,fun j hj=>?_⟩
      have:i=j:=by omega
      subst this
      simp [hin]
theorem dw_tail {id k m:Nat} {L:Sl} {H:Hp} {Q:Post} (c:Nat) (hm:Γ.P.follows .mixedOrders=true) (hB:regAnyB l=true) (hT:tailB l c=true) (hcl:Nat.ble c l.length=true) (hnd:noDefer l=true) (hl:lenIs (l.take c) k m)
  (h:DT Γ l k (enumO 0 (l.take c)) [] (endK Γ m (fun k' L' H'=>DS false Γ l (l.drop c) (Q .normal) k' L' H')) L H):DW Γ (.region id l.toArray true) Q k L H:=by
 have hcl:=Nat.le_of_ble_eq_true hcl
 have hmc:k + c=m:=by
  have:=lenIs_spec (l.take c) k m hl
  rw [List.length_take] at this
  omega
 subst hmc
 intro e a w mm
 refine wpIn_mono (wpIn_region_any hm (wpAny_in (letsOut_lift (Γ:=Γ) (K:=Q .normal)) hnd _ _ _ _ ?_)) (lift_mono (fun ex k' L' H' (⟨h1,h2⟩:onNormal (Q .normal) ex k' L' H')=>h1▸h2))
 have m0:=mm.below (w':={ w with drawn:=w.drawn + 1 }) ((Beld.refl _ _ _).drew)
 have hsp:enumO 0 (l.take c)++enumO c (l.drop c)=enumO 0 l:=by
  have:=enumO_app (l.take c) (l.drop c) 0
  rw [List.take_append_drop,List.length_take,Nat.zero_add,Nat.min_eq_left hcl] at this
  exact this.symm
 have hg:Going l (Array.replicate l.length false) (enumO 0 l):=by
  refine⟨by simp,fun j o hj hl=>?_,fun q=>?_,enumO_sorted l 0⟩
  ·have hlt:=lt_of_some hj
   simp [hlt] at hl
  ·rw [enumO_mem l 0 q]
   simp only [Nat.zero_le,Nat.sub_zero,true_and]
   constructor
   ·intro hq;exact⟨hq,by have:=lt_of_some hq;simp [this]⟩
   ·exact fun h=>h.1
 have hlenO:∀ (l:List Oper) b,(enumO b l).length=l.length:=by
  intro l
  induction l with
  | nil=>intro b;rfl
  | cons o l ih=>intro b;simp [enumO,ih]
 have hsize:l.toArray.size=c + (l.length - c):=by simp;omega
 rw [hsize]
 refine tail_sim hB hT hcl (K:=endK Γ (k + c) (fun k' L' H'=>DS false Γ l (l.drop c) (Q .normal) k' L' H')) (Q:=lift Γ (onNormal (Q .normal))) (fun s e a w hk hr=>?_) c _ a _ (ofL L H) e (lo k) (enumO 0 (l.take c)) [] (by rw [hsp,← hsize];simpa using hg) (fun q hq=>?_) (by rw [hlenO,List.length_take];omega) ⟨L,H,m0,rfl⟩ (fun x hx=>⟨Nat.lt_of_lt_of_le hx (Nat.le_add_right _ _),fun j hj=>?_⟩) h
 ·obtain⟨k',L',H',e',m',hq⟩:=hk e a w hr
  exact hq e' a w m'
 ·have h2:=((enumO_mem _ _ _).1 hq).2
  have:=lt_of_some h2
  rw [List.length_take] at this
  omega
 ·have:x < k:=hx
  omega
theorem dw_stopT (id:Nat) {k:Nat} {L:Sl} {H:Hp} {ops:Array Oper} {b:Bool} {Q:Post} (h:DW Γ (.region id ops b) Q k L H):DW Γ (.region id ops b) Q k L H:=h
end
end Go.Proofs.YtapciiffpnociabGreatDoor
namespace Go.Proofs.YtapciiffpnociabGreatDoor
open Go Go.RowKit
section
variable {Γ : Ctx} {l : List Oper} {κ c : Nat}
def headB (l:List Oper) (c:Nat):Bool:=(enumO 0 l).all fun q=>Nat.blt q.1 c || (List.range c).all fun i=>reachB l l.length q.1 i
theorem headB_spec (h:headB l c=true) {j i:Nat} {o:Oper} (hj:l[j]? = some o) (hc:c≤j) (hi:i < c):reachB l l.length j i=true:=by
 unfold headB at h
 rw [List.all_eq_true] at h
 have h1:=h (j,o) ((enumO_mem l 0 (j,o)).2 ⟨Nat.zero_le _,by simpa using hj⟩)
 rw [Bool.or_eq_true] at h1
 rcases h1 with h1|h1
 ·have:j < c:=Nat.le_of_ble_eq_true h1
  omega
 ·exact List.all_eq_true.1 h1 i (List.mem_range.2 hi)
theorem split_sim (hB:regAnyB l=true) (hT:headB l c=true) {K:FS→Prop} {Q:Exit→Act→World→Prop} (hQ:∀ s e a w listed,K s→Rep Γ (lo (κ + c)) s e a w→Going l listed (enumO c (l.drop c))→wpAny Γ.P .any l.toArray Q (l.length - c) listed a w) :
  ∀ (fuel:Nat) (listed:Array Bool) (a:Act) (w:World) (s:FS) (e:Env) (D:Nat→Prop) (rem:List (Nat × Oper)) (lg:Log),Going l listed (rem++enumO c (l.drop c))→(∀ q∈rem,q.1 < c)→rem.length=fuel→Rep Γ D s e a w →
   (∀ x,D x→x < κ + c∧∀ j,x=κ + j→listed.getD j false=true)→DR Γ l κ rem lg K s→wpAny Γ.P .any l.toArray Q (fuel + (l.length - c)) listed a w:=by
 simp only [regAnyB,Bool.and_eq_true] at hB
 obtain⟨hdown,hpair,hcall⟩:=hB
 intro fuel
 induction fuel with
 | zero =>
  intro listed a w s e D rem lg g hrc hlen hr hD hd
  have hrem:rem=[]:=List.eq_nil_of_length_eq_zero hlen
  subst hrem
  rw [Nat.zero_add]
  cases hd with
  | nil hk =>
   obtain⟨L,H,m,hs⟩:=hr
   obtain⟨e',m'⟩:=m.widenTo (k':=lo (κ + c)) fun x hx=>(hD x hx).1
   exact hQ s e' a w listed hk ⟨L,H,m',hs⟩ g
 | succ fuel ih =>
  intro listed a w s e D rem lg g hrc hlen hr hD hd
  rw [show fuel + 1 + (l.length - c)=(fuel + (l.length - c)) + 1 by omega]
  obtain⟨q0,rem0,hq0⟩:∃ q r,rem=q::r:=by
   cases rem with
   | nil=>simp at hlen
   | cons q r=>exact⟨q,r,rfl⟩
  refine⟨fun h0=>?_,fun i hi=>?_⟩
  ·exfalso
   have hg:=g
   rw [hq0,List.cons_append] at hg
   have:=first_ready hdown hg
   rw [h0] at this
   simp at this
  ·obtain⟨h1,o,ho,hall⟩:=mem_ready.1 hi
   have hio:l[i]? = some o:=by simpa using ho
   have hic:i < c:=by
    apply Classical.byContradiction
    intro hn
    have hq0c:q0.1 < c:=hrc q0 (by rw [hq0];exact List.mem_cons_self ..)
    have hrd:=reach_done g l.length i o (headB_spec hT hio (by omega) hq0c) hio hall
    have h3:=(g.left q0).1 (List.mem_append_left _ (by rw [hq0];exact List.mem_cons_self ..))
    have hs:q0.1 < listed.size:=by rw [g.size];exact lt_of_some h3.1
    have h4:=h3.2
    rw [getD_flip hs,hrd] at h4
    cases h4
   have hmem:(i,o)∈rem:=by
    rcases List.mem_append.1 ((g.left (i,o)).2 ⟨hio,h1⟩) with h|h
    ·exact h
    ·exfalso
     have:=((enumO_mem _ _ _).1 h).1
     simp only at this
     omega
   obtain⟨pre,post,hre⟩:=List.append_of_mem hmem
   have g0:=g
   rw [hre,List.append_assoc,List.cons_append] at g0
   have g':=g0.rest hi rfl hio
   rw [← List.append_assoc] at g'
   have hpull:DR Γ l κ ((i,o)::(pre++post)) lg K s:=by
    refine DR.pull pre lg s (fun q hq=>?_) (hre▸hd)
    have hqr:q∈rem++enumO c (l.drop c):=List.mem_append_left _ (by rw [hre];exact List.mem_append_left _ hq)
    obtain⟨hq1,hq2⟩:=(g.left q).1 hqr
    have hqi:q.1 < i:=by
     have hs:=g0.sorted
     rw [List.pairwise_append] at hs
     have:=hs.2.2 q hq (i,o) (List.mem_cons_self ..)
     simpa using this
    have hqs:q.1 < listed.size:=by rw [g.size];exact lt_of_some hq1
    have hq2':listed.getD q.1 false=false:=(getD_flip hqs).symm.trans hq2
    have e0:path2B l i q.1=false:=path2_false hio hall g.closed hq2'
    have e1:=path2_edge e0
    have e2:edgeB l q.1 i=false:=by
     cases hx:edgeB l q.1 i with
     | false=>rfl
     | true =>
      obtain⟨o',ho',e',he',hb',hon⟩:=edgeB_spec.1 hx
      have:=down_spec hdown q.1 o' ho' e' he' hb'
      omega
    refine⟨e0,e2,?_,fun hcq=>?_⟩
    ·unfold regPairB at hpair
     rw [List.all_eq_true] at hpair
     have p1:=hpair (i,o) ((enumO_mem l 0 (i,o)).2 ⟨Nat.zero_le _,by simpa using hio⟩)
     rw [List.all_eq_true] at p1
     have p2:=p1 q ((enumO_mem l 0 q).2 ⟨Nat.zero_le _,by simpa using hq1⟩)
     have hnb:Nat.ble i q.1=false:=by
      cases hb:Nat.ble i q.1 with
      | false=>rfl
      | true=>have:=Nat.le_of_ble_eq_true hb;omega
     simp only [hnb,Bool.false_or,e1] at p2
     exact p2
    ·cases hci:isCall o with
     | false=>rfl
     | true =>
      have:=calls_done g hcall hq1 hcq i o hio hci hqi hall
      rw [hq2'] at this
      cases this
   cases hpull with
   | cons cc S rd wr hm hl hne hn hk =>
    have hz:¬ D (κ + i):=by
     intro hx
     have:=(hD _ hx).2 i rfl
     have hin:i < listed.size:=by rw [g.size];exact lt_of_some hio
     rw [← getD_flip hin,h1] at this
     cases this
    refine Mv.sound hm hr ⟨κ + c,fun x hx=>(hD x hx).1⟩ hz hio Q _ fun v u a' w' e' hv hr'=>?_
    refine ih (listed.setIfInBounds i true) a' w' _ e' _ (pre++post) _ g' (fun q hq=>hrc q ?_) ?_ hr' (fun x hx=>?_) (hk v u hv)
    ·rw [hre];rcases List.mem_append.1 hq with h|h <;> simp [h]
    ·rw [hre] at hlen
     simp only [List.length_append,List.length_cons] at hlen ⊢
     omega
    ·have hin:i < listed.size:=by rw [g.size];exact lt_of_some hio
     rcases hx with hx|hx
     ·refine⟨(hD x hx).1,fun j hj=>?_⟩
      have:=(hD x hx).2 j hj
      by_cases hij:i=j
      ·subst hij;simp [hin]
      ·rw [getD_set_ne false hij];exact this
     ·subst hx
      refine⟨by omega,fun j hj=>?_⟩
      have:i=j:=by omega
      subst this
      simp [hin]
theorem dw_split {id k m:Nat} {L:Sl} {H:Hp} {Q:Post} (c:Nat) (hm:Γ.P.follows .mixedOrders=true) (hB:regAnyB l=true) (hT:headB l c=true) (hcl:Nat.ble c l.length=true) (hnd:noDefer l=true) (hl:lenIs (l.take c) k m)
  (h:DT Γ l k (enumO 0 (l.take c)) [] (endK Γ m (fun k' L' H'=>∃ (k2:Nat) (L2:Sl) (H2:Hp) (m2:Nat),Ent Γ k' L' H' k2 L2 H2∧lenIs l k2 m2∧DT Γ l k2 (enumO c (l.drop c)) [] (endK Γ m2 (Q .normal)) L2 H2)) L H):DW Γ (.region id l.toArray true) Q k L H:=by
 have hcl:=Nat.le_of_ble_eq_true hcl
 have hmc:k + c=m:=by
  have:=lenIs_spec (l.take c) k m hl
  rw [List.length_take] at this
  omega
 subst hmc
 intro e a w mm
 refine wpIn_mono (wpIn_region_any hm (wpAny_in (letsOut_lift (Γ:=Γ) (K:=Q .normal)) hnd _ _ _ _ ?_)) (lift_mono (fun ex k' L' H' (⟨h1,h2⟩:onNormal (Q .normal) ex k' L' H')=>h1▸h2))
 have m0:=mm.below (w':={ w with drawn:=w.drawn + 1 }) ((Beld.refl _ _ _).drew)
 have hsp:enumO 0 (l.take c)++enumO c (l.drop c)=enumO 0 l:=by
  have:=enumO_app (l.take c) (l.drop c) 0
  rw [List.take_append_drop,List.length_take,Nat.zero_add,Nat.min_eq_left hcl] at this
  exact this.symm
 have hg:Going l (Array.replicate l.length false) (enumO 0 l):=by
  refine⟨by simp,fun j o hj hl=>?_,fun q=>?_,enumO_sorted l 0⟩
  ·have hlt:=lt_of_some hj
   simp [hlt] at hl
  ·rw [enumO_mem l 0 q]
   simp only [Nat.zero_le,Nat.sub_zero,true_and]
   constructor
   ·intro hq;exact⟨hq,by have:=lt_of_some hq;simp [this]⟩
   ·exact fun h=>h.1
 have hlenO:∀ (l:List Oper) b,(enumO b l).length=l.length:=by
  intro l
  induction l with
  | nil=>intro b;rfl
  | cons o l ih=>intro b;simp [enumO,ih]
 have hsize:l.toArray.size=c + (l.length - c):=by simp;omega
 rw [hsize]
 refine split_sim hB hT (K:=endK Γ (k + c) (fun k' L' H'=>∃ (k2:Nat) (L2:Sl) (H2:Hp) (m2:Nat),Ent Γ k' L' H' k2 L2 H2∧lenIs l k2 m2∧DT Γ l k2 (enumO c (l.drop c)) [] (endK Γ m2 (Q .normal)) L2 H2)) (Q:=lift Γ (onNormal (Q .normal))) (fun s e a w listed hk hr g=>?_) c _ a _ (ofL L H) e (lo k) (enumO 0 (l.take c)) [] (by rw [hsp,← hsize];simpa using hg) (fun q hq=>?_) (by rw [hlenO,List.length_take];omega) ⟨L,H,m0,rfl⟩ (fun x hx=>⟨Nat.lt_of_lt_of_le hx (Nat.le_add_right _ _),fun j hj=>?_⟩) h
 ·obtain⟨k0,L0,H0,e0,m0',k',L',H',m2,hent,hl2,hq⟩:=hk e a w hr
  obtain⟨e',m'⟩:=hent e0 a w m0'
  have hl3:=lenIs_spec l k' m2 hl2
  refine any_sim hB (K:=endK Γ m2 (Q .normal)) (κ:=k') (fun s e a w hk hr=>?_) (l.length - c) listed a w (ofL L' H') e' (lo k') _ [] g (by rw [hlenO,List.length_drop]) ⟨L',H',m',rfl⟩ (fun x hx=>?_) hq
  ·obtain⟨k2,L2,H2,e2,m3,hq2⟩:=hk e a w (hl3▸hr)
   exact .inl ⟨k2,L2,H2,e2,m3,rfl,hq2⟩
  ·have hx:x < k':=hx
   exact⟨by omega,fun j hj=>by omega⟩
 ·have h2:=((enumO_mem _ _ _).1 hq).2
  have:=lt_of_some h2
  rw [List.length_take] at this
  omega
 ·have:x < k:=hx
  omega
end
abbrev tlB (kind at_ op:Int) (name:ByteArray) (ts:SV):HB:=.blk 51 [.d (.int .i64 kind),.d (.int .i64 at_),.d (.int .i64 op),.d (.str name),ts]
abbrev prB (l:List Tok) (i:Nat) (e:Int):HB:=.blk 74 [.d (.slice 3 (l.map encTok)),.d (.int .i64 i),.d (.int .i64 e)]
attribute [local irreducible] DW DS DL DQ Ev FnOk FnP FnOkE thenD inBlockD
set_option maxHeartbeats 8000000 in
theorem ptest_fn (l:List Tok) (i:Nat) (e a:Int) (hi:i≤l.length) (hl:l.length≤900000) (hok:l.all tokOk=true):FnOkE false Tryz.prog tab tab_ok 109 [.loc 0 0,.loc 1 0] 2 2 [(0,prB l i e),(1,tlB 1 a 0 ⟨#[]⟩ .nils)] (fun k r H=>∃ kd op ts j,testT l i = .ok ((kd,op,ts),j)∧j≤l.length∧k=2∧r = .tup []∧H=[(0,prB l j e),(1,tlB kd a op ⟨#[]⟩ (.d (.slice 2 (ts.map encTTm))))]) (fun v=>∃ j,testT l i = .error j∧v=plV (hereT l e j)):=by
 refine fn_enterRE _ Tryz.func109 rfl rfl (by kernel_rfl) ?_
 intro O w0 E0 β0
 have ll:(l.map encTok).length=l.length:=List.length_map _
 refine dw_ent (ent_cellrow 1 4 49 2 rfl rfl rfl) ?_
 have w1:=pterm_fn l i e (by omega) hok
 unfold testT
 repeat' (first|refine z0 ?_|apply dw_seq2|refine z16 ?_|fail)
 (refine ds_callE id (w1) rfl rfl rfl rfl ⟨rfl,trivial⟩ rfl rfl rfl rfl rfl rfl ?_ ?_ ?_)
 ·rintro v ⟨k,hk,rfl⟩;exact⟨k,by rw [hk],rfl⟩
 ·rintro k2 res H2 ⟨t,k,_,_,rfl,rfl,rfl⟩;exact⟨rfl,rfl⟩
 rintro k2 res H2 ⟨t,k,hk,_,rfl,rfl,rfl⟩
 change DS _ _ _ _ _ _ _ _
 clear w1
 rw [hk]
 dsimp only
 obtain⟨hk1,hk2⟩:=termT_lt hk
 repeat' ((fail_if_success (apply dw_stopR 2));(first|apply ds_nil|refine z5 ?_|refine z6 ?_|refine z9 ?_|refine z11 ?_|apply dw_seq2|refine z20 ?_|apply thenD_n|refine z1 ?_|refine z3 ?_|fail))
 obtain⟨op,hop⟩:∃ op,op=firstQ l opsT k 0:=⟨_,rfl⟩
 obtain⟨ob1,ob2⟩:=firstQ_bound l opsT k 7 0 (Nat.le_refl _)
 rw [← hop] at ob1 ob2 ⊢
 have ob2:op≤7:=ob2
 obtain⟨jf,hjf⟩:∃ jf:Nat,jf=if op≠0 then k + 1 else k:=⟨_,rfl⟩
 refine dw_cut (ι:=Unit) (fun _=>⟨3,[(0,.loc 0 0),(1,.loc 1 0)],[(0,prB l jf e),(1,tlB 1 a op ⟨#[]⟩ (.row 2)),(2,.row 49 2 [encTTm t])]⟩) (fun _=>jf≤l.length) ?_ ?_
 ·repeat' (first|refine z0 ?_|apply ds_nil|apply dw_seq2|refine z16 ?_|apply dw_block|apply thenD_n|refine z4 ?_|fail)
  refine ds_loop (ι:=Nat) (fun q=>⟨3,[(0,.loc 0 0),(1,.loc 1 0),(21,.d (.slice 1 (opsT.map encT))),(22,.d (.int .i64 7)),(23,.d (.int .i64 q))],[(0,prB l k e),(1,tlB 1 a 0 ⟨#[]⟩ (.row 2)),(2,.row 49 2 [encTTm t])]⟩)
   (fun q=>q≤7∧op=firstQ l opsT k q) (fun q=>7 - q) 0 ⟨by omega,hop⟩ (ent_ren (fun x=>match x with|0=>0|1=>1|_=>_) ⟨rfl,rfl,rfl,rfl,rfl,trivial⟩ ⟨rfl,rfl,rfl,trivial⟩ rfl rfl rfl rfl rfl rfl) ?_
  rintro q ⟨hq,hfq⟩
  dsimp only at hq hfq ⊢
  have lf:(opsT.map encT).length=7:=rfl
  by_cases hq7:q < 7
  ·have hql:q < opsT.length:=hq7
   rw [firstQ_step l opsT k q hql] at hfq
   have w2:=ptake_fn l k e opsT[q] (by omega)
   repeat' (first|refine z0 ?_|apply ds_nil|apply dw_seq2|refine z16 ?_|apply dw_block|apply dw_skip|apply dw_exit|apply thenD_n|apply thenD_e|refine z17 ?_|(refine z23 ?_ ?_ <;> intro hg)|fail)
   all_goals try (exfalso;omega)
   (refine ds_callF id (w2) rfl rfl rfl rfl ⟨rfl,trivial⟩ rfl rfl rfl rfl rfl rfl ?_ ?_)
   ·rintro k2 res H2 ⟨rfl,rfl,rfl⟩;exact⟨rfl,rfl⟩
   rintro k2 res H2 ⟨rfl,rfl,rfl⟩
   change DS _ _ _ _ _ _ _ _
   clear w2
   cases hsq:seesT l k opsT[q] with
   | true =>
    rw [hsq,if_pos rfl,Int.add_comm] at hfq
    rw [if_pos (by omega)] at hjf
    subst hjf
    have hjl:=seesT_lt hsq
    clear hop
    subst hfq
    repeat' (first|refine z0 ?_|apply ds_nil|apply dw_seq2|refine z16 ?_|apply dw_exit|refine z18 ?_|apply thenD_n|apply thenD_e|refine z17 ?_|(apply inB_x;exact rfl)|refine z3 ?_|fail)
    all_goals try (exfalso;omega)
    exact⟨(),by omega,ent_ren id ⟨rfl,rfl,trivial⟩ ⟨rfl,rfl,rfl,trivial⟩ rfl rfl rfl rfl rfl rfl⟩
   | false =>
    rw [hsq,if_neg (by simp)] at hfq
    repeat' (first|refine z0 ?_|apply ds_nil|refine z16 ?_|apply dw_skip|refine z19 ?_|apply thenD_n|apply inB_n)
    all_goals try (exfalso;omega)
    exact⟨q + 1,⟨by omega,hfq⟩,ent_ren id ⟨rfl,rfl,rfl,rfl,rfl,trivial⟩ ⟨rfl,rfl,rfl,trivial⟩ rfl rfl rfl rfl rfl rfl,by show 7 - (q + 1) < 7 - q;omega⟩
  ·rw [firstQ_end l opsT k q (by show 7≤q;omega)] at hfq
   rw [if_neg (by omega)] at hjf
   subst hjf
   clear hop
   subst hfq
   repeat' (first|refine z0 ?_|apply ds_nil|apply dw_seq2|refine z16 ?_|apply dw_block|apply dw_skip|apply dw_exit|apply thenD_n|apply thenD_e|refine z17 ?_|(refine z23 ?_ ?_ <;> intro hg)|fail)
   all_goals try (exfalso;omega)
   exact⟨(),by omega,ent_ren id ⟨rfl,rfl,trivial⟩ ⟨rfl,rfl,rfl,trivial⟩ rfl rfl rfl rfl rfl rfl⟩
 ·intro _ hjl
  clear hop
  by_cases h0:op=0
  ·subst h0
   rw [if_neg (by simp)] at hjf
   subst hjf
   rw [if_pos rfl]
   have w2:=fail_fn l jf e
   repeat' (first|refine z0 ?_|apply ds_nil|apply dw_seq2|refine z16 ?_|refine z18 ?_|apply thenD_n)
   all_goals try (exfalso;omega)
   (refine ds_callE id (w2) rfl rfl rfl rfl ⟨rfl,trivial⟩ rfl rfl rfl rfl rfl rfl ?_ ?_ ?_)
   ·rintro v rfl;exact⟨_,rfl,rfl⟩
   ·rintro _ _ _ h;exact h.elim
   ·rintro _ _ _ h;exact h.elim
  ·rw [if_pos h0] at hjf
   subst hjf
   rw [if_neg h0]
   have w3:=pterm_fn l (k + 1) e (by omega) hok
   repeat' (first|refine z0 ?_|apply ds_nil|apply dw_seq2|refine z16 ?_|apply dw_skip|apply thenD_n|(refine z23 ?_ ?_ <;> intro hg)|fail)
   all_goals try (exfalso;omega)
   (refine ds_callE id (w3) rfl rfl rfl rfl ⟨rfl,trivial⟩ rfl rfl rfl rfl rfl rfl ?_ ?_ ?_)
   ·rintro v ⟨m,hm,rfl⟩;exact⟨m,by rw [hm],rfl⟩
   ·rintro k2 res H2 ⟨t,m,_,_,rfl,rfl,rfl⟩;exact⟨rfl,rfl⟩
   rintro k2 res H2 ⟨t2,m,hm,_,rfl,rfl,rfl⟩
   change DS _ _ _ _ _ _ _ _
   clear w3
   rw [hm]
   dsimp only
   obtain⟨hm1,hm2⟩:=termT_lt hm
   by_cases h5:op < 5
   ·rw [if_pos h5]
    repeat' ((fail_if_success (apply dw_stopS 13));(fail_if_success (apply dw_stopR 13));(first|refine z0 ?_|apply ds_nil|refine z5 ?_|refine z6 ?_|refine z9 ?_|refine z11 ?_|apply dw_seq2|refine z16 ?_|refine z20 ?_|apply thenD_n|refine z1 ?_|refine z3 ?_|fail))
    all_goals try (exfalso;omega)
    refine dw_ent (ent_cellseal 1 4 12 rfl rfl rfl rfl rfl) ?_
    repeat' (first|refine z0 ?_|apply ds_nil|apply dw_seq2|refine z16 ?_|apply dw_skip|apply thenD_n|refine z3 ?_|(refine z23 ?_ ?_ <;> intro hg)|fail)
    all_goals try (exfalso;omega)
    exact⟨.inr rfl,_,rfl,id,2,_,[(0,prB l m e),(1,tlB 3 a op ⟨#[]⟩ (.d (.slice 2 ([t,t2].map encTTm))))],rfl,⟨rfl,rfl,trivial⟩,rfl,rfl,rfl,rfl,rfl,rfl,3,op,[t,t2],m,rfl,by omega,rfl,rfl,rfl⟩
   ·rw [if_neg h5]
    have w4:=need_fn l m e ⟨#[61]⟩ (by omega)
    repeat' (first|refine z0 ?_|apply ds_nil|refine z5 ?_|refine z6 ?_|refine z9 ?_|refine z11 ?_|apply dw_seq2|refine z16 ?_|refine z20 ?_|apply dw_skip|apply thenD_n|refine z1 ?_|refine z3 ?_|(refine z23 ?_ ?_ <;> intro hg)|fail)
    all_goals try (exfalso;omega)
    (refine ds_callE id (w4) rfl rfl rfl rfl ⟨rfl,trivial⟩ rfl rfl rfl rfl rfl rfl ?_ ?_ ?_)
    ·rintro v ⟨hs,rfl⟩;exact⟨m,by rw [hs];rfl,rfl⟩
    ·rintro k2 res H2 ⟨_,rfl,rfl,rfl⟩;exact⟨rfl,rfl⟩
    rintro k2 res H2 ⟨hs,rfl,rfl,rfl⟩
    change DS _ _ _ _ _ _ _ _
    clear w4
    have hml:=seesT_lt hs
    rw [hs,if_pos rfl]
    have w5:=pterm_fn l (m + 1) e (by omega) hok
    repeat' (first|refine z0 ?_|apply ds_nil|apply dw_seq2|refine z16 ?_|apply thenD_n)
    all_goals try (exfalso;omega)
    (refine ds_callE id (w5) rfl rfl rfl rfl ⟨rfl,trivial⟩ rfl rfl rfl rfl rfl rfl ?_ ?_ ?_)
    ·rintro v ⟨q,hq,rfl⟩;exact⟨q,by rw [hq],rfl⟩
    ·rintro k2 res H2 ⟨t,m,_,_,rfl,rfl,rfl⟩;exact⟨rfl,rfl⟩
    rintro k2 res H2 ⟨t3,q,hq,_,rfl,rfl,rfl⟩
    change DS _ _ _ _ _ _ _ _
    clear w5
    rw [hq]
    dsimp only
    obtain⟨hq1,hq2⟩:=termT_lt hq
    repeat' ((fail_if_success (apply dw_stopT 17));(first|apply ds_nil|apply thenD_n|refine z1 ?_|refine z3 ?_|fail))
    all_goals try (exfalso;omega)
    refine dw_split 11 (by kernel_rfl) (by kernel_rfl) (by kernel_rfl) rfl rfl rfl ?_
    repeat' (first|refine z5 ?_|refine z6 ?_|refine z9 ?_|refine z11 ?_|fail)
    refine⟨_,_,_,_,ent_cellseal 1 4 26 rfl rfl rfl rfl rfl,rfl,?_⟩
    repeat' refine z10 ?_
    exact⟨.inr rfl,_,rfl,id,2,_,[(0,prB l q e),(1,tlB 4 a op ⟨#[]⟩ (.d (.slice 2 ([t,t2,t3].map encTTm))))],rfl,⟨rfl,rfl,trivial⟩,rfl,rfl,rfl,rfl,rfl,rfl,4,op,[t,t2,t3],q,rfl,by omega,rfl,rfl,rfl⟩
theorem testT_lt {l:List Tok} {i j:Nat} {x:Int × Int × List TTm} (h:testT l i = .ok (x,j)):i < j∧j≤l.length:=by
 unfold testT at h
 cases h1:termT l i with
 | error k=>rw [h1] at h;cases h
 | ok p =>
  obtain⟨a,k⟩:=p
  rw [h1] at h
  dsimp only at h
  obtain⟨k1,k2⟩:=termT_lt h1
  split at h
  ·cases h
  cases h2:termT l (k + 1) with
  | error k=>rw [h2] at h;cases h
  | ok p =>
   obtain⟨b,m⟩:=p
   rw [h2] at h
   dsimp only at h
   obtain⟨m1,m2⟩:=termT_lt h2
   split at h
   ·injection h with h;injection h with h3 h4;omega
   split at h
   ·cases h3:termT l (m + 1) with
    | error k=>rw [h3] at h;cases h
    | ok p =>
     obtain⟨c,q⟩:=p
     rw [h3] at h
     dsimp only at h
     obtain⟨q1,q2⟩:=termT_lt h3
     injection h with h;injection h with h3 h4;omega
   ·cases h
theorem nameT_lt {l:List Tok} {i j:Nat} {s:ByteArray} (h:nameT l i = .ok (s,j)):j=i + 1∧j≤l.length:=by
 unfold nameT at h
 by_cases hl:i < l.length
 ·rw [List.getElem?_eq_getElem hl] at h
  dsimp only at h
  split at h
  ·injection h with h;injection h with h1 h2;omega
  ·cases h
 ·rw [List.getElem?_eq_none (by omega)] at h;cases h
theorem termsGo_lt {l:List Tok} {head:Bool}:∀ (n i:Nat) (acc:List TTm) {x:List TTm × Int} {j:Nat},termsGo l head n i acc = .ok (x,j)→i < j∧j≤l.length
 | 0,_,_,_,_,h=>by cases h
 | n + 1,i,acc,x,j,h=>by
  rw [termsGo_succ] at h
  generalize foldT l head i 0=f at h
  cases h1:termT l (if f≠0 then i + 1 else i) with
  | error k=>rw [h1] at h;cases h
  | ok p =>
   obtain⟨a,k⟩:=p
   rw [h1] at h
   dsimp only at h
   obtain⟨k1,k2⟩:=termT_lt h1
   have hik:i < k:=by split at k1 <;> omega
   split at h
   ·split at h
    ·rename_i hs
     have:=seesT_lt hs
     injection h with h;injection h with h3 h4;omega
    ·cases h
   ·have:=termsGo_lt n (k + 1) _ h
    omega
theorem termsT_lt {l:List Tok} {head:Bool} {i j:Nat} {x:List TTm × Int} (h:termsT l i head = .ok (x,j)):i < j∧j≤l.length:=by
 unfold termsT at h
 split at h
 ·split at h
  ·rename_i hs
   have:=seesT_lt hs
   injection h with h;injection h with h3 h4;omega
  ·have:=termsGo_lt _ _ _ h;omega
 ·cases h
theorem litT_lt {l:List Tok} {e:Int} {i j:Nat} {x:TLt} (h:litT l e i = .ok (x,j)):i < j∧j≤l.length:=by
 have nm:∀ (q:Nat) (kd:Int),(match nameT l q with
   | .error k=>(.error k:PR TLt)
   | .ok (s,k)=>(match termsT l k false with
    | .error m=>.error m
    | .ok ((ts,_),m)=>.ok (⟨kd,hereT l e i,0,s,ts⟩,m))) = .ok (x,j)→q < j∧j≤l.length:=by
  intro q kd hq
  cases h1:nameT l q with
  | error k=>rw [h1] at hq;cases hq
  | ok p =>
   obtain⟨a,k⟩:=p
   rw [h1] at hq
   dsimp only at hq
   have:=nameT_lt h1
   cases h2:termsT l k false with
   | error k=>rw [h2] at hq;cases hq
   | ok p =>
    obtain⟨⟨b,f⟩,m⟩:=p
    rw [h2] at hq
    dsimp only at hq
    have:=termsT_lt h2
    injection hq with hq;injection hq with h3 h4;omega
 unfold litT at h
 split at h
 ·have:=nm (i + 1) 2 h;omega
 ·split at h
  ·cases h1:testT l i with
   | error k=>rw [h1] at h;cases h
   | ok p =>
    obtain⟨⟨a,b,c⟩,k⟩:=p
    rw [h1] at h
    dsimp only at h
    have:=testT_lt h1
    injection h with h;injection h with h3 h4;omega
  ·have:=nm i 1 h;omega
theorem litsGo_succ (l:List Tok) (e:Int) (n i:Nat) (acc:List TLt):litsGo l e (n + 1) i acc=match litT l e i with
  | .error k=>.error k
  | .ok (x,k)=>if seesT l k ⟨#[44]⟩ then litsGo l e n (k + 1) (acc++[x]) else .ok (acc++[x],k):=rfl
theorem rulesGo_succ (l:List Tok) (e:Int) (n i:Nat) (acc:List TRu):rulesGo l e (n + 1) i acc=if i < l.length then
   (match ruleT l e i with
   | .error k=>.error k
   | .ok (r,k)=>rulesGo l e n k (acc++[r]))
  else .ok acc:=rfl
theorem litsGo_lt {l:List Tok} {e:Int}:∀ (n i:Nat) (acc:List TLt) {x:List TLt} {j:Nat},litsGo l e n i acc = .ok (x,j)→i < j∧j≤l.length
 | 0,_,_,_,_,h=>by cases h
 | n + 1,i,acc,x,j,h=>by
  unfold litsGo at h
  cases h1:litT l e i with
  | error k=>rw [h1] at h;cases h
  | ok p =>
   obtain⟨a,k⟩:=p
   rw [h1] at h
   dsimp only at h
   have:=litT_lt h1
   split at h
   ·have:=litsGo_lt n (k + 1) _ h;omega
   ·injection h with h;injection h with h3 h4;omega
theorem ruleT_lt {l:List Tok} {e:Int} {i j:Nat} {x:TRu} (h:ruleT l e i = .ok (x,j)):i < j∧j≤l.length:=by
 unfold ruleT at h
 cases h1:nameT l i with
 | error k=>rw [h1] at h;cases h
 | ok p =>
  obtain⟨s,k⟩:=p
  rw [h1] at h
  dsimp only at h
  have:=nameT_lt h1
  cases h2:termsT l k true with
  | error k=>rw [h2] at h;cases h
  | ok p =>
   obtain⟨⟨ts,f⟩,m⟩:=p
   rw [h2] at h
   dsimp only at h
   have:=termsT_lt h2
   split at h
   ·rename_i hs
    have:=seesT_lt hs.2
    injection h with h;injection h with h3 h4;omega
   ·split at h
    ·cases h3:litsGo l e (l.length + 1) (m + 1) [] with
     | error k=>rw [h3] at h;cases h
     | ok p =>
      obtain⟨b,q⟩:=p
      rw [h3] at h
      dsimp only at h
      have:=litsGo_lt _ _ _ h3
      split at h
      ·rename_i hs
       have:=seesT_lt hs
       injection h with h;injection h with h3 h4;omega
      ·cases h
    ·cases h
end Go.Proofs.YtapciiffpnociabGreatDoor
