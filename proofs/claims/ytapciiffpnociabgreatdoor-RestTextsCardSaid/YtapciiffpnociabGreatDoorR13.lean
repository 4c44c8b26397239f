/- Several texts in one: ShwK ShwE GxMap GxVew GxStb GxPtr ShwD ShwF GxSts. Condition: none. -/
import Derived.Test.YtapciiffpnociabGreatDoorR12
import Derived.Test.YtapciiffpnociabGreatDoorR09
import Derived.Maps.Keyed
import Derived.Lib.AppendStr
import Derived.Lib.Builder
import Derived.Lib.UnsafeStr
import Derived.Test.YtapciiffpnociabGreatDoorR11
import Derived.Test.YtapciiffpnociabGreatDoorR08
namespace Go.Proofs.YtapciiffpnociabGreatDoor
open Go Go.RowKit
theorem each_snoc:∀ (l:List ByteArray) (x:ByteArray),l≠[]→eachS (l++[x])=eachS l++cmS++x
 | [],_,h=>absurd rfl h
 | [y],x,_=>by
  apply ByteArray.ext
  simp [eachS,joinB,Lib.join,List.intercalate,List.intersperse]
 | y::z::r,x,_=>by
  have ih:=each_snoc (z::r) x (by simp)
  have e:∀ (a b:ByteArray) (l:List ByteArray),eachS (a::b::l)=a++cmS++eachS (b::l):=by
   intro a b l
   apply ByteArray.ext
   simp [eachS,joinB,Lib.join,List.intercalate]
  show eachS (y::z::(r++[x]))=_
  rw [e,e,show z::(r++[x])=(z::r)++[x] from rfl,ih]
  simp only [ByteArray.append_assoc]
theorem each_one (x:ByteArray):eachS [x]=x:=by
 apply ByteArray.ext
 simp [eachS,joinB,Lib.join,List.intercalate]
theorem each_none:eachS []=⟨#[]⟩:=rfl
def wordsZ:List ByteArray:=⟨#[]⟩::wordsL.drop 1
def midS (l:List TTm) (fold:Int) (i:Nat):ByteArray :=
 if fold=0∨i < l.length then eachS ((l.take i).map showTm)
 else (if 1 < l.length then eachS ((l.take (l.length - 1)).map showTm)++cmS else eachS ((l.take (l.length - 1)).map showTm))++wordsL.getD fold.toNat ⟨#[]⟩++⟨#[32]⟩++showTm (l.getD (l.length - 1) ⟨⟨#[]⟩,0⟩)
theorem atomS_mid (name:ByteArray) (l:List TTm) (fold:Int) (_:fold=0∨0 < l.length):atomS name l fold=name++⟨#[40]⟩++midS l fold l.length++⟨#[41]⟩:=by
 unfold atomS midS
 by_cases h:fold=0
 ·rw [if_pos h,if_pos (.inl h),List.take_length]
 ·rw [if_neg h,if_neg (show ¬ (fold=0∨l.length < l.length) by rintro (h2|h2);exact h h2;omega)]
  simp only [ByteArray.append_assoc]
theorem mid_step {l:List TTm} {fold:Int} {i:Nat} (hi:i < l.length) (hf:fold=0∨i + 1 < l.length):midS l fold (i + 1)=(if 0 < i then midS l fold i++cmS else midS l fold i)++showTm l[i]:=by
 have e1:midS l fold (i + 1)=eachS ((l.take (i + 1)).map showTm):=by
  unfold midS
  rw [if_pos hf]
 have e2:midS l fold i=eachS ((l.take i).map showTm):=by
  unfold midS
  rw [if_pos (.inr hi)]
 rw [e1,e2,List.take_succ_eq_append_getElem hi,List.map_append,List.map_cons,List.map_nil]
 cases i with
 | zero =>
  rw [if_neg (by omega),List.take_zero]
  show eachS [showTm l[0]]=eachS []++_
  rw [each_one,each_none]
  exact (ByteArray.empty_append ..).symm
 | succ n =>
  rw [if_pos (by omega),each_snoc _ _ (by
   intro h
   have:=congrArg List.length h
   rw [List.length_map,List.length_take,List.length_nil] at this
   omega)]
theorem mid_last {l:List TTm} {fold:Int} {i:Nat} (hi:i < l.length) (h0:fold≠0) (hf:i + 1=l.length):midS l fold (i + 1)=(if 0 < i then midS l fold i++cmS else midS l fold i)++(wordsL.getD fold.toNat ⟨#[]⟩++⟨#[32]⟩)++showTm l[i]:=by
 have e1:midS l fold (i + 1)=(if 1 < l.length then eachS ((l.take (l.length - 1)).map showTm)++cmS else eachS ((l.take (l.length - 1)).map showTm))++wordsL.getD fold.toNat ⟨#[]⟩++⟨#[32]⟩++showTm (l.getD (l.length - 1) ⟨⟨#[]⟩,0⟩):=by
  unfold midS
  rw [if_neg (by rintro (h2|h2);exact h0 h2;omega)]
 have e2:midS l fold i=eachS ((l.take i).map showTm):=by
  unfold midS
  rw [if_pos (.inr hi)]
 have e3:l.length - 1=i:=by omega
 have hg:l.getD i ⟨⟨#[]⟩,0⟩=l[i]:=by rw [List.getD_eq_getElem?_getD,List.getElem?_eq_getElem hi];rfl
 rw [e1,e2,e3,hg]
 by_cases h:0 < i
 ·rw [if_pos h,if_pos (by omega)]
  simp only [ByteArray.append_assoc]
 ·rw [if_neg h,if_neg (by omega)]
  simp only [ByteArray.append_assoc]
theorem midS_size {l:List TTm} {fold:Int} {i:Nat} (hl:l.length≤16) (hok:∀ t∈l,nOk t) (hi:i < l.length):(midS l fold i).size≤68719476768:=by
 unfold midS
 rw [if_pos (.inr hi)]
 exact eachTm_size _ (by rw [List.length_take];omega) fun t ht=>hok t (List.mem_of_mem_take ht)
theorem words_at:∀ k:Fin wordsZ.length,1≤k.val→wordsL.getD k.val ⟨#[]⟩=wordsZ[k.val]:=by decide
attribute [local irreducible] DW DS DL DQ Ev FnOk FnP thenD inBlockD DT
set_option maxHeartbeats 8000000 in
theorem atomText_fn (name:ByteArray) (l:List TTm) (fold:Int) (hl:l.length≤16) (hok:∀ t∈l,nOk t) (hn:name.size≤4294967296) (hf:fold=0∨(1≤fold∧fold≤4∧0 < l.length)):Fn 29 [.d (.str name),.d (.slice 2 (l.map encTTm)),.d (.int .i64 fold)] (fun r=>r = .d (.str (atomS name l fold))):=by
 refine fnp_enter' _ Tryz.func29 rfl rfl (by kernel_rfl) ?_
 intro O w0 E0 β0
 have ll:(l.map encTTm).length=l.length:=List.length_map _
 have s40:(⟨#[40]⟩:ByteArray).size=1:=rfl
 have s41:(⟨#[41]⟩:ByteArray).size=1:=rfl
 have s32:(⟨#[32]⟩:ByteArray).size=1:=rfl
 have scm:(⟨#[44,32]⟩:ByteArray).size=2:=rfl
 have scm2:cmS.size=2:=rfl
 rw [atomS_mid name l fold (by omega)]
 repeat' (first|refine z0 ?_|apply ds_nil|apply dw_seq2|refine z16 ?_|apply dw_block|apply thenD_n)
 refine ds_loop (ι:=Nat) (fun i=>⟨0,[(0,.d (.str name)),(1,.d (.slice 2 (l.map encTTm))),(2,.d (.int .i64 fold)),(7,.d (.str (name++⟨#[40]⟩++midS l fold i))),(8,.d (.int .i64 i))],[]⟩)
  (fun i=>i≤l.length) (fun i=>l.length - i) 0 (Nat.zero_le _) (ent_ren id ⟨rfl,rfl,rfl,by
   have:midS l fold 0=⟨#[]⟩:=by
    unfold midS
    rw [if_pos (by omega)]
    rfl
   rw [this,show name++(⟨#[40]⟩:ByteArray)++(⟨#[]⟩:ByteArray)=name++⟨#[40]⟩ from ByteArray.append_empty ..]
   rfl,rfl,trivial⟩ trivial rfl rfl rfl rfl rfl rfl) ?_
 intro i hle
 dsimp only at hle ⊢
 by_cases hi:i < l.length
 ·have w1:=termText_fn l[i] (hok _ (List.getElem_mem hi))
  have yz1:=showTm_size (hok _ (List.getElem_mem hi))
  have yz2:=midS_size (fold:=fold) hl hok hi
  have m1:=mid_step (l:=l) (fold:=fold) hi
  have m2:=mid_last (l:=l) (fold:=fold) hi
  generalize showTm l[i]=T at *
  generalize midS l fold i=M at *
  repeat' ((fail_if_success (apply dw_stopS 7));(first|refine z0 ?_|apply ds_nil|apply dw_seq2|refine z16 ?_|apply dw_block|apply dw_skip|apply dw_exit|apply thenD_n|apply thenD_e|refine z17 ?_|(refine z23 ?_ ?_ <;> intro hg)|fail))
  all_goals try (exfalso;omega)
  all_goals
   (first|rw [if_pos (show 0 < i by omega)] at m1 m2|rw [if_neg (show ¬ 0 < i by omega)] at m1 m2)
   by_cases h0:fold=0
   ·have m:=m1 (.inl h0)
    repeat' (first|refine z0 ?_|refine z12 ?_|apply ds_nil|apply dw_seq2|refine z16 ?_|apply dw_skip|refine z19 ?_|apply thenD_n|apply inB_n|refine z21 ?_ (hc:=by apply w1)|refine z4 ?_|(refine z23 ?_ ?_ <;> intro hg)|((fail_if_success (apply ds_known;exact rfl));apply ds_guardP;exact rfl;exact rfl;exact rfl;all_goals intro hg))
    all_goals try (exfalso;omega)
    exact⟨i + 1,hi,ent_ren id ⟨rfl,rfl,rfl,by rw [m];simp only [← ByteArray.append_assoc];rfl,rfl,trivial⟩ trivial rfl rfl rfl rfl rfl rfl,by omega⟩
   ·by_cases hl2:i + 1 < l.length
    ·have m:=m1 (.inr hl2)
     repeat' (first|refine z0 ?_|refine z12 ?_|apply ds_nil|apply dw_seq2|refine z16 ?_|apply dw_skip|refine z19 ?_|apply thenD_n|apply inB_n|refine z21 ?_ (hc:=by apply w1)|refine z4 ?_|(refine z23 ?_ ?_ <;> intro hg)|((fail_if_success (apply ds_known;exact rfl));apply ds_guardP;exact rfl;exact rfl;exact rfl;all_goals intro hg))
     all_goals try (exfalso;omega)
     exact⟨i + 1,hi,ent_ren id ⟨rfl,rfl,rfl,by rw [m];simp only [← ByteArray.append_assoc];rfl,rfl,trivial⟩ trivial rfl rfl rfl rfl rfl rfl,by omega⟩
    ·have m:=m2 h0 (by omega)
     obtain⟨f1,f2⟩:1≤fold∧fold≤4:=by omega
     have hfw:fold.toNat < wordsZ.length:=by show fold.toNat < 5;omega
     have hgw:wordsL.getD fold.toNat ⟨#[]⟩=wordsZ[fold.toNat]:=words_at ⟨fold.toNat,hfw⟩ (by show 1≤fold.toNat;omega)
     have hw:∀ x∈wordsZ,x.size≤5:=by decide
     have hw2:=hw _ (List.getElem_mem hfw)
     have lw:(wordsZ.map encT).length=5:=rfl
     rw [hgw] at m
     repeat' (first|(refine ds_bsS wordsZ rfl rfl rfl rfl rfl rfl rfl rfl rfl rfl rfl rfl ?_)|(first|refine z0 ?_|refine z12 ?_|apply ds_nil|apply dw_seq2|refine z16 ?_|apply dw_skip|refine z19 ?_|apply thenD_n|apply inB_n|refine z21 ?_ (hc:=by apply w1)|(refine z23 ?_ ?_ <;> intro hg)|((fail_if_success (apply ds_known;exact rfl));apply ds_guardP;exact rfl;exact rfl;exact rfl;all_goals intro hg)))
     all_goals try (exfalso;omega)
     exact⟨i + 1,hi,ent_ren id ⟨rfl,rfl,rfl,by rw [m];simp only [← ByteArray.append_assoc];rfl,rfl,trivial⟩ trivial rfl rfl rfl rfl rfl rfl,by omega⟩
 ·obtain rfl:i=l.length:=by omega
  have yz2:(midS l fold l.length).size≤73014444090:=by
   by_cases h0:l.length=0
   ·unfold midS
    rw [if_pos (by omega),h0,List.take_zero]
    decide
   ·have hj:l.length - 1 < l.length:=by omega
    have yz1:=showTm_size (hok _ (List.getElem_mem hj))
    have yz2:=midS_size (fold:=fold) hl hok hj
    have e:l.length - 1 + 1=l.length:=by omega
    by_cases hf0:fold=0
    ·have m1:=mid_step (l:=l) (fold:=fold) hj (.inl hf0)
     rw [e] at m1
     rw [m1]
     split <;> simp only [ByteArray.size_append] <;> omega
    ·have m2:=mid_last (l:=l) (fold:=fold) hj hf0 e
     rw [e] at m2
     rw [m2]
     have hfw:fold.toNat < wordsL.length:=by show fold.toNat < 5;omega
     have hgw:wordsL.getD fold.toNat ⟨#[]⟩=wordsL[fold.toNat]:=by rw [List.getD_eq_getElem?_getD,List.getElem?_eq_getElem hfw];rfl
     have hw:∀ x∈wordsL,x.size≤5:=by decide
     have hw2:=hw _ (List.getElem_mem hfw)
     rw [hgw]
     split <;> simp only [ByteArray.size_append] <;> omega
  generalize midS l fold l.length=M at *
  repeat' (first|refine z0 ?_|refine z12 ?_|apply ds_nil|apply dw_seq2|refine z16 ?_|apply dw_block|apply dw_skip|apply dw_exit|apply dw_ret|refine z19 ?_|apply thenD_n|apply thenD_e|refine z17 ?_|refine z4 ?_|(refine z23 ?_ ?_ <;> intro hg)|((fail_if_success (apply ds_known;exact rfl));apply ds_guardP;exact rfl;exact rfl;exact rfl;all_goals intro hg))
  all_goals try (exfalso;omega)
  exact⟨.inl rfl,_,rfl,rfl,rfl⟩
def opsS:List ByteArray:=⟨#[]⟩::opsT
abbrev t0S:TTm:=⟨⟨#[]⟩,0⟩
def showLt (x:TLt):ByteArray :=
 if x.kind=1 then atomS x.name x.terms 0
 else if x.kind=2 then ⟨#[110,111,116,32]⟩++atomS x.name x.terms 0
 else if x.kind=3 then showTm (x.terms.getD 0 t0S)++⟨#[32]⟩++opsS.getD x.op.toNat ⟨#[]⟩++⟨#[32]⟩++showTm (x.terms.getD 1 t0S)
 else showTm (x.terms.getD 0 t0S)++⟨#[32]⟩++opsS.getD x.op.toNat ⟨#[]⟩++⟨#[32]⟩++showTm (x.terms.getD 1 t0S)++⟨#[32,61,32]⟩++showTm (x.terms.getD 2 t0S)
structure LtOk (x:TLt):Prop where
 terms:∀ t∈x.terms,nOk t
 len:x.terms.length≤3
 name:x.name.size≤4294967296
 op:0≤x.op∧x.op≤7
 two:x.kind≠1→x.kind≠2→2≤x.terms.length
 three:x.kind≠1→x.kind≠2→x.kind≠3→3≤x.terms.length
theorem atomS_size (name:ByteArray) (l:List TTm) (hl:l.length≤16) (hok:∀ t∈l,nOk t) (hn:name.size≤4294967296):(atomS name l 0).size≤73014444066:=by
 unfold atomS
 rw [if_pos rfl]
 have hs:=eachTm_size l hl hok
 have s40:(⟨#[40]⟩:ByteArray).size=1:=rfl
 have s41:(⟨#[41]⟩:ByteArray).size=1:=rfl
 simp only [ByteArray.size_append]
 omega
set_option maxHeartbeats 8000000 in
theorem slit_fn (x:TLt) (h:LtOk x):Fn 24 [elTLt x] (fun r=>r = .d (.str (showLt x))):=by
 refine fnp_enter' _ Tryz.func24 rfl rfl (by kernel_rfl) ?_
 intro O w0 E0 β0
 have ll:(x.terms.map encTTm).length=x.terms.length:=List.length_map _
 have s32:(⟨#[32]⟩:ByteArray).size=1:=rfl
 have s4:(⟨#[110,111,116,32]⟩:ByteArray).size=4:=rfl
 have s3:(⟨#[32,61,32]⟩:ByteArray).size=3:=rfl
 obtain⟨o0,o1⟩:=h.op
 have hd:showLt x=if x.kind=1 then atomS x.name x.terms 0
  else if x.kind=2 then ⟨#[110,111,116,32]⟩++atomS x.name x.terms 0
  else if x.kind=3 then showTm (x.terms.getD 0 t0S)++⟨#[32]⟩++opsS.getD x.op.toNat ⟨#[]⟩++⟨#[32]⟩++showTm (x.terms.getD 1 t0S)
  else showTm (x.terms.getD 0 t0S)++⟨#[32]⟩++opsS.getD x.op.toNat ⟨#[]⟩++⟨#[32]⟩++showTm (x.terms.getD 1 t0S)++⟨#[32,61,32]⟩++showTm (x.terms.getD 2 t0S):=rfl
 rw [hd]
 have w1:=satom_fn x.name x.terms 0 (by have:=h.len;omega) h.terms h.name (.inl rfl)
 have hs:=atomS_size x.name x.terms (by have:=h.len;omega) h.terms h.name
 have lo:(opsS.map encT).length=8:=rfl
 have ho:x.op.toNat < opsS.length:=by show x.op.toNat < 8;omega
 have hgo:opsS.getD x.op.toNat ⟨#[]⟩=opsS[x.op.toNat]:=by rw [List.getD_eq_getElem?_getD,List.getElem?_eq_getElem ho];rfl
 rw [hgo]
 have hw:∀ s∈opsS,s.size≤2:=by decide
 have hw2:=hw _ (List.getElem_mem ho)
 generalize atomS x.name x.terms 0=A at *
 repeat' (first|(refine ds_bsS opsS rfl rfl rfl rfl rfl rfl rfl rfl rfl rfl rfl rfl ?_)|((fail_if_success (apply dw_stopS 3));(first|refine z0 ?_|apply ds_nil|apply dw_seq2|refine z16 ?_|apply dw_block|apply thenD_n|refine z1 ?_|fail)))
 clear hd
 by_cases k1:x.kind=1
 ·rw [if_pos k1]
  repeat' (first|refine z0 ?_|apply ds_nil|refine z5 ?_|apply dw_seq2|refine z16 ?_|refine z20 ?_|apply dw_skip|apply dw_ret|apply thenD_n|apply thenD_r|apply inB_n|apply inB_r|refine z21 ?_ (hc:=by apply w1)|(refine z23 ?_ ?_ <;> intro hg)|fail)
  all_goals try (exfalso;omega)
  all_goals exact⟨.inl rfl,_,rfl,rfl,rfl⟩
 ·rw [if_neg k1]
  by_cases k2:x.kind=2
  ·rw [if_pos k2]
   repeat' (first|refine z0 ?_|apply ds_nil|refine z5 ?_|apply dw_seq2|refine z16 ?_|refine z20 ?_|apply dw_skip|apply dw_ret|apply thenD_n|apply thenD_r|apply inB_n|apply inB_r|refine z21 ?_ (hc:=by apply w1)|(refine z23 ?_ ?_ <;> intro hg)|fail)
   all_goals try (exfalso;omega)
   all_goals exact⟨.inl rfl,_,rfl,rfl,rfl⟩
  ·rw [if_neg k2]
   have g2:=h.two k1 k2
   have e0:x.terms.getD 0 t0S=x.terms[0]:=by rw [List.getD_eq_getElem?_getD,List.getElem?_eq_getElem (by omega)];rfl
   have e1:x.terms.getD 1 t0S=x.terms[1]:=by rw [List.getD_eq_getElem?_getD,List.getElem?_eq_getElem (by omega)];rfl
   rw [e0,e1]
   have v0:=sterm_fn x.terms[0] (h.terms _ (List.getElem_mem _))
   have v1:=sterm_fn x.terms[1] (h.terms _ (List.getElem_mem _))
   have yz0':=showTm_size (h.terms _ (List.getElem_mem (by omega:0 < x.terms.length)))
   have yz1':=showTm_size (h.terms _ (List.getElem_mem (by omega:1 < x.terms.length)))
   by_cases k3:x.kind=3
   ·rw [if_pos k3]
    generalize showTm x.terms[0]=T0 at *
    generalize showTm x.terms[1]=T1 at *
    repeat' (first|refine z0 ?_|apply ds_nil|refine z5 ?_|refine z10 ?_|apply dw_seq2|refine z16 ?_|refine z20 ?_|apply dw_skip|apply dw_ret|apply thenD_n|apply thenD_r|apply inB_n|apply inB_r|refine z22 ?_ (hc:=by apply v0)|refine z22 ?_ (hc:=by apply v1)|(refine z23 ?_ ?_ <;> intro hg)|fail)
    all_goals try (exfalso;omega)
    all_goals exact⟨.inl rfl,_,rfl,rfl,rfl⟩
   ·rw [if_neg k3]
    have g3:=h.three k1 k2 k3
    have e2:x.terms.getD 2 t0S=x.terms[2]:=by rw [List.getD_eq_getElem?_getD,List.getElem?_eq_getElem (by omega)];rfl
    rw [e2]
    have v2:=sterm_fn x.terms[2] (h.terms _ (List.getElem_mem _))
    have yz2':=showTm_size (h.terms _ (List.getElem_mem (by omega:2 < x.terms.length)))
    generalize showTm x.terms[0]=T0 at *
    generalize showTm x.terms[1]=T1 at *
    generalize showTm x.terms[2]=T2 at *
    repeat' (first|refine z0 ?_|apply ds_nil|refine z5 ?_|refine z10 ?_|apply dw_seq2|refine z16 ?_|refine z20 ?_|apply dw_skip|apply dw_ret|apply thenD_n|apply thenD_r|apply inB_n|apply inB_r|refine z22 ?_ (hc:=by apply v0)|refine z22 ?_ (hc:=by apply v1)|refine z22 ?_ (hc:=by apply v2)|(refine z23 ?_ ?_ <;> intro hg)|fail)
    all_goals try (exfalso;omega)
    all_goals exact⟨.inl rfl,_,rfl,rfl,rfl⟩
theorem showLt_size {x:TLt} (h:LtOk x):(showLt x).size≤137438953472:=by
 have hs:=atomS_size x.name x.terms (by have:=h.len;omega) h.terms h.name
 have s32:(⟨#[32]⟩:ByteArray).size=1:=rfl
 have s4:(⟨#[110,111,116,32]⟩:ByteArray).size=4:=rfl
 have s3:(⟨#[32,61,32]⟩:ByteArray).size=3:=rfl
 obtain⟨o0,o1⟩:=h.op
 have ho:x.op.toNat < opsS.length:=by show x.op.toNat < 8;omega
 have hgo:opsS.getD x.op.toNat ⟨#[]⟩=opsS[x.op.toNat]:=by rw [List.getD_eq_getElem?_getD,List.getElem?_eq_getElem ho];rfl
 have hw:∀ s∈opsS,s.size≤2:=by decide
 have hw2:=hw _ (List.getElem_mem ho)
 have hg:∀ i,(showTm (x.terms.getD i t0S)).size≤4294967296:=by
  intro i
  rw [List.getD_eq_getElem?_getD]
  cases hx:x.terms[i]? with
  | none=>exact showTm_size (t:=t0S) ⟨by decide,by decide,by decide⟩
  | some t=>exact showTm_size (h.terms t (List.mem_of_getElem? hx))
 have g0:=hg 0
 have g1:=hg 1
 have g2:=hg 2
 unfold showLt
 rw [hgo]
 split
 ·omega
 split
 ·simp only [ByteArray.size_append];omega
 split
 ·simp only [ByteArray.size_append];omega
 ·simp only [ByteArray.size_append];omega
set_option maxHeartbeats 8000000 in
theorem eachLt_fn (l:List TLt) (hl:l.length≤16) (hok:∀ x∈l,LtOk x):Fn 23 [.d (.slice 5 (l.map encTLt)),.fn 24 []] (fun r=>r = .d (.str (eachS (l.map showLt)))):=by
 refine fnp_enter' _ Tryz.func23 rfl rfl (by kernel_rfl) ?_
 intro O w0 E0 β0
 have ll:(l.map encTLt).length=l.length:=List.length_map _
 repeat' (first|refine z0 ?_|apply ds_nil|apply dw_seq2|refine z16 ?_|apply dw_block|apply thenD_n)
 refine dw_ent (ent_nilrow (t:=5) 9 1 rfl) ?_
 repeat' fail
 refine ds_loop (ι:=Nat) (fun i=>⟨1,[(1,.fn 24 []),(5,.row 0),(8,.d (.slice 5 (l.map encTLt))),(9,.d (.int .i64 l.length)),(10,.d (.int .i64 i))],[(0,.row 9 1 ((l.take i).map fun t=>encT (showLt t)))]⟩)
  (fun i=>i≤l.length) (fun i=>l.length - i) 0 (Nat.zero_le _) (ent_ren id ⟨rfl,rfl,rfl,by rw [← ll];rfl,rfl,trivial⟩ ⟨rfl,trivial⟩ rfl rfl rfl rfl rfl rfl) ?_
 intro i hle
 dsimp only at hle ⊢
 by_cases hi:i < l.length
 ·have w1:Fn 24 ([elTLt l[i]]++[]) _:=slit_fn l[i] (hok _ (List.getElem_mem hi))
  have lt:((l.take i).map fun t=>encT (showLt t)).length=i:=by rw [List.length_map,List.length_take];omega
  have hst:(l.take (i + 1)).map (fun t=>encT (showLt t))=(l.take i).map (fun t=>encT (showLt t))++[encT (showLt l[i])]:=by rw [List.take_succ_eq_append_getElem hi,List.map_append];rfl
  repeat' (first|refine z0 ?_|apply ds_nil|apply dw_seq2|refine z16 ?_|apply dw_block|apply dw_skip|apply dw_exit|apply thenD_n|apply thenD_e|apply inB_n|refine z17 ?_|(apply ds_callV;exact rfl;exact rfl;exact rfl;exact rfl;apply w1;exact rfl;(exact rfl);exact rfl;rintro _ rfl)|refine z1 ?_|refine z3 ?_|refine z4 ?_|refine z2 ?_|(refine z23 ?_ ?_ <;> intro hg)|fail)
  all_goals try (exfalso;omega)
  exact⟨i + 1,hi,ent_ren (fun j=>match j with|0=>_|j=>j) ⟨rfl,rfl,rfl,rfl,rfl,trivial⟩ ⟨by rw [hst];rfl,trivial⟩ rfl rfl rfl rfl rfl rfl,by omega⟩
 ·rw [List.take_of_length_le (by omega)]
  have hs:=join_size cmS (by decide) (l.map showLt) 137438953472 (fun x hx=>by
   obtain⟨t,ht,rfl⟩:=List.mem_map.1 hx
   exact showLt_size (hok t ht))
  rw [List.length_map] at hs
  have hs2:(joinB (l.map showLt) cmS).size≤140737488355328:=by
   have:l.length * (137438953472 + 2)≤16 * (137438953472 + 2):=Nat.mul_le_mul_right _ hl
   omega
  have w1:=join_fn (l.map showLt) cmS (by rw [List.length_map];omega) hs2
  rw [show encStrs (l.map showLt)=l.map (fun t=>encT (showLt t)) from List.map_map ..] at w1
  repeat' ((fail_if_success (apply dw_stopS 7));(first|refine z0 ?_|apply ds_nil|apply dw_seq2|refine z16 ?_|apply dw_block|apply dw_skip|apply dw_exit|apply thenD_n|apply thenD_e|refine z17 ?_|refine z1 ?_|refine z3 ?_|(refine z23 ?_ ?_ <;> intro hg)|fail))
  all_goals try (exfalso;omega)
  refine dw_ent (ent_seal 5 rfl rfl rfl) ?_
  repeat' (first|refine z0 ?_|apply ds_nil|apply dw_seq2|refine z16 ?_|apply dw_ret|apply thenD_n|refine z21 ?_ (hc:=by apply w1)|fail)
  exact⟨.inl rfl,_,rfl,rfl,rfl⟩
end Go.Proofs.YtapciiffpnociabGreatDoor
namespace Go.Proofs.YtapciiffpnociabGreatDoor
open Go Go.RowKit
open Go.Maps (Keyed)
def MK.kd:MK→Bool
 | .str _=>true
 | .pair _ _=>false
section
variable {Γ : Ctx} {k : Nat → Prop} {L : Sl} {H : Hp} {K : Next'} {ops : List Oper} {rest : List Oper} {a : Act} {w : World} {e : Env} {t t' ty : TypeId} {x y : Operand}
end
section
variable {Γ : Ctx} {k : Nat} {L : Sl} {H : Hp} {K : Next'} {ops : List Oper} {rest : List Oper} {t t' ty : TypeId} {x y : Operand} {q : Bool}
end
end Go.Proofs.YtapciiffpnociabGreatDoor
namespace Go.Proofs.YtapciiffpnociabGreatDoor
open Go Go.RowKit
section
variable {Γ : Ctx} {k : Nat} {L : Sl} {H H' : Hp} {Q : Post} {c : Code}
end
section
variable {Γ : Ctx} {kk : Nat → Prop} {L : Sl} {H : Hp} {a : Act} {w : World} {e : Env}
end
section
variable {Γ : Ctx} {k : Nat} {L : Sl} {H H' : Hp} {K : Next'} {ops : List Oper} {rest : List Oper} {t : TypeId}
end
section
variable {Γ : Ctx} {k : Nat} {L : Sl} {H : Hp} {K : Next'} {ops : List Oper} {rest : List Oper} {t : TypeId}
theorem evNils {kk:Nat→Prop} {a:Act} {w:World} {e:Env} (m:Models Γ kk L H e a w) {x:Operand} (hx:opSV L x = .nils):a.eval x = .slice none 0 0:=by
 have hok:opOk x:=by
  cases x with
  | const v=>simp only [opSV] at hx;unfold cSV at hx;split at hx <;> simp_all [opOk,cOk]
  | _=>trivial
 have:=m.op x hok
 rw [hx] at this;exact this
end
end Go.Proofs.YtapciiffpnociabGreatDoor
namespace Go.Proofs.YtapciiffpnociabGreatDoor
open Go Go.RowKit
section
variable {Γ : Ctx} {k : Nat → Prop} {L : Sl} {H : Hp} {t t' ty : TypeId} {x y : Operand}
theorem run_eql_nilptr {P:Program} (w:World) {tp te:TypeId} (hp:P.underlying tp=some (.pointer te)):(binOp .eql tp (.pointer none) (.pointer none)).run P w = .ok (.bool true) w:=by
 have h:∀ d:Nat,(Op.equalIn (d + 1) tp (.pointer none) (.pointer none)).run P w = .ok true w:=fun d=>by
  simp [Op.equalIn,run_underlying hp]
 simp only [binOp]
 simp [Op.equal,Op.maxDepth,h 9999]
theorem ev_ptrNil {te:TypeId} {n:Nat} (ht:Γ.P.underlying t=some (.pointer te)) (hx:L.get n = .val (.pointer none)):Ev Γ k L H (.binOp .eql t (.tmp n) (.const (.pointer none)) t') ty (.d (.bool true)):=by
 intro e a w m
 have hv:a.eval (.tmp n) = .pointer none:=by
  have h:=m.slot n
  rw [hx] at h
  exact h
 refine⟨.bool true,fun _ _ _ _ w' _=>?_,.bool⟩
 have hc:a.eval (.const (.pointer none)) = .pointer none:=rfl
 simp [execOp,hv,hc,eqGuard,run_eql_nilptr w' ht]
theorem run_eql_ptr_some {P:Program} (w:World) {tp te:TypeId} (ad:Addr) (hp:P.underlying tp=some (.pointer te)):(binOp .eql tp (.pointer (some ad)) (.pointer none)).run P w = .ok (.bool false) w:=by
 have h:∀ d:Nat,(Op.equalIn (d + 1) tp (.pointer (some ad)) (.pointer none)).run P w = .ok false w:=fun d=>by
  simp [Op.equalIn,run_underlying hp]
 simp only [binOp]
 simp [Op.equal,Op.maxDepth,h 9999]
theorem ev_ptrSome {te:TypeId} {n i o:Nat} (ht:Γ.P.underlying t=some (.pointer te)) (hx:L.get n = .loc i o):Ev Γ k L H (.binOp .eql t (.tmp n) (.const (.pointer none)) t') ty (.d (.bool false)):=by
 intro e a w m
 have hv:=m.slot n
 rw [hx] at hv
 have hv':a.eval (.tmp n) = .pointer (some ⟨e.β i,o,none⟩):=hv.2
 refine⟨.bool false,fun _ _ _ _ w' _=>?_,.bool⟩
 have hc:a.eval (.const (.pointer none)) = .pointer none:=rfl
 simp [execOp,hv',hc,eqGuard,run_eql_ptr_some w' _ ht]
theorem ev_ptrSame {te:TypeId} {n n' i o:Nat} (ht:Γ.P.underlying t=some (.pointer te)) (hsz:(Γ.P.info? te).isSome=true) (hx:L.get n = .loc i o) (hy:L.get n' = .loc i o):Ev Γ k L H (.binOp .neq t (.tmp n) (.tmp n') t') ty (.d (.bool false)):=by
 intro e a w m
 obtain⟨j,hj⟩:=Option.isSome_iff_exists.1 hsz
 have hv:=m.slot n
 rw [hx] at hv
 have hv':a.eval (.tmp n) = .pointer (some ⟨e.β i,o,none⟩):=hv.2
 have hu:=m.slot n'
 rw [hy] at hu
 have hu':a.eval (.tmp n') = .pointer (some ⟨e.β i,o,none⟩):=hu.2
 refine⟨.bool false,fun _ _ _ _ w' _=>?_,.bool⟩
 simp [execOp,hv',hu',eqGuard,Lib.run_neq_ptr_same w' _ ht hj]
theorem ev_toUnsafe {te i n:Nat} {src dst:TypeId} {T:TypeId} {cs:List SV} (hs:Γ.P.underlying src=some (.pointer te)) (hd:Γ.P.underlying dst=some .unsafePointer) (hte:((Γ.P.info? te).map fun j=>Nat.blt 0 j.size)=some true)
  (hx:L.get n = .loc i 0) (hH:Hp.get H i=some (.blk T cs)) (hc:Nat.blt 0 cs.length=true):Ev Γ k L H (.convert src dst (.tmp n)) ty (.loc i 0):=by
 intro e a w m
 obtain⟨j,hj,hj2⟩:=Option.map_eq_some_iff.1 hte
 have hj2:0 < j.size:=Nat.le_of_ble_eq_true hj2
 have hv:=m.slot n
 rw [hx] at hv
 have hv':a.eval (.tmp n) = .pointer (some ⟨e.β i,0,none⟩):=hv.2
 obtain⟨vs,hb,hr,_⟩:=(m.heap _ (Hp.mem_of hH)).2
 have hl:=RelL.length _ _ hr
 refine⟨.pointer (some ⟨e.β i,0,none⟩),fun _ _ _ _ w' hw=>?_,⟨hv.1,rfl⟩⟩
 have hb':w'.heap[e.β i]? = some (.cells vs.toArray T (0,0)):=(hw.block _ (lt_of_heap hb)).trans hb
 have hsh:w'.shape? (e.β i)=some (T,vs.length):=by simp [World.shape?,hb']
 have hc':0 < cs.length:=Nat.le_of_ble_eq_true hc
 have hrun:=Lib.run_to_unsafe w' (⟨e.β i,0,none⟩:Addr) hs hd hj (by omega) hsh (by show 0 < vs.length;omega)
 simp [execOp,hv',hrun]
theorem ev_fromUnsafe {te i n c:Nat} {src dst:TypeId} {T:TypeId} {cs:List SV} (hs:Γ.P.underlying src=some .unsafePointer) (hd:Γ.P.underlying dst=some (.pointer te)) (hte:(Γ.P.info? te).isSome=true)
  (hx:L.get n = .loc i 0) (hH:Hp.get H i=some (.blk T cs)) (hc:Nat.beq cs.length c=true) (hlies:liesAt Γ.P Γ.P.depth T (c / Γ.P.cellsOf T) 0 te 1=true):Ev Γ k L H (.convert src dst (.tmp n)) ty (.loc i 0):=by
 intro e a w m
 obtain⟨j,hj⟩:=Option.isSome_iff_exists.1 hte
 have hv:=m.slot n
 rw [hx] at hv
 have hv':a.eval (.tmp n) = .pointer (some ⟨e.β i,0,none⟩):=hv.2
 obtain⟨vs,hb,hr,_⟩:=(m.heap _ (Hp.mem_of hH)).2
 have hl:=RelL.length _ _ hr
 have hc':cs.length=c:=Nat.eq_of_beq_eq_true hc
 refine⟨.pointer (some ⟨e.β i,0,none⟩),fun _ _ _ _ w' hw=>?_,⟨hv.1,rfl⟩⟩
 have hb':w'.heap[e.β i]? = some (.cells vs.toArray T (0,0)):=(hw.block _ (lt_of_heap hb)).trans hb
 have hsh:w'.shape? (e.β i)=some (T,c):=by simp [World.shape?,hb'];omega
 have hrun:=Lib.run_from_unsafe w' (⟨e.β i,0,none⟩:Addr) hs hd hj hsh hlies
 simp [execOp,hv',hrun]
theorem ev_noEscape {f : FuncId} {fn : Func} {n i : Nat} {ts : Array TypeId} (hf : Γ.P.funcs[f]? = some fn) (hname : (fn.name == "runtime.NumGoroutine") = false)
  (hb:fn.body.isNone=true) (hn:Extern.findNext fn=none) (he:Extern.find fn=some Extern.AbiNoEscape.same) (hx:L.get n = .loc i 0):Ev Γ k L H (.call { callee:=.value (.func f),args:=#[.tmp n],argTypes:=ts }) ty (.loc i 0):=by
 intro e a w m
 have hv:=m.slot n
 rw [hx] at hv
 have hv':a.eval (.tmp n) = .pointer (some ⟨e.β i,0,none⟩):=hv.2
 refine⟨.pointer (some ⟨e.β i,0,none⟩),fun _ _ _ _ w' hw=>?_,⟨hv.1,rfl⟩⟩
 have h:=run_callFunc_extern (P:=Γ.P) hf hname hb hn he #[.pointer (some ⟨e.β i,0,none⟩)] w'
 rw [Lib.run_noEscape] at h
 simp [execOp,resolve,Deferred.ofValue,invoke,hv']
 exact h
def strD (s:ByteArray):List (List D):=s.data.toList.map fun b=>[.int .u8 b.toNat]
theorem strD_length (s:ByteArray):(strD s).length=s.size:=by
 rw [strD,List.length_map,Array.length_toList];rfl
theorem strD_app (s u:ByteArray):strD (s++u)=strD s++strD u:=by
 unfold strD
 rw [← List.map_append]
 congr 1
theorem append_ownS {P:Program} {w:World} {t u ty te:TypeId} {inf:TypeInfo} (ht:P.underlying t=some (.slice te)) (hu:P.underlying u=some .string) (hi:P.info? te=some inf) (hz:inf.zero=some (.int .u8 0)) (hsize:inf.size=1) (hby:inf.bytes=1)
  {v:Value} {n:Nat} {xs:List Value} (hown:w.ownsRow 0 te 1 v n xs) (s:ByteArray) (hbytes:n + s.size≤140737488355328) :
  ∃ v' w',(Builtin.append_ #[t,u] ty #[v,.string s]).run P w = .ok v' w'∧w'.ownsRow 0 te 1 v' (n + s.size) (xs++Lib.strCells s)∧w.grownBy w' v.ownBlock∧(∀ c,v'.ownBlock=some c→v.ownBlock=some c∨w.heap.size≤c):=by
 obtain⟨v',w',hr,g1,g2,_⟩:=Lib.run_append_own_string (P:=P) w 0 t u ty te inf ht hu hi hz hsize hby v n xs hown s (by unfold maxLen;omega) hbytes (Nat.zero_le _)
 refine⟨v',w',hr,g1,g2,?_⟩
 rcases hown.2 with ⟨rfl,rfl⟩|⟨g,cap,cur,rfl,hbg,hg,hnc,hcm,hcs,htake⟩
 ·obtain⟨v2,w2,hr2,g3,_,_⟩:=Lib.run_append_own_string (P:=P) w w.heap.size t u ty te inf ht hu hi hz hsize hby (.slice none 0 0) 0 xs ⟨hown.1,.inl ⟨rfl,rfl⟩⟩ s (by unfold maxLen;omega) (by omega) (Nat.le_refl _)
  rw [hr] at hr2
  cases hr2
  exact fun c hc=>.inr (g3.lt c hc).1
 ·by_cases hroom:n + s.size≤cap
  ·have hcs':cur.size=cap:=by simpa using hcs
   have hr2:=Lib.run_append_room_string (P:=P) w t u ty te inf ht hu hi hsize g n cap cur hg s hroom (by omega)
   rw [hr] at hr2
   cases hr2
   exact fun c hc=>.inl hc
  ·have holds:∀ j u,xs[j]? = some u→w.cell? ((⟨g,0,none⟩:Addr).add j)=some u:=hown.cells (g:=g) rfl
   have hxl:xs.length=n:=by simpa using hown.1
   have hr2:=Lib.run_append_grow_string (P:=P) w t u ty te inf (.int .u8 0) ht hu hi hz ⟨g,0,none⟩ n cap xs (by rw [hsize];simpa using hxl) holds s (by omega) (by omega) (by rw [hby];exact growslice_fits (by omega) (by omega))
   rw [hr] at hr2
   cases hr2
   intro c hc
   simp only [Value.ownBlock,Option.some.injEq] at hc
   exact .inr (by omega)
theorem op_append_rowS [NoDr Γ] {d z i:Nat} {te t2:TypeId} {pos:String} {af:Array Edge} {g:Option (Nat × Bool)} {xs:List (List D)} {s:ByteArray}
  (hz':¬ k z) (ht:Γ.sh t = .slice te) (hu:Γ.sh t' = .str) (hkn:(Γ.sh te).known=true) (hes:Γ.cells te=1) (hby:(tiGet Γ.τ te).bytes=1) (hz0:((Γ.P.info? te).bind fun j=>j.zero)=some (.int .u8 0))
  (hx:opSV L x = .row i) (hH:Hp.get H i=some (.row te 1 xs)) (hy:opSV L y = .d (.str s)) (hyo:opOkB y=true) (hd:Nat.blt d Γ.n=true)
  (hroom:xs.length + s.size≤140737488355328) :
  OpOk Γ ⟨some d,.call { callee:=.builtin .append,args:=#[x,y],argTypes:=#[t,t'] },t2,pos,af,g⟩ k L H (with1 k z) ((d,.row z)::L) ((z,.row te 1 (xs++strD s))::Hp.del H i):=by
 intro e a w Q m
 have hze:¬ e.dom z:=fun h=>hz' ((m.top z).1 h)
 obtain⟨inf,zv,hi,hzz,hs,hb,hzc⟩:=Ctx.info (Sh.known_ne hkn)
 have hzz:inf.zero=some (.int .u8 0):=by rw [hi] at hz0;exact hz0
 obtain⟨_,hvx,_⟩:=evT m hx (cSV_row · _)
 have hvy:a.eval y = .string s:=by
  have hr:=m.op y (opOkB_spec hyo)
  rw [hy] at hr
  generalize a.eval y=v at hr
  cases hr;rfl
 obtain⟨vs,ho,hxe,hone,hrep⟩:=(m.heap _ (Hp.mem_of hH)).2
 obtain⟨v',w',hrun,hown',hgr,hblk⟩:=append_ownS (P:=Γ.P) (ty:=t2) (Ctx.slice ht) (Ctx.str hu) hi hzz (hs.trans hes) (hb.trans hby) ho s hroom
 have hop:(execOp a.eval ⟨some d,.call { callee:=.builtin .append,args:=#[x,y],argTypes:=#[t,t'] },t2,pos,af,g⟩).run Γ.P w = .ok (.value v') w':=by
  simp only [execOp,resolve,invoke,builtin,Sem.run_bind,Sem.run_pure,Result.andThen_ok,List.map_toArray,List.map_cons,List.map_nil,hvx,hvy,hrun]
 unfold Oper.wp
 rw [hop]
 have hη:(e.bindRow z v').η z=v':=if_pos rfl
 have hl:=ho.1
 have hye:∀ j (h:j < (strD s).length),((strD s)[j]'h).length=1:=by
  intro j h
  simp [strD]
 have hrep2:∀ i' (hi:i' < (strD s).length) j (hj:j < ((strD s)[i']'hi).length),∃ v,(Lib.strCells s)[i' * 1 + j]? = some v∧RepC (Γ.X e H) w v (((strD s)[i']'hi)[j]'hj):=by
  intro i' hi' j hj
  have hj0:j=0:=by have:=hye i' hi';omega
  subst hj0
  have hi2:i' < s.data.toList.length:=by simpa [strD] using hi'
  refine⟨.int .u8 (s.data.toList[i']'hi2).toNat,?_,?_⟩
  ·simp only [Nat.mul_one,Nat.add_zero,Lib.strCells,List.getElem?_map,List.getElem?_eq_getElem hi2,Option.map_some]
  ·have:((strD s)[i']'hi')[0]'hj = .int .u8 (s.data.toList[i']'hi2).toNat:=by simp [strD]
   rw [this]
   refine .int ?_
   exact WalkArith.wf_u8 (by have:=(s.data.toList[i']'hi2).toNat_lt;omega)
 have m2:=m.trade (hb:=.row te 1 (xs++strD s)) hH hz' (e':=e.bindRow z v') (w':=w') (fun i=>or_congr (m.top i) Iff.rfl) (e.bindRow_ext _ _ hze) hgr.size hgr.os hgr.tape hgr.output NoDr.any
  (fun c hc hne=>hgr.block c hc (fun h=>hne (by simp [HB.owned,h]))) (fun c hc=>by simp only [HB.owned,hη] at hc;exact hblk c hc) (fun hX=>by
   have hkeep:∀ b,b < w.heap.size→¬ Γ.X e H b→w'.heap[b]? = w.heap[b]?:=fun b hb hx=>hgr.block b hb (fun h=>hx (.inr (List.mem_filterMap.2 ⟨_,Hp.mem_of hH,by simp [HB.owned,h]⟩)))
   obtain⟨q1,q2⟩:=rows_append hxe hye hl hrep hrep2
   refine⟨vs++Lib.strCells s,?_,q1,fun v hv=>?_,fun i' hi' j hj=>?_⟩
   ·rw [hη,List.length_append,strD_length];exact hown'
   ·rcases List.mem_append.1 hv with hv|hv
    ·exact hone v hv
    ·exact Lib.strCells_oneCell s v hv
   ·obtain⟨v,p1,p2⟩:=q2 i' hi' j hj
    exact⟨v,p1,RepC.keep hgr.size hkeep hX p2⟩)
 exact⟨_,m2.put (s:=.row z) (v:=v') (Nat.le_of_ble_eq_true hd) ⟨.inr rfl,hη.symm,ownsRow_one hown'⟩⟩
theorem ev_sliceData {i:Nat} {te:TypeId} {xs:List (List D)} (hx:opSV L x = .row i) (hH:Hp.get H i=some (.row te 1 xs)) (hne:xs≠[]):Ev Γ k L H (.call { callee:=.builtin .unsafeSliceData,args:=#[x],argTypes:=#[t] }) ty (.prow i 0 1 0):=by
 intro e a w m
 obtain⟨hd,hvx,_⟩:=evT m hx (cSV_row · _)
 obtain⟨vs,ho,_⟩:=(m.heap _ (Hp.mem_of hH)).2
 have hl:0 < xs.length:=List.length_pos_iff.2 hne
 rcases ho.2 with ⟨_,h4⟩|⟨g,cap,cur,hη,_,_,hnc,_⟩
 ·omega
 ·refine⟨.pointer (some ⟨g,0,none⟩),fun _ _ _ _ w' _=>?_,⟨hd,g,xs.length,cap,hη,rfl⟩⟩
  have hr:=Lib.run_unsafeSliceData_row (P:=Γ.P) w' #[t] ty ⟨g,0,none⟩ xs.length cap (by omega)
  simp only [execOp,resolve,invoke,builtin,Sem.run_bind,Sem.run_pure,Result.andThen_ok,List.map_toArray,List.map_cons,List.map_nil,hvx,hη,hr]
theorem ev_sliceDataNil (hx:opSV L x = .nils):Ev Γ k L H (.call { callee:=.builtin .unsafeSliceData,args:=#[x],argTypes:=#[t] }) ty (.val (.pointer none)):=by
 intro e a w m
 have hvx:=evNils m hx
 refine⟨.pointer none,fun _ _ _ _ w' _=>?_,rfl⟩
 have hr:=Lib.run_unsafeSliceData_nil (P:=Γ.P) w' #[t] ty 0 0
 simp only [execOp,resolve,invoke,builtin,Sem.run_bind,Sem.run_pure,Result.andThen_ok,List.map_toArray,List.map_cons,List.map_nil,hvx,hr]
theorem ev_unsafeStringNil {n:Nat} {tp tn:TypeId} (hx:L.get n = .val (.pointer none)) (hy:opSV L y = .d (.int .i64 0)):Ev Γ k L H (.call { callee:=.builtin .unsafeString,args:=#[.tmp n,y],argTypes:=#[tp,tn] }) ty (.d (.str ⟨#[]⟩)):=by
 intro e a w m
 have hv:a.eval (.tmp n) = .pointer none:=by
  have h:=m.slot n
  rw [hx] at h
  exact h
 have hvy:=evI m hy
 refine⟨.string ⟨#[]⟩,fun _ _ _ _ w' _=>?_,RepC.str (by show 0≤maxLen;exact Nat.zero_le _)⟩
 have hr:=Lib.run_unsafeString_none (P:=Γ.P) w' tp tn ty none
 simp only [execOp,resolve,invoke,builtin,Sem.run_bind,Sem.run_pure,Result.andThen_ok,List.map_toArray,List.map_cons,List.map_nil,hv,hvy,hr]
 rfl
theorem op_unsafeString [NoDr Γ] {d z i:Nat} {te tp tn t2:TypeId} {pos:String} {af:Array Edge} {g:Option (Nat × Bool)} {s:ByteArray}
  (hz':¬ k z) (htp:Γ.P.underlying tp=some (.pointer te)) (hc1:Γ.P.cellsOf te=1) (hx:opSV L x = .prow i 0 1 0) (hH:Hp.get H i=some (.row te 1 (strD s))) (hs0:s.size≠0) (hy:opSV L y = .d (.int .i64 s.size)) (hd:Nat.blt d Γ.n=true) :
  OpOk Γ ⟨some d,.call { callee:=.builtin .unsafeString,args:=#[x,y],argTypes:=#[tp,tn] },t2,pos,af,g⟩ k L H (with1 k z) ((d,.d (.str s))::L) ((z,.row te 1 [])::Hp.del H i):=by
 intro e a w Q m
 have hze:¬ e.dom z:=fun h=>hz' ((m.top z).1 h)
 obtain⟨hd0,g0,n0,cap0,hη,hvx⟩:=evT m hx (cSV_prow · _ _ _ _)
 have hvy:=evI m hy
 obtain⟨vs,ho,hxe,hone,hrep⟩:=(m.heap _ (Hp.mem_of hH)).2
 have hlen:=strD_length s
 have ho2:=ho.2
 rw [hη] at ho2
 rcases ho2 with ⟨h,_⟩|⟨g1,cap,cur,hη2,_,hg,hnc,hcm,hcs,htake⟩
 ·cases h
 cases hη2
 have hs2:s.data.toList.length=s.size:=Array.length_toList ..
 have hcells:∀ j x,s.data.toList[j]? = some x→w.cell? ((⟨g0,0,none⟩:Addr).add j)=some (.int .u8 x.toNat):=by
  intro j x hj
  obtain⟨hjl,hjx⟩:=List.getElem?_eq_some_iff.1 hj
  have hjs:j < (strD s).length:=by omega
  have e1:(strD s)[j]'hjs=[.int .u8 x.toNat]:=by simp [strD,← hjx]
  obtain⟨v,g1,g2⟩:=hrep j hjs 0 (by rw [e1];exact Nat.zero_lt_one)
  have g2:RepC (Γ.X e H) w v (.int .u8 x.toNat):=by
   have:((strD s)[j]'hjs)[0]'(by rw [e1];exact Nat.zero_lt_one) = .int .u8 x.toNat:=by simp [e1]
   rw [this] at g2
   exact g2
  cases g2
  have:=ho.cells (g:=g0) (by rw [hη];rfl) j _ (by simpa using g1)
  exact this
 have hr:=Lib.run_unsafeString_row (P:=Γ.P) w tp tn t2 te htp hc1 g0 cur.size (by simp [World.shape?,hg]) s.data.toList (by intro h;rw [h] at hs2;simp at hs2;omega) (by omega) (by unfold maxLen at hcm;omega) hcells
 have hstr:(⟨s.data.toList.toArray⟩:ByteArray)=s:=by cases s;simp
 rw [hstr,hs2] at hr
 have hvx':a.eval x = .pointer (some ⟨g0,0,none⟩):=hvx
 have hop:(execOp a.eval ⟨some d,.call { callee:=.builtin .unsafeString,args:=#[x,y],argTypes:=#[tp,tn] },t2,pos,af,g⟩).run Γ.P w = .ok (.value (.string s)) (w.freeze ⟨g0,0,none⟩ s.size):=by
  simp only [execOp,resolve,invoke,builtin,Sem.run_bind,Sem.run_pure,Result.andThen_ok,List.map_toArray,List.map_cons,List.map_nil,hvx',hvy,hr]
 unfold Oper.wp
 rw [hop]
 have hηz:(e.bindRow z (.slice none 0 0)).η z = .slice none 0 0:=if_pos rfl
 obtain⟨w',hw',q1,q2,q3,q4,hfz⟩:∃ w',w' = w.freeze ⟨g0,0,none⟩ s.size∧w'.os=w.os∧w'.tape=w.tape∧w'.output=w.output∧w'.heap.size=w.heap.size∧∀ c,c≠g0→w'.heap[c]? = w.heap[c]?:=by
  refine⟨_,rfl,?_⟩
  unfold World.freeze
  rw [if_neg hs0]
  refine⟨rfl,rfl,rfl,by simp,fun c hc=>?_⟩
  simp only [Array.getElem?_modify]
  rw [if_neg (fun h=>hc h.symm)]
 rw [← hw']
 have hown:HB.owned e (i,.row te 1 (strD s))=some g0:=by
  show (e.η i).ownBlock=some g0
  rw [hη]
  rfl
 have m2:=m.trade (hb:=.row te 1 []) hH hz' (e':=e.bindRow z (.slice none 0 0)) (w':=w') (fun i=>or_congr (m.top i) Iff.rfl) (e.bindRow_ext _ _ hze) (by rw [q4];exact Nat.le_refl _) q1 q2 q3 NoDr.any
  (fun c hc hne=>hfz c fun h=>hne (by rw [hown,h])) (fun c hc=>by simp [HB.owned,hηz,Value.ownBlock] at hc) (fun hX=>by
   refine⟨[],?_,by simp,by simp,by simp⟩
   rw [hηz]
   exact World.ownsRow_nil _ _ _ _)
 exact⟨_,m2.put (s:=.d (.str s)) (v:=.string s) (Nat.le_of_ble_eq_true hd) (RepC.str (by omega))⟩
end
section
variable {Γ : Ctx} {L : Sl} {H : Hp} {t ty : TypeId} {x : Operand} {ops : List Oper}
theorem dt_sliceData (i0:Nat) {κ i:Nat} {rem:List (Nat × Oper)} {lg:Log} {Kf:FS→Prop} {te:TypeId} {xs:List (List D)} {d:Nat} {pos:String} {af:Array Edge} {g:Option (Nat × Bool)} (hx:opSV L x = .row i0) (hH:Hp.get H i0=some (.row te 1 xs)) (hne:xs≠[])
  (hw:wantedSV ops L g=some true) (hd:Nat.blt d Γ.n=true) (hlog:okLog ops i [i0] [] lg=true) (hk:DT Γ ops κ rem ((i,[i0],[])::lg) Kf ((d,.prow i0 0 1 0)::L) H) :
  DT Γ ops κ ((i,⟨some d,.call { callee:=.builtin .unsafeSliceData,args:=#[x],argTypes:=#[t] },ty,pos,af,g⟩)::rem) lg Kf L H:=by
 unfold DT at hk ⊢
 refine .cons true _ [i0] [] (.look d i0 (.prow i0 0 1 0) ((wantedF_eq ops L g).trans hw) rfl rfl (fun k' L' H' h1 h2=>?_) hd) hlog ⟨_,_,rfl,rfl⟩ (fun v u hv=>by rw [hv.2];rfl) fun v u hv=>?_
 ·have e1:opSV L' x = .row i0:=by rw [h1 x (by simp [Op.operands,Call.operands]),ofL_op];exact hx
  exact ev_sliceData e1 (h2.trans hH) hne
 ·obtain⟨rfl,rfl⟩:=hv
  show DR Γ ops κ rem _ Kf ((ofL L H).app (κ + i) (some d) _ .no)
  rw [show (ofL L H).app (κ + i) (some d) (.prow i0 0 1 0) .no=ofL ((d,.prow i0 0 1 0)::L) H from ofL_put L H (some d) _]
  exact hk
theorem dt_sliceNil (i0:Nat) {κ i:Nat} {rem:List (Nat × Oper)} {lg:Log} {Kf:FS→Prop} {d:Nat} {pos:String} {af:Array Edge} {g:Option (Nat × Bool)} (hx:opSV L x = .nils)
  (hw:wantedSV ops L g=some true) (hd:Nat.blt d Γ.n=true) (hlog:okLog ops i [i0] [] lg=true) (hk:DT Γ ops κ rem ((i,[i0],[])::lg) Kf ((d,.val (.pointer none))::L) H) :
  DT Γ ops κ ((i,⟨some d,.call { callee:=.builtin .unsafeSliceData,args:=#[x],argTypes:=#[t] },ty,pos,af,g⟩)::rem) lg Kf L H:=by
 unfold DT at hk ⊢
 refine .cons true _ [i0] [] (.look d i0 (.val (.pointer none)) ((wantedF_eq ops L g).trans hw) rfl rfl (fun k' L' H' h1 h2=>?_) hd) hlog ⟨_,_,rfl,rfl⟩ (fun v u hv=>by rw [hv.2];rfl) fun v u hv=>?_
 ·have e1:opSV L' x = .nils:=by rw [h1 x (by simp [Op.operands,Call.operands]),ofL_op];exact hx
  exact ev_sliceDataNil e1
 ·obtain⟨rfl,rfl⟩:=hv
  show DR Γ ops κ rem _ Kf ((ofL L H).app (κ + i) (some d) _ .no)
  rw [show (ofL L H).app (κ + i) (some d) (.val (.pointer none)) .no=ofL ((d,.val (.pointer none))::L) H from ofL_put L H (some d) _]
  exact hk
end
section
variable {Γ : Ctx} {k : Nat} {L : Sl} {H : Hp} {K : Next'} {ops : List Oper} {rest : List Oper} {t t' : TypeId} {x y : Operand}
theorem ds_append_rowS [NoDr Γ] {d i:Nat} {te t2:TypeId} {pos:String} {af:Array Edge} {g:Option (Nat × Bool)} {xs:List (List D)} {s:ByteArray}
  (ht:Γ.sh t = .slice te) (hu:Γ.sh t' = .str) (hkn:(Γ.sh te).known=true) (hes:Γ.cells te=1) (hby:(tiGet Γ.τ te).bytes=1) (hz0:((Γ.P.info? te).bind fun j=>j.zero)=some (.int .u8 0))
  (hx:opSV L x = .row i) (hH:Hp.get H i=some (.row te 1 xs)) (hy:opSV L y = .d (.str s)) (hyo:opOkB y=true) (hw:wantedSV ops L g=some true) (hd:Nat.blt d Γ.n=true)
  (hroom:xs.length + s.size≤140737488355328)
  (hk:DS false Γ ops rest K (k + 1) ((d,.row k)::L) ((k,.row te 1 (xs++strD s))::Hp.del H i)) :
  DS false Γ ops (⟨some d,.call { callee:=.builtin .append,args:=#[x,y],argTypes:=#[t,t'] },t2,pos,af,g⟩::rest) K k L H :=
 dl_op hw ((op_append_rowS (lo_not k) ht hu hkn hes hby hz0 hx hH hy hyo hd hroom).cast (with1_lo k)) hk
theorem ds_unsafeString [NoDr Γ] {d i:Nat} {te tp tn t2:TypeId} {pos:String} {af:Array Edge} {g:Option (Nat × Bool)} {s:ByteArray}
  (htp:Γ.P.underlying tp=some (.pointer te)) (hc1:Γ.P.cellsOf te=1) (hx:opSV L x = .prow i 0 1 0) (hH:Hp.get H i=some (.row te 1 (strD s))) (hs0:s.size≠0) (hy:opSV L y = .d (.int .i64 s.size)) (hw:wantedSV ops L g=some true) (hd:Nat.blt d Γ.n=true)
  (hk:DS false Γ ops rest K (k + 1) ((d,.d (.str s))::L) ((k,.row te 1 [])::Hp.del H i)) :
  DS false Γ ops (⟨some d,.call { callee:=.builtin .unsafeString,args:=#[x,y],argTypes:=#[tp,tn] },t2,pos,af,g⟩::rest) K k L H :=
 dl_op hw ((op_unsafeString (lo_not k) htp hc1 hx hH hs0 hy hd).cast (with1_lo k)) hk
end
end Go.Proofs.YtapciiffpnociabGreatDoor
namespace Go.Proofs.YtapciiffpnociabGreatDoor
open Go Go.RowKit
section
variable {Γ : Ctx} {k : Nat} {L : Sl} {H : Hp} {a : Act} {w : World} {e : Env} {S : Nat → Prop} {X' : Nat → Prop}
end
section
variable {Γ : Ctx} {k : Nat} {L : Sl} {H : Hp} {K : Next'} {ops : List Oper} {rest : List Oper}
end
section
variable {Γ : Ctx} {k : Nat} {L : Sl} {H : Hp} {K : Next'} {ops : List Oper} {rest : List Oper} {t t' ty : TypeId} {x y : Operand}
end
abbrev bldA (used:Bool):SV:=match used with|true=>.loc 0 0|false=>.val (.pointer none)
attribute [local irreducible] DW DS DL DQ Ev FnOk FnP thenD inBlockD DT
set_option maxHeartbeats 8000000 in
theorem ccheck_new (xs:List (List D)):FnOk false Tryz.prog tab tab_ok 50 [.loc 0 0] 2 2 [(0,.blk 58 [.val (.pointer none),.row 1]),(1,.row 5 1 xs)] (fun k r H=>k=2∧r = .tup []∧H=[(0,.blk 58 [.loc 0 0,.row 1]),(1,.row 5 1 xs)]):=by
 refine fn_enterR _ Tryz.func50 rfl rfl (by kernel_rfl) ?_
 intro O w0 E0 β0
 repeat' (first|refine z0 ?_|apply dw_seq2|refine z16 ?_|fail)
 refine ds_ev (ev_ptrNil (te:=56) (by kernel_rfl) rfl) rfl rfl ?_
 repeat' (first|refine z0 ?_|apply ds_nil|refine z16 ?_|refine z18 ?_|apply thenD_n)
 refine ds_ev (ev_toUnsafe (te:=56) (T:=58) (i:=0) (by kernel_rfl) (by kernel_rfl) (by kernel_rfl) rfl rfl rfl) rfl rfl ?_
 refine ds_ev (ev_noEscape (i:=0) Tryz.func85 (by kernel_rfl) (by kernel_rfl) (by kernel_rfl) (by kernel_rfl) rfl) rfl rfl ?_
 refine ds_ev (ev_fromUnsafe (te:=56) (T:=58) (i:=0) (c:=2) (by kernel_rfl) (by kernel_rfl) (by kernel_rfl) rfl rfl rfl (by kernel_rfl)) rfl rfl ?_
 repeat' (first|refine z0 ?_|apply ds_nil|refine z3 ?_|fail)
 exact⟨.inr rfl,_,rfl,id,2,_,[(0,.blk 58 [.loc 0 0,.row 1]),(1,.row 5 1 xs)],rfl,⟨rfl,rfl,trivial⟩,rfl,rfl,rfl,rfl,rfl,rfl,rfl,rfl,rfl⟩
set_option maxHeartbeats 8000000 in
theorem ccheck_used (xs:List (List D)):FnOk false Tryz.prog tab tab_ok 50 [.loc 0 0] 2 2 [(0,.blk 58 [.loc 0 0,.row 1]),(1,.row 5 1 xs)] (fun k r H=>k=2∧r = .tup []∧H=[(0,.blk 58 [.loc 0 0,.row 1]),(1,.row 5 1 xs)]):=by
 refine fn_enterR _ Tryz.func50 rfl rfl (by kernel_rfl) ?_
 intro O w0 E0 β0
 repeat' (first|refine z0 ?_|apply dw_seq2|refine z16 ?_|fail)
 refine ds_ev (ev_ptrSome (te:=56) (by kernel_rfl) rfl) rfl rfl ?_
 repeat' (first|refine z0 ?_|apply ds_nil|apply dw_seq2|refine z16 ?_|refine z19 ?_|apply thenD_n)
 refine ds_ev (ev_ptrSame (te:=56) (by kernel_rfl) (by kernel_rfl) rfl rfl) rfl rfl ?_
 repeat' (first|apply ds_nil|apply dw_skip|refine z19 ?_|apply thenD_n)
 exact⟨.inr rfl,_,rfl,id,2,_,[(0,.blk 58 [.loc 0 0,.row 1]),(1,.row 5 1 xs)],rfl,⟨rfl,rfl,trivial⟩,rfl,rfl,rfl,rfl,rfl,rfl,rfl,rfl,rfl⟩
set_option maxHeartbeats 8000000 in
theorem wstr_fn (used:Bool) (b s:ByteArray) (hr:b.size + s.size≤140737488355328):FnOk false Tryz.prog tab tab_ok 21 [.loc 0 0,.d (.str s)] 1 2 [(0,.blk 58 [bldA used,.row 1]),(1,.row 5 1 (strD b))]
  (fun k r H=>k=2∧r = .tup [.d (.int .i64 s.size),.val .nilIface]∧H=[(0,.blk 58 [.loc 0 0,.row 1]),(1,.row 5 1 (strD (b++s)))]):=by
 refine fn_enterR _ Tryz.func21 rfl rfl (by kernel_rfl) ?_
 intro O w0 E0 β0
 repeat' (first|refine z0 ?_|apply ds_nil|apply dw_seq2|refine z16 ?_|apply thenD_n)
 cases used with
 | true =>
  refine ds_callF id (ccheck_used _) rfl rfl rfl rfl ⟨rfl,rfl,trivial⟩ rfl rfl rfl rfl rfl rfl ?_ ?_
  ·rintro k2 res H2 ⟨rfl,rfl,rfl⟩;exact⟨rfl,rfl⟩
  rintro k2 res H2 ⟨rfl,rfl,rfl⟩
  change DS _ _ _ _ _ _ _ _
  repeat' (first|refine z0 ?_|apply ds_nil|apply dw_seq2|refine z16 ?_|apply thenD_n)
  refine ds_append_rowS (te:=5) (i:=1) (xs:=strD b) (s:=s) rfl rfl rfl rfl rfl (by kernel_rfl) rfl rfl rfl rfl rfl rfl (by rw [strD_length];exact hr) ?_
  repeat' (first|refine z0 ?_|apply ds_nil|apply dw_seq2|refine z16 ?_|apply dw_ret|apply thenD_n|refine z3 ?_|fail)
  exact⟨.inl rfl,_,rfl,(fun j=>match j with|1=>2|j=>j),2,_,[(0,.blk 58 [.loc 0 0,.row 1]),(1,.row 5 1 (strD (b++s)))],rfl,⟨rfl,by rw [strD_app];rfl,trivial⟩,rfl,rfl,rfl,rfl,rfl,rfl,rfl,rfl,rfl⟩
 | false =>
  refine ds_callF id (ccheck_new _) rfl rfl rfl rfl ⟨rfl,rfl,trivial⟩ rfl rfl rfl rfl rfl rfl ?_ ?_
  ·rintro k2 res H2 ⟨rfl,rfl,rfl⟩;exact⟨rfl,rfl⟩
  rintro k2 res H2 ⟨rfl,rfl,rfl⟩
  change DS _ _ _ _ _ _ _ _
  repeat' (first|refine z0 ?_|apply ds_nil|apply dw_seq2|refine z16 ?_|apply thenD_n)
  refine ds_append_rowS (te:=5) (i:=1) (xs:=strD b) (s:=s) rfl rfl rfl rfl rfl (by kernel_rfl) rfl rfl rfl rfl rfl rfl (by rw [strD_length];exact hr) ?_
  repeat' (first|refine z0 ?_|apply ds_nil|apply dw_seq2|refine z16 ?_|apply dw_ret|apply thenD_n|refine z3 ?_|fail)
  exact⟨.inl rfl,_,rfl,(fun j=>match j with|1=>2|j=>j),2,_,[(0,.blk 58 [.loc 0 0,.row 1]),(1,.row 5 1 (strD (b++s)))],rfl,⟨rfl,by rw [strD_app];rfl,trivial⟩,rfl,rfl,rfl,rfl,rfl,rfl,rfl,rfl,rfl⟩
set_option maxHeartbeats 8000000 in
theorem bstr_fn (b:ByteArray) (hb:b.size≠0):FnOk false Tryz.prog tab tab_ok 25 [.loc 0 0] 0 2 [(0,.blk 58 [.loc 0 0,.row 1]),(1,.row 5 1 (strD b))] (fun _ r H=>H=[]∧r = .d (.str b)):=by
 refine fn_enterR _ Tryz.func25 rfl rfl (by kernel_rfl) ?_
 intro O w0 E0 β0
 have hne:strD b≠[]:=by
  intro h
  have:=strD_length b
  rw [h] at this
  exact hb this.symm
 repeat' ((fail_if_success (apply dw_stopS 1));(first|refine z0 ?_|apply ds_nil|apply dw_seq2|refine z16 ?_|apply thenD_n))
 refine dw_seq2 ?_
 refine dw_tail 10 (by kernel_rfl) (by kernel_rfl) (by kernel_rfl) rfl rfl rfl ?_
 repeat' refine z5 ?_
 refine dt_sliceData 1 rfl rfl hne rfl rfl rfl ?_
 repeat' (first|refine z5 ?_|refine z10 ?_|fail)
 refine ds_unsafeString (te:=5) (i:=1) (s:=b) (by kernel_rfl) (by kernel_rfl) rfl rfl hb (by show SV.d (.int .i64 ((strD b).length:Nat))=_;rw [strD_length]) rfl rfl ?_
 repeat' (first|refine z0 ?_|apply ds_nil|apply dw_ret|apply thenD_n)
 exact⟨.inl rfl,_,rfl,id,0,_,[],rfl,trivial,rfl,rfl,rfl,rfl,rfl,rfl,rfl,rfl⟩
def endS:ByteArray:=⟨#[46,10]⟩
def ifS:ByteArray:=⟨#[32,58,45,32]⟩
def showRu (r:TRu):ByteArray:=atomS r.name r.terms r.fold++(if r.body=[] then ⟨#[]⟩ else ifS++eachS (r.body.map showLt))++endS
def showS:List TRu→ByteArray
 | []=>⟨#[]⟩
 | r::rs=>showRu r++showS rs
structure RuShow (r:TRu):Prop where
 name:r.name.size≤4294967296
 terms:∀ t∈r.terms,nOk t
 len:r.terms.length≤3
 fold:r.fold=0∨(1≤r.fold∧r.fold≤4∧0 < r.terms.length)
 body:∀ x∈r.body,LtOk x
 blen:r.body.length≤4
theorem showS_snoc (l:List TRu) (r:TRu):showS (l++[r])=showS l++showRu r:=by
 induction l with
 | nil =>
  show showRu r++⟨#[]⟩=⟨#[]⟩++showRu r
  have e1:showRu r++(⟨#[]⟩:ByteArray)=showRu r:=ByteArray.append_empty ..
  have e2:(⟨#[]⟩:ByteArray)++showRu r=showRu r:=ByteArray.empty_append ..
  rw [e1,e2]
 | cons a l ih=>simp [showS,ih,ByteArray.append_assoc]
theorem atomS_sizeF (name:ByteArray) (l:List TTm) (fold:Int) (hl:l.length≤16) (hok:∀ t∈l,nOk t) (hn:name.size≤4294967296) (hf:fold=0∨(1≤fold∧fold≤4∧0 < l.length)):(atomS name l fold).size≤137438953472:=by
 have s40:(⟨#[40]⟩:ByteArray).size=1:=rfl
 have s41:(⟨#[41]⟩:ByteArray).size=1:=rfl
 have s32:(⟨#[32]⟩:ByteArray).size=1:=rfl
 have scm:cmS.size=2:=rfl
 unfold atomS
 split
 ·have hs:=eachTm_size l hl hok
  simp only [ByteArray.size_append]
  omega
 ·rename_i h0
  obtain⟨f1,f2,f3⟩:1≤fold∧fold≤4∧0 < l.length:=by rcases hf with h|h;exact absurd h h0;exact h
  have hs:=eachTm_size (l.take (l.length - 1)) (by rw [List.length_take];omega) (fun t ht=>hok t (List.mem_of_mem_take ht))
  have hw:∀ x∈wordsL,x.size≤5:=by decide
  have hfw:fold.toNat < wordsL.length:=by show fold.toNat < 5;omega
  have hgw:wordsL.getD fold.toNat ⟨#[]⟩=wordsL[fold.toNat]:=by rw [List.getD_eq_getElem?_getD,List.getElem?_eq_getElem hfw];rfl
  have hw2:=hw _ (List.getElem_mem hfw)
  have hlast:l.length - 1 < l.length:=by omega
  have hg:l.getD (l.length - 1) ⟨⟨#[]⟩,0⟩=l[l.length - 1]:=by rw [List.getD_eq_getElem?_getD,List.getElem?_eq_getElem hlast];rfl
  have hs2:=showTm_size (hok _ (List.getElem_mem hlast))
  rw [hg,hgw]
  split
  ·simp only [ByteArray.size_append];omega
  ·simp only [ByteArray.size_append];omega
theorem eachLt_size (l:List TLt) (hl:l.length≤4) (hok:∀ x∈l,LtOk x):(eachS (l.map showLt)).size≤549755813896:=by
 have hs:=join_size cmS (by decide) (l.map showLt) 137438953472 (fun x hx=>by
  obtain⟨t,ht,rfl⟩:=List.mem_map.1 hx
  exact showLt_size (hok t ht))
 rw [List.length_map] at hs
 have:l.length * (137438953472 + 2)≤4 * (137438953472 + 2):=Nat.mul_le_mul_right _ hl
 exact Nat.le_trans hs (Nat.le_trans this (by decide))
theorem showRu_size {r:TRu} (h:RuShow r):(showRu r).size≤1099511627776:=by
 have h1:=atomS_sizeF r.name r.terms r.fold (by have:=h.len;omega) h.terms h.name h.fold
 have h2:=eachLt_size r.body h.blen h.body
 have s1:endS.size=2:=rfl
 have s2:ifS.size=4:=rfl
 have s0:(⟨#[]⟩:ByteArray).size=0:=rfl
 unfold showRu
 split
 ·simp only [ByteArray.size_append];omega
 ·simp only [ByteArray.size_append];omega
theorem showS_size:∀ (rs:List TRu),(∀ r∈rs,RuShow r)→(showS rs).size≤rs.length * 1099511627776
 | [],_=>Nat.zero_le _
 | r::rs,h=>by
  have h1:=showRu_size (h r (List.mem_cons_self ..))
  have h2:=showS_size rs fun x hx=>h x (List.mem_cons_of_mem _ hx)
  show (showRu r++showS rs).size≤_
  rw [ByteArray.size_append,List.length_cons,Nat.succ_mul]
  omega
def rho1:Nat→Nat
 | 0=>1
 | 1=>2
 | j=>j
def bU:Nat→Bool
 | 0=>false
 | _ + 1=>true
abbrev pA (i:Nat):SV:=(bldA (bU i)).ren rho1
set_option maxHeartbeats 8000000 in
theorem sshow_fn (rs:List TRu) (hne:rs≠[]) (hc:checkT rs=0) (hl:rs.length≤12) (hok:∀ r∈rs,RuShow r):Fn 8 [.agg [.d (.slice 5 (rs.map encTRu))]] (fun r=>r = .tup [.d (.str (showS rs)),.d (.int .i64 0)]):=by
 refine fnp_enter' _ Tryz.func8 rfl rfl (by kernel_rfl) ?_
 intro O w0 E0 β0
 have ll:(rs.map encTRu).length=rs.length:=List.length_map _
 have w1:=tcheck_fn rs
 rw [hc] at w1
 repeat' (first|refine z0 ?_|apply ds_nil|apply dw_seq2|refine z16 ?_|apply dw_block|apply dw_skip|refine z19 ?_|apply thenD_n|refine z21 ?_ (hc:=by apply w1)|refine z1 ?_|fail)
 refine dw_ent (ent_cellrow 1 1 5 1 rfl rfl rfl) ?_
 refine ds_loop (ι:=Nat) (fun i=>⟨3,[(5,.loc 1 0),(16,.d (.slice 5 (rs.map encTRu))),(17,.d (.int .i64 rs.length)),(18,.d (.int .i64 i))],[(1,.blk 58 [pA i,.row 2]),(2,.row 5 1 (strD (showS (rs.take i))))]⟩)
  (fun i=>i≤rs.length) (fun i=>rs.length - i) 0 (Nat.zero_le _) (ent_ren id ⟨rfl,rfl,by rw [← ll];rfl,rfl,trivial⟩ ⟨rfl,rfl,trivial⟩ rfl rfl rfl rfl rfl rfl) ?_
 clear w1
 intro i hle
 dsimp only at hle ⊢
 by_cases hi:i < rs.length
 ·have hr:=hok _ (List.getElem_mem hi)
  have hst:showS (rs.take (i + 1))=showS (rs.take i)++showRu rs[i]:=by rw [List.take_succ_eq_append_getElem hi,showS_snoc]
  have hz:(showS (rs.take i)).size≤14293651161088:=by
   have:=showS_size (rs.take i) fun x hx=>hok x (List.mem_of_mem_take hx)
   have h2:(rs.take i).length * 1099511627776≤13 * 1099511627776:=Nat.mul_le_mul_right _ (by rw [List.length_take];omega)
   exact Nat.le_trans this h2
  have w1:=satom_fn rs[i].name rs[i].terms rs[i].fold (by have:=hr.len;omega) hr.terms hr.name hr.fold
  have w2:=eachLt_fn rs[i].body (by have:=hr.blen;omega) hr.body
  have yz1:=atomS_sizeF rs[i].name rs[i].terms rs[i].fold (by have:=hr.len;omega) hr.terms hr.name hr.fold
  have yz2:=eachLt_size rs[i].body hr.blen hr.body
  have hd:showRu rs[i]=atomS rs[i].name rs[i].terms rs[i].fold++(if rs[i].body=[] then ⟨#[]⟩ else ifS++eachS (rs[i].body.map showLt))++endS:=rfl
  generalize showRu rs[i]=RU at *
  generalize atomS rs[i].name rs[i].terms rs[i].fold=A at *
  generalize eachS (rs[i].body.map showLt)=E at *
  generalize showS (rs.take i)=B at *
  repeat' ((fail_if_success (apply dw_stopS 8));(first|refine z0 ?_|apply ds_nil|apply dw_seq2|refine z16 ?_|apply dw_block|apply dw_skip|apply dw_exit|apply thenD_n|apply thenD_e|refine z17 ?_|refine z1 ?_|refine z3 ?_|(refine z23 ?_ ?_ <;> intro hg)|fail))
  all_goals try (exfalso;omega)
  refine dw_seq2 ?_
  refine dw_tail 10 (by kernel_rfl) (by kernel_rfl) (by kernel_rfl) rfl rfl rfl ?_
  repeat' (first|refine z5 ?_|refine z11 ?_|refine z22 ?_ (hc:=by apply w1)|fail)
  refine ds_callF rho1 (wstr_fn (bU i) B A (by omega)) rfl rfl rfl rfl ⟨rfl,rfl,trivial⟩ (by cases i <;> rfl) rfl rfl rfl rfl rfl ?_ ?_
  ·rintro k2 res H2 ⟨rfl,rfl,rfl⟩;exact⟨rfl,rfl⟩
  rintro k2 res H2 ⟨rfl,rfl,rfl⟩
  change DS _ _ _ _ _ _ _ _
  repeat' ((fail_if_success (apply dw_stopS 9));(first|apply ds_nil|apply dw_seq2|apply thenD_n))
  refine dw_ent (show Ent _ _ _ _ 4 [(5,.loc 1 0),(7,.loc 3 0),(16,.d (.slice 5 (rs.map encTRu))),(17,.d (.int .i64 rs.length)),(18,.d (.int .i64 i))] [(1,.blk 58 [.loc 1 0,.row 2]),(2,.row 5 1 (strD (B++A))),(3,.blk 47 [.d (.int .i64 rs[i].at_),.d (.str rs[i].name),.d (.slice 2 (rs[i].terms.map encTTm)),.d (.int .i64 rs[i].fold),.d (.slice 5 (rs[i].body.map encTLt))])] from ent_ren (fun j=>match j with|2=>15|j=>j) ⟨rfl,rfl,rfl,rfl,rfl,trivial⟩ ⟨rfl,rfl,rfl,trivial⟩ rfl rfl rfl rfl rfl rfl) ?_
  have s1:endS.size=2:=rfl
  have s2:ifS.size=4:=rfl
  have s3:(⟨#[32,58,45,32]⟩:ByteArray).size=4:=rfl
  have lb:(rs[i].body.map encTLt).length=rs[i].body.length:=List.length_map _
  by_cases hb:rs[i].body=[]
  ·have hb0:rs[i].body.length=0:=by rw [hb];rfl
   rw [if_pos hb] at hd
   repeat' ((fail_if_success (apply dw_stopS 11));(first|refine z0 ?_|apply ds_nil|refine z5 ?_|apply dw_seq2|refine z16 ?_|refine z20 ?_|apply dw_skip|apply thenD_n|(refine z23 ?_ ?_ <;> intro hg)|fail))
   all_goals try (exfalso;omega)
   repeat' fail
   refine ds_callF rho1 (wstr_fn true (B++A) (endS) (by simp only [ByteArray.size_append];omega)) rfl rfl rfl rfl ⟨rfl,rfl,trivial⟩ rfl rfl rfl rfl rfl rfl ?_ ?_
   ·rintro k2 res H2 ⟨rfl,rfl,rfl⟩;exact⟨rfl,rfl⟩
   rintro k2 res H2 ⟨rfl,rfl,rfl⟩
   change DS _ _ _ _ _ _ _ _
   have e1:showS (rs.take (i + 1))=B++A++endS:=by
    have e0:A++(⟨#[]⟩:ByteArray)=A:=ByteArray.append_empty ..
    rw [hst,hd,e0,ByteArray.append_assoc]
   repeat' (first|refine z0 ?_|apply ds_nil|refine z16 ?_|apply thenD_n|apply inB_n)
   all_goals try (exfalso;omega)
   exact⟨i + 1,hi,ent_ren (fun j=>match j with|2=>5|j=>j) ⟨rfl,rfl,rfl,rfl,trivial⟩ ⟨rfl,by rw [e1];rfl,trivial⟩ rfl rfl rfl rfl rfl rfl,by omega⟩
  ·have hb0:0 < rs[i].body.length:=List.length_pos_iff.2 hb
   rw [if_neg hb] at hd
   repeat' ((fail_if_success (apply dw_stopT 10));(first|refine z0 ?_|apply ds_nil|apply dw_seq2|refine z16 ?_|apply dw_skip|apply thenD_n|(refine z23 ?_ ?_ <;> intro hg)|fail))
   all_goals try (exfalso;omega)
   refine dw_tail 7 (by kernel_rfl) (by kernel_rfl) (by kernel_rfl) rfl rfl rfl ?_
   repeat' (first|refine z5 ?_|refine z10 ?_|refine z22 ?_ (hc:=by apply w2)|fail)
   refine ds_callF rho1 (wstr_fn true (B++A) (ifS++E) (by simp only [ByteArray.size_append];omega)) rfl rfl rfl rfl ⟨rfl,rfl,trivial⟩ rfl rfl rfl rfl rfl rfl ?_ ?_
   ·rintro k2 res H2 ⟨rfl,rfl,rfl⟩;exact⟨rfl,rfl⟩
   rintro k2 res H2 ⟨rfl,rfl,rfl⟩
   change DS _ _ _ _ _ _ _ _
   repeat' (first|refine z0 ?_|apply ds_nil|refine z16 ?_|apply thenD_n)
   refine ds_callF (fun j=>match j with|0=>1|1=>5|j=>j) (wstr_fn true (B++A++(ifS++E)) endS (by simp only [ByteArray.size_append];omega)) rfl rfl rfl rfl ⟨rfl,rfl,trivial⟩ rfl rfl rfl rfl rfl rfl ?_ ?_
   ·rintro k2 res H2 ⟨rfl,rfl,rfl⟩;exact⟨rfl,rfl⟩
   rintro k2 res H2 ⟨rfl,rfl,rfl⟩
   change DS _ _ _ _ _ _ _ _
   have e1:showS (rs.take (i + 1))=B++A++(ifS++E)++endS:=by
    rw [hst,hd]
    simp only [ByteArray.append_assoc]
   repeat' (first|refine z0 ?_|apply ds_nil|refine z16 ?_|apply thenD_n|apply inB_n)
   all_goals try (exfalso;omega)
   exact⟨i + 1,hi,ent_ren (fun j=>match j with|2=>7|j=>j) ⟨rfl,rfl,rfl,rfl,trivial⟩ ⟨rfl,by rw [e1];rfl,trivial⟩ rfl rfl rfl rfl rfl rfl,by omega⟩
 ·rw [List.take_of_length_le (by omega)]
  have hpos:0 < rs.length:=List.length_pos_iff.2 hne
  obtain⟨n,hn⟩:∃ n,i=n + 1:=⟨i - 1,by omega⟩
  subst hn
  have hb0:(showS rs).size≠0:=by
   match rs,hne with
   | r::l,_ =>
    have s1:endS.size=2:=rfl
    show (showRu r++showS l).size≠0
    unfold showRu
    simp only [ByteArray.size_append]
    omega
  repeat' (first|refine z0 ?_|apply ds_nil|refine z5 ?_|apply dw_seq2|refine z16 ?_|refine z20 ?_|apply dw_block|apply dw_skip|apply dw_exit|apply thenD_n|apply thenD_e|refine z17 ?_|refine z1 ?_|refine z3 ?_|(refine z23 ?_ ?_ <;> intro hg)|fail)
  all_goals try (exfalso;omega)
  refine ds_callF rho1 (bstr_fn (showS rs) hb0) rfl rfl rfl rfl ⟨rfl,rfl,trivial⟩ rfl rfl rfl rfl rfl rfl ?_ ?_
  ·rintro k2 res H2 ⟨rfl,rfl⟩;exact⟨rfl,rfl⟩
  rintro k2 res H2 ⟨rfl,rfl⟩
  change DS _ _ _ _ _ _ _ _
  repeat' (first|refine z0 ?_|apply ds_nil|apply dw_ret|apply thenD_n)
  all_goals exact⟨.inl rfl,_,rfl,rfl,rfl⟩
end Go.Proofs.YtapciiffpnociabGreatDoor
namespace Go.Proofs.YtapciiffpnociabGreatDoor
open Go Go.RowKit
theorem rows_none (L:Sl):∀ (ws:List ByteArray) (n:Nat),(strPs n ws).flatMap (fun p=>rowsA (opSV L p.2))=[]
 | [],_=>rfl
 | w::ws,n=>by
  show rowsA (opSV L (.const (.string w)))++(strPs (n + 1) ws).flatMap _=[]
  rw [rows_none L ws (n + 1)]
  rfl
theorem names_none (L:Sl):∀ (ws:List ByteArray) (n:Nat),(strPs n ws).filterMap (fun p=>(opSV L p.2).nm)=[]
 | [],_=>rfl
 | w::ws,n=>by
  show List.filterMap _ ((n,Operand.const (.string w))::strPs (n + 1) ws)=[]
  rw [List.filterMap_cons]
  show List.filterMap _ (strPs (n + 1) ws)=[]
  exact names_none L ws (n + 1)
theorem parts_map (L:Sl):∀ (ws:List ByteArray) (n:Nat),(strPs n ws).map (fun p=>(p.1,opSV L p.2))=partsSV L (strPs n ws)
 | [],_=>rfl
 | w::ws,n=>by
  show (n,opSV L (.const (.string w)))::(strPs (n + 1) ws).map _=_
  rw [parts_map L ws (n + 1)]
  rfl
theorem stepC_strs {τ:List (Nat × TI)} {L:Sl} {η:Nat→Option HB} {z d t te len:Nat} (ws:List ByteArray) (ht:(tiGet τ t).sh = .slice te) (hkn:(tiGet τ te).sh.known=true) (hes:(tiGet τ te).cells=1) (hz:zeroOk (tiGet τ te).zero=true) (hzl:Nat.beq (tiGet τ te).zero.length (tiGet τ te).cells=true)
  (hln:len=ws.length) (hlen:Nat.ble len 16777216=true) (hce:cellEs τ 4 te=[0]):stepC τ (opSV L) η z (some d) (.buildSlice t len (strPs 0 ws).toArray)=some (True,.d (.slice 1 (ws.map fun s=>[D.str s])),.no):=by
 subst hln
 show buildSliceR τ (opSV L) η t ws.length (strPs 0 ws).toArray.toList=_
 unfold buildSliceR
 rw [List.toList_toArray,rows_none L ws 0]
 show buildSliceC τ (opSV L) t ws.length (strPs 0 ws)=_
 unfold buildSliceC
 have hzn:(zeroSV τ te).length=1:=by
  unfold zeroSV
  rw [List.length_map,Nat.eq_of_beq_eq_true hzl,hes]
 have hini:initSV (zeroSV τ te) (ws.length * 1)=List.replicate ws.length ((zeroSV τ te).getD 0 .junk):=by
  unfold initSV
  rw [Nat.mul_one]
  apply List.ext_getElem
  ·simp
  ·intro i h1 h2
   simp [hzn,Nat.mod_one]
 have hf:=fill_strs L ws [] ((zeroSV τ te).getD 0 .junk)
 simp only [List.map_nil,List.nil_append,List.length_nil] at hf
 rw [hes] at hzl
 simp only [ht,hkn,hes,hz,hzl,Nat.mul_one,hlen,hce,Bool.and_true,show Nat.blt 0 1=true from rfl]
 rw [parts_map L ws 0]
 simp only [Nat.mul_one] at hf hini
 rw [hini,hf]
 simp only [List.length_map,Nat.beq_refl,rows_strs]
section
variable {Γ : Ctx} {κ i : Nat} {L : Sl} {H : Hp} {ops : List Oper} {rem : List (Nat × Oper)} {lg : Log} {Kf : FS → Prop} {t ty : TypeId}
theorem dt_bsS (ws:List ByteArray) {d te len:Nat} {pos:String} {af:Array Edge} {g:Option (Nat × Bool)} {ps:List (Nat × Operand)} (hw:wantedSV ops L g=some true) (ht:(tiGet Γ.τ t).sh = .slice te) (hkn:(tiGet Γ.τ te).sh.known=true) (hes:(tiGet Γ.τ te).cells=1) (hz:zeroOk (tiGet Γ.τ te).zero=true) (hzl:Nat.beq (tiGet Γ.τ te).zero.length (tiGet Γ.τ te).cells=true)
  (hps:ps=strPs 0 ws) (hln:len=ws.length) (hlen:Nat.ble len 16777216=true) (hce:cellEs Γ.τ 4 te=[0]) (hok:opsOkB (.buildSlice t len ps.toArray)=true) (hd:Nat.blt d Γ.n=true) (hn:distinct (H.map (·.1))=true)
  (hlog:okLog ops i [] [] lg=true) (hk:DT Γ ops κ rem ((i,[],[])::lg) Kf ((d,.d (.slice 1 (ws.map fun s=>[D.str s])))::L) H) :
  DT Γ ops κ ((i,⟨some d,.buildSlice t len ps.toArray,ty,pos,af,g⟩)::rem) lg Kf L H:=by
 subst hps
 have hr:rdsN (opSV L) (.buildSlice t len (strPs 0 ws).toArray)=[]:=by
  have h1:(strPs 0 ws).flatMap (fun p=>rowsA (opSV L p.2))=[]:=rows_none L ws 0
  have h2:(strPs 0 ws).filterMap (fun p=>(opSV L p.2).nm)=[]:=names_none L ws 0
  unfold rdsN
  have h3:rdsR (opSV L) (.buildSlice t len (strPs 0 ws).toArray)=[]:=by
   show (strPs 0 ws).toArray.toList.flatMap (fun p=>rowsA (opSV L p.2))=[]
   rw [List.toList_toArray]
   exact h1
  rw [h3,List.append_nil]
  simp only [Op.operands,List.map_toArray,List.toList_toArray,List.filterMap_map]
  exact h2
 refine dt_ev hw (stepC_strs ws ht hkn hes hz hzl hln hlen hce) trivial rfl hok hd hn ?_ ?_
 ·rw [hr];exact hlog
 ·rw [hr];exact hk
end
end Go.Proofs.YtapciiffpnociabGreatDoor
