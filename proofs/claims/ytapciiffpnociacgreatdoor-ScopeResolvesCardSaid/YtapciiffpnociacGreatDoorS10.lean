/- Several texts in one: TokZ TokA TokB TokC TokD ScoB TreP TreQ ScoC. Condition: none. -/
import Derived.Test.YtapciiffpnociacGreatDoorS09
namespace Go.Proofs.YtapciiffpnociacGreatDoor
open Go Go.RowKit
attribute [local irreducible] DW DS DL DQ Ev FnOk FnP thenD inBlockD DT
def pairT:List ByteArray:=[⟨#[58,45]⟩,⟨#[60,61]⟩,⟨#[33,61]⟩]
def pairAt (r:ByteArray):Int:=if hasPre r ⟨#[58,45]⟩ then 0 else if hasPre r ⟨#[60,61]⟩ then 1 else if hasPre r ⟨#[33,61]⟩ then 2 else -1
theorem pairAt_hit (r:ByteArray) (j:Nat) (hj:j < pairT.length) (h2:∀ m (_:m < j) (hm3:m < pairT.length),hasPre r pairT[m]=false) (h:hasPre r pairT[j]=true):pairAt r=j:=by
 have hj3:j < 3:=hj
 unfold pairAt
 match j,hj3 with
 | 0,_=>rw [if_pos (show hasPre r ⟨#[58,45]⟩=true from h)];rfl
 | 1,_=>rw [if_neg (by rw [show hasPre r ⟨#[58,45]⟩=false from h2 0 (by omega) (by decide)];decide),if_pos (show hasPre r ⟨#[60,61]⟩=true from h)];rfl
 | 2,_=>rw [if_neg (by rw [show hasPre r ⟨#[58,45]⟩=false from h2 0 (by omega) (by decide)];decide),if_neg (by rw [show hasPre r ⟨#[60,61]⟩=false from h2 1 (by omega) (by decide)];decide),if_pos (show hasPre r ⟨#[33,61]⟩=true from h)];rfl
theorem pairAt_none (r:ByteArray) (h2:∀ m (_:m < 3) (hm3:m < pairT.length),hasPre r pairT[m]=false):pairAt r = -1:=by
 unfold pairAt
 rw [if_neg (by rw [show hasPre r ⟨#[58,45]⟩=false from h2 0 (by omega) (by decide)];decide),if_neg (by rw [show hasPre r ⟨#[60,61]⟩=false from h2 1 (by omega) (by decide)];decide),if_neg (by rw [show hasPre r ⟨#[33,61]⟩=false from h2 2 (by omega) (by decide)];decide)]
set_option maxHeartbeats 8000000 in
theorem indexFunc_fn (s:ByteArray) (i:Nat) (hi:i≤s.size) :
  FnS 114 [.d (.slice 1 (pairT.map fun t=>[.str t])),.fn 103 [.loc 1 0]] 2 2 (scH2 s i) (fun _ r H2=>r = .d (.int .i64 (pairAt (s.extract i s.size)))∧H2=scH2 s i):=by
 refine fn_enter _ Tryz.func114 rfl rfl (by kernel_rfl) ?_
 intro O w0 E0 β0
 repeat' (first|refine z0 ?_|apply ds_nil|apply dw_seq2|refine z16 ?_|apply dw_block|apply thenD_n)
 refine ds_loop (ι:=Nat) (fun j=>⟨2,[(0,.d (.slice 1 (pairT.map fun t=>[.str t]))),(1,.fn 103 [.loc 1 0]),(7,.d (.int .i64 3)),(8,.d (.int .i64 j))],scH2 s i⟩)
  (fun j=>j≤3∧∀ m (hm:m < j) (hm3:m < pairT.length),hasPre (s.extract i s.size) pairT[m]=false) (fun j=>3 - j) 0 ⟨by omega,fun m hm=>absurd hm (by omega)⟩
  (ent_ren id ⟨rfl,rfl,rfl,rfl,trivial⟩ ⟨rfl,rfl,trivial⟩ rfl rfl rfl rfl rfl rfl) ?_
 rintro j ⟨h1,h2⟩
 repeat' (first|refine z0 ?_|apply ds_nil|apply dw_seq2|refine z16 ?_|apply thenD_n)
 have hp3:pairT.length=3:=rfl
 refine dw_condP rfl (fun hlt=>?_) (fun hlt=>?_)
 ·repeat' (first|refine z0 ?_|apply ds_nil|apply dw_seq2|refine z16 ?_|apply dw_block|apply dw_skip|apply thenD_n)
  have hj:j < pairT.length:=by omega
  refine ds_callVO id (begins_fn s i hi pairT[j]) rfl rfl rfl rfl rfl rfl ⟨rfl,rfl,trivial⟩ rfl rfl rfl rfl rfl rfl ?_ ?_
  ·rintro k2 r H2 ⟨rfl,rfl,rfl⟩
   exact⟨rfl,rfl⟩
  rintro k2 r H2 ⟨rfl,rfl,rfl⟩
  repeat' (first|apply ds_nil|apply thenD_n)
  refine dw_cond rfl (fun hh=>?_) (fun hh=>?_)
  ·repeat' (first|refine z0 ?_|apply ds_nil|apply dw_seq2|refine z16 ?_|apply dw_ret|apply thenD_n|apply thenD_r|apply inB_r)
   refine⟨.inl rfl,_,rfl,?_⟩
   rw [pairAt_hit _ j hj h2 hh]
   exact⟨rfl,rfl⟩
  ·repeat' (first|refine z0 ?_|apply ds_nil|refine z16 ?_|apply dw_skip|apply thenD_n|apply inB_n)
   refine⟨j + 1,⟨by omega,fun m hm hm3=>?_⟩,ent_ren id ⟨rfl,rfl,rfl,rfl,trivial⟩ ⟨rfl,rfl,trivial⟩ rfl rfl rfl rfl rfl rfl,by omega⟩
   by_cases e:m=j
   ·subst e;exact hh
   ·exact h2 m (by omega) hm3
 ·repeat' (first|refine z0 ?_|apply ds_nil|apply dw_seq2|refine z16 ?_|apply dw_exit|apply dw_ret|apply thenD_n|apply thenD_e|refine z17 ?_|fail)
  refine⟨.inl rfl,_,rfl,?_,rfl⟩
  rw [pairAt_none _ (fun m hm hm3=>h2 m (by omega) hm3)]
  rfl
set_option maxHeartbeats 8000000 in
theorem containsFunc_fn (s:ByteArray) (i:Nat) (hi:i≤s.size) :
  FnS 101 [.d (.slice 1 (pairT.map fun t=>[.str t])),.fn 103 [.loc 1 0]] 2 2 (scH2 s i) (fun _ r H2=>r = .d (.bool (decide (pairAt (s.extract i s.size) ≥ 0)))∧H2=scH2 s i):=by
 refine fn_enter _ Tryz.func101 rfl rfl (by kernel_rfl) ?_
 intro O w0 E0 β0
 repeat' (first|refine z0 ?_|apply ds_nil|apply dw_seq2|refine z16 ?_|apply thenD_n)
 refine ds_callO id (indexFunc_fn s i hi) rfl rfl rfl rfl ⟨rfl,rfl,trivial⟩ rfl rfl rfl rfl rfl rfl ?_ ?_
 ·rintro k2 r H2 ⟨rfl,rfl⟩
  exact⟨rfl,rfl⟩
 rintro k2 r H2 ⟨rfl,rfl⟩
 repeat' (first|refine z0 ?_|apply ds_nil|apply dw_ret|apply thenD_n)
 exact⟨.inl rfl,_,rfl,rfl,rfl⟩
set_option maxHeartbeats 8000000 in
theorem indexByte0_fn (s:ByteArray) (c:UInt8):Fn 116 [.d (.str s),.d (.int .u8 (c.toNat:Int))] (fun r=>r = .d (.int .i64 (firstIdx s ((c.toNat:Int).toNat.toUInt8)))):=by
 refine fnp_enter' _ Tryz.func116 rfl rfl (by kernel_rfl) ?_
 intro O w0 E0 β0
 repeat' (first|refine z0 ?_|apply ds_nil|apply dw_seq2|refine z16 ?_|apply thenD_n)
 refine ds_ev (ev_indexByte Tryz.func121 rfl rfl rfl rfl rfl rfl rfl) rfl rfl ?_
 repeat' (first|refine z0 ?_|apply ds_nil|apply dw_ret|apply thenD_n)
 exact ret_i rfl rfl
set_option maxHeartbeats 8000000 in
theorem indexByte_fn (s:ByteArray) (c:UInt8):Fn 105 [.d (.str s),.d (.int .u8 (c.toNat:Int))] (fun r=>r = .d (.int .i64 (firstIdx s ((c.toNat:Int).toNat.toUInt8)))):=by
 refine fnp_enter' _ Tryz.func105 rfl rfl (by kernel_rfl) ?_
 intro O w0 E0 β0
 repeat' (first|refine z0 ?_|apply ds_nil|apply dw_seq2|refine z16 ?_|apply dw_ret|apply thenD_n|refine z21 ?_ (hc:=by apply indexByte0_fn)|fail)
 exact ret_i rfl rfl
section
variable (s : ByteArray) (i : Nat) (hi : i < s.size)
include hi
theorem drop_cons:s.data.toList.drop i=s[i]::s.data.toList.drop (i + 1):=by
 have hl0:s.data.toList.length=s.size:=by simp
 rw [List.drop_eq_getElem_cons (by omega),byteAt]
theorem takeW_one (p:UInt8→Bool) (h:p s[i]=true):takeW p (s.data.toList.drop i)=1 + takeW p (s.data.toList.drop (i + 1)):=by
 have:=takeW_step p s.data.toList i (by simpa using hi) (by rw [byteAt _ _ hi];exact h)
 omega
theorem tok_letter (h:letterB s[i]=true):tokAt (s.data.toList.drop i)=(if smallB s[i] then 1 else 2,takeW alnumB (s.data.toList.drop i)):=by
 rw [takeW_one s i hi alnumB (by unfold alnumB;rw [h];rfl),drop_cons s i hi,tokAt_cons,if_pos h]
theorem tok_digit (h:letterB s[i]=false) (hd:digitB s[i]=true):tokAt (s.data.toList.drop i)=(3,takeW digitB (s.data.toList.drop i)):=by
 rw [takeW_one s i hi digitB hd,drop_cons s i hi,tokAt_cons,if_neg (by rw [h];exact Bool.false_ne_true),if_pos hd]
theorem tok_sign (h:letterB s[i]=false) (hd:digitB s[i]=false):tokAt (s.data.toList.drop i)=if pairB (s[i]::s.data.toList.drop (i + 1)) then (4,2) else if signs.contains s[i] then (4,1) else (0,0):=by
 rw [drop_cons s i hi,tokAt_cons,if_neg (by rw [h];exact Bool.false_ne_true),if_neg (by rw [hd];exact Bool.false_ne_true)]
omit hi in
theorem ext_ext (k:Nat) (h:i + k≤s.size):(s.extract i s.size).extract 0 k=s.extract i (i + k):=by
 rw [ByteArray.extract_extract]
 congr 1
 omega
theorem pair_at:decide (pairAt (s.extract i s.size) ≥ 0)=pairB (s[i]::s.data.toList.drop (i + 1)):=by
 have hsz:(s.extract i s.size).size=s.size - i:=by rw [ByteArray.size_extract];omega
 by_cases h2:i + 1 < s.size
 ·rw [pair_ext s i h2]
  have hp:∀ t:ByteArray,t.size=2→hasPre (s.extract i s.size) t=decide (s.extract i (i + 2)=t):=by
   intro t ht
   unfold hasPre
   rw [ht,hsz,ext_ext s i 2 (by omega),decide_eq_true (by omega),Bool.true_and]
  unfold pairAt
  rw [hp _ rfl,hp _ rfl,hp _ rfl]
  by_cases a:s.extract i (i + 2)=⟨#[58,45]⟩
  ·simp [a]
  ·by_cases b:s.extract i (i + 2)=⟨#[60,61]⟩
   ·simp [b]
   ·by_cases c:s.extract i (i + 2)=⟨#[33,61]⟩
    ·simp [c]
    ·simp [a,b,c]
 ·have hp:∀ t:ByteArray,t.size=2→hasPre (s.extract i s.size) t=false:=by
   intro t ht
   unfold hasPre
   rw [ht,hsz,decide_eq_false (by omega),Bool.false_and]
  have hl:s.data.toList.drop (i + 1)=[]:=List.drop_eq_nil_of_le (by simp;omega)
  unfold pairAt
  rw [hp _ rfl,hp _ rfl,hp _ rfl,hl]
  simp [pairB]
theorem pair_room (h:pairAt (s.extract i s.size) ≥ 0):i + 2≤s.size:=by
 have hq:=pair_at s i hi
 rw [decide_eq_true h] at hq
 rcases Nat.lt_or_ge (i + 1) s.size with h2|h2
 ·omega
 ·have hl:s.data.toList.drop (i + 1)=[]:=List.drop_eq_nil_of_le (by simp;omega)
  rw [hl] at hq
  simp [pairB] at hq
end
theorem idx_signs (c:UInt8):decide ((0:Int)≤firstIdx ⟨#[40,41,44,46,60,61,43,45,42]⟩ c)=signs.contains c:=by
 have key:∀ n:Fin 256,decide ((0:Int)≤firstIdx ⟨#[40,41,44,46,60,61,43,45,42]⟩ (UInt8.ofNat n.1))=signs.contains (UInt8.ofNat n.1):=by decide +kernel
 have:=key ⟨c.toNat,c.toNat_lt⟩
 simpa using this
theorem signs_low (c:UInt8) (h:signs.contains c=true):(c.toNat:Int) < 128:=by
 have key:∀ n:Fin 256,signs.contains (UInt8.ofNat n.1)=true→(n.1:Int) < 128:=by decide +kernel
 exact key ⟨c.toNat,c.toNat_lt⟩ (by simpa using h)
theorem use1 {A C G:Prop} (c:A→C) (a:A) (k:C→G):G:=k (c a)
theorem use2 {A B C G:Prop} (c:A→B→C) (a:A) (b:B) (k:C→G):G:=k (c a b)
theorem use3 {A B E C G:Prop} (c:A→B→E→C) (a:A) (b:B) (e:E) (k:C→G):G:=k (c a b e)
theorem errL (kd:Int) (n:Nat) (c:UInt8) (h:kd=1∨kd=2):tokErr kd n c=if 12 < n then 2 else 0:=by
 unfold tokErr
 rcases h with rfl|rfl <;> simp
theorem errD (n:Nat) (c:UInt8):tokErr 3 n c=if 7 < n then 2 else if 1 < n∧(c.toNat:Int)=48 then 1 else 0:=by
 rw [tokErr_int]
 simp only [if_false,true_and,Int.reduceEq,or_self,false_and,false_or]
 by_cases h1:7 < n
 ·rw [if_pos h1,if_pos (by omega)]
 ·rw [if_neg h1,if_neg (by omega)]
  by_cases h2:1 < n∧(c.toNat:Int)=48
  ·rw [if_pos h2,if_pos (by omega)]
  ·rw [if_neg h2,if_neg (by omega)]
theorem errP (n:Nat) (c:UInt8):tokErr 4 n c=0:=by
 unfold tokErr
 simp
theorem small_great {c:UInt8} (h:smallB c=true):greatB c=false:=by
 unfold smallB at h
 unfold greatB
 simp at h ⊢
 omega
def tokenR (s:ByteArray) (i:Nat) (hi:i < s.size) (r:SV) (H2:Hp):Prop :=
 ∃ (kd e:Int) (tx:ByteArray) (j:Nat),r = .tup [.agg [.d (.int .i64 kd),.d (.int .i64 i),.d (.str tx)],.d (.int .i64 e)]∧H2=scH s j∧e=tokErr (tokAt (s.data.toList.drop i)).1 (tokAt (s.data.toList.drop i)).2 s[i] ∧
  (e=0→kd=(tokAt (s.data.toList.drop i)).1∧tx=s.extract i (i + (tokAt (s.data.toList.drop i)).2)∧j=i + (tokAt (s.data.toList.drop i)).2)
set_option maxHeartbeats 8000000 in
theorem token_fn (s:ByteArray) (i:Nat) (hi:i < s.size) (hs:s.size≤5000) :
  FnS 84 [.loc 0 0] 1 1 (scH s i) (fun _ r H2=>tokenR s i hi r H2):=by
 refine fn_enterF _ Tryz.func84 rfl rfl (by kernel_rfl) ?_
 intro O w0 E0 β0
 repeat' (first|refine z0 ?_|apply ds_nil|apply dw_seq2|refine z16 ?_|apply thenD_n|refine z1 ?_|refine z3 ?_|fail)
 (refine ds_callF id (sign_fn s i) rfl rfl rfl rfl ⟨rfl,trivial⟩ rfl rfl rfl rfl rfl rfl ?_ ?_)
 ·rintro k2 r H2 ⟨rfl,rfl,rfl⟩
  exact⟨rfl,rfl⟩
 rintro k2 r H2 ⟨rfl,rfl,rfl⟩
 rw [dif_pos hi]
 change DS _ _ _ _ _ _ _ _
 have hl0:s.data.toList.length=s.size:=by simp
 have hla:=takeW_le alnumB (s.data.toList.drop i)
 have hld:=takeW_le digitB (s.data.toList.drop i)
 rw [List.length_drop,hl0] at hla hld
 have hea:(s.extract i (i + takeW alnumB (s.data.toList.drop i))).size=takeW alnumB (s.data.toList.drop i):=by rw [ByteArray.size_extract];omega
 have hed:(s.extract i (i + takeW digitB (s.data.toList.drop i))).size=takeW digitB (s.data.toList.drop i):=by rw [ByteArray.size_extract];omega
 have cS:smallB s[i]=true→(tokAt (s.data.toList.drop i)).1=1∧(tokAt (s.data.toList.drop i)).2=takeW alnumB (s.data.toList.drop i):=by
  intro h
  rw [tok_letter s i hi (by unfold letterB;simp [h]),if_pos h]
  exact⟨rfl,rfl⟩
 have cG:smallB s[i]=false→greatB s[i]=true→(tokAt (s.data.toList.drop i)).1=2∧(tokAt (s.data.toList.drop i)).2=takeW alnumB (s.data.toList.drop i):=by
  intro h h2
  rw [tok_letter s i hi (by unfold letterB;simp [h2]),if_neg (by rw [h];exact Bool.false_ne_true)]
  exact⟨rfl,rfl⟩
 have cD:smallB s[i]=false→greatB s[i]=false→digitB s[i]=true→(tokAt (s.data.toList.drop i)).1=3∧(tokAt (s.data.toList.drop i)).2=takeW digitB (s.data.toList.drop i):=by
  intro h h2 h3
  rw [tok_digit s i hi (by unfold letterB;simp [h,h2]) h3]
  exact⟨rfl,rfl⟩
 have cN:smallB s[i]=false→greatB s[i]=false→digitB s[i]=false→tokAt (s.data.toList.drop i)=if pairAt (s.extract i s.size) ≥ 0 then (4,2) else if signs.contains s[i] then (4,1) else (0,0):=by
  intro h h2 h3
  rw [tok_sign s i hi (by unfold letterB;simp [h,h2]) h3,← pair_at s i hi]
  by_cases hp:pairAt (s.extract i s.size) ≥ 0
  ·rw [if_pos hp,if_pos (by simpa using hp)]
  ·rw [if_neg hp,if_neg (by simpa using hp)]
 have cX:smallB s[i]=true→greatB s[i]=true→False:=fun h h2=>by rw [small_great h] at h2;cases h2
 have cY:greatB s[i]=true→greatB s[i]=false→False:=fun h h2=>by rw [h] at h2;cases h2
 have hroom:=pair_room s i hi
 clear hl0
 repeat' (first|refine z0 ?_|refine z12 ?_|apply ds_nil|apply dw_seq2|refine z16 ?_|apply dw_block|apply dw_skip|refine z18 ?_|apply thenD_n|refine z21 ?_ (hc:=by apply small_fn)|refine z21 ?_ (hc:=by apply great_fn)|refine z21 ?_ (hc:=by apply digit_fn)|refine z3 ?_|(apply dw_cond;exact rfl;all_goals intro hg)|((fail_if_success (apply ds_known;exact rfl));apply ds_guardB;exact rfl;exact rfl;exact rfl;all_goals intro hg))
 all_goals first
  | ((refine ds_callF id (run_fn s i (by omega) hs _ alnumB alnum_fn) rfl rfl rfl rfl ⟨rfl,trivial⟩ rfl rfl rfl rfl rfl rfl ?_ ?_)
     ·rintro k2 r H2 ⟨rfl,rfl,rfl⟩
      exact⟨rfl,rfl⟩
     rintro k2 r H2 ⟨rfl,rfl,rfl⟩
     change DS _ _ _ _ _ _ _ _)
  | ((refine ds_callF id (run_fn s i (by omega) hs _ digitB digit_fn) rfl rfl rfl rfl ⟨rfl,trivial⟩ rfl rfl rfl rfl rfl rfl ?_ ?_)
     ·rintro k2 r H2 ⟨rfl,rfl,rfl⟩
      exact⟨rfl,rfl⟩
     rintro k2 r H2 ⟨rfl,rfl,rfl⟩
     change DS _ _ _ _ _ _ _ _)
  | skip
 repeat' (first|refine z0 ?_|refine z12 ?_|apply ds_nil|apply dw_seq2|refine z16 ?_|apply dw_skip|apply dw_ret|refine z19 ?_|apply thenD_n|apply thenD_r|apply inB_n|apply inB_r|refine z21 ?_ (hc:=by apply pairs_fn)|refine z3 ?_|(refine z23 ?_ ?_ <;> intro hg)|((fail_if_success (apply ds_known;exact rfl));apply ds_guardP;exact rfl;exact rfl;exact rfl;all_goals intro hg))
 all_goals first
  | (refine use2 cX ?_ ?_ False.elim;assumption;assumption)
  | (refine use2 cY ?_ ?_ False.elim;assumption;assumption)
  | (refine use1 cS ?_ ?_;assumption;rintro⟨t1,t2⟩
     refine⟨.inl rfl,_,rfl,1,scH s _,⟨rfl,trivial⟩,rfl,rfl,rfl,rfl,_,_,_,_,rfl,rfl,?_,?_⟩
     ·rw [t1,t2,errL _ _ _ (.inl rfl)]
      first|rw [if_pos (by omega)]|rw [if_neg (by omega)]
     ·intro he
      first|exact absurd he (by decide)|(rw [t1,t2];exact⟨rfl,rfl,rfl⟩))
  | (refine use2 cG ?_ ?_ ?_;assumption;assumption;rintro⟨t1,t2⟩
     refine⟨.inl rfl,_,rfl,1,scH s _,⟨rfl,trivial⟩,rfl,rfl,rfl,rfl,_,_,_,_,rfl,rfl,?_,?_⟩
     ·rw [t1,t2,errL _ _ _ (.inr rfl)]
      first|rw [if_pos (by omega)]|rw [if_neg (by omega)]
     ·intro he
      first|exact absurd he (by decide)|(rw [t1,t2];exact⟨rfl,rfl,rfl⟩))
  | (refine use3 cD ?_ ?_ ?_ ?_;assumption;assumption;assumption;rintro⟨t1,t2⟩
     refine⟨.inl rfl,_,rfl,1,scH s _,⟨rfl,trivial⟩,rfl,rfl,rfl,rfl,_,_,_,_,rfl,rfl,?_,?_⟩
     ·rw [t1,t2,errD]
      first|rw [if_pos (by omega)]|rw [if_neg (by omega),if_pos (by omega)]|rw [if_neg (by omega),if_neg (by omega)]
     ·intro he
      first|exact absurd he (by decide)|(rw [t1,t2];exact⟨rfl,rfl,rfl⟩))
  | skip
 have hT:=cN ‹_› ‹_› ‹_›
 (refine ds_callF id (containsFunc_fn s i (by omega)) rfl rfl rfl rfl ⟨rfl,rfl,trivial⟩ rfl rfl rfl rfl rfl rfl ?_ ?_)
 ·rintro k2 r H2 ⟨rfl,rfl⟩
  exact⟨rfl,rfl⟩
 rintro k2 r H2 ⟨rfl,rfl⟩
 change DS _ _ _ _ _ _ _ _
 repeat' (first|refine z0 ?_|apply ds_nil|apply thenD_n)
 refine dw_condP rfl (fun hp=>?_) (fun hp=>?_)
 ·have hr:=hroom hp
  rw [if_pos hp] at hT
  repeat' (first|refine z0 ?_|apply ds_nil|refine z5 ?_|refine z6 ?_|refine z10 ?_|apply dw_seq2|refine z16 ?_|refine z20 ?_|apply dw_ret|apply thenD_n|apply inB_n|refine z3 ?_|fail)
  refine⟨.inl rfl,_,rfl,1,scH s _,⟨rfl,trivial⟩,rfl,rfl,rfl,rfl,_,_,_,_,rfl,rfl,?_,?_⟩
  ·rw [hT,errP]
  ·intro he
   rw [hT]
   exact⟨rfl,rfl,rfl⟩
 ·rw [if_neg hp] at hT
  repeat' (first|refine z0 ?_|apply ds_nil|apply dw_seq2|refine z16 ?_|apply thenD_n|refine z21 ?_ (hc:=by apply indexByte_fn)|fail)
  have hidx:=idx_signs s[i]
  have hu:((s[i].toNat:Int).toNat.toUInt8)=s[i]:=by simp
  refine dw_condP rfl (fun hq=>?_) (fun hq=>?_)
  ·rw [hu] at hq
   rw [decide_eq_true (by exact hq)] at hidx
   have hlow:=signs_low s[i] hidx.symm
   have hlow0:(0:Int)≤(s[i].toNat:Int):=by omega
   rw [if_pos hidx.symm] at hT
   have hone:(⟨#[s[i]]⟩:ByteArray)=s.extract i (i + 1):=by
    apply ByteArray.ext
    simp only [ByteArray.data_extract]
    apply Array.toList_inj.1
    rw [Array.toList_extract,List.extract_eq_take_drop,show i + 1 - i=1 by omega,drop_cons s i hi]
    rfl
   repeat' (first|refine z0 ?_|apply ds_nil|apply dw_seq2|refine z16 ?_|apply dw_ret|apply thenD_n|apply inB_n|refine z3 ?_|fail)
   refine⟨.inl rfl,_,rfl,1,scH s _,⟨rfl,trivial⟩,rfl,rfl,rfl,rfl,_,_,_,_,rfl,rfl,?_,?_⟩
   ·rw [hT,errP]
   ·intro he
    rw [hT]
    exact⟨rfl,hone,rfl⟩
  ·rw [hu] at hq
   rw [decide_eq_false (by exact hq)] at hidx
   rw [if_neg (by rw [← hidx];exact Bool.false_ne_true)] at hT
   repeat' (first|refine z0 ?_|apply ds_nil|apply dw_seq2|refine z16 ?_|apply dw_ret|apply thenD_n|apply thenD_r|apply inB_r|refine z3 ?_|fail)
   refine⟨.inl rfl,_,rfl,1,scH s _,⟨rfl,trivial⟩,rfl,rfl,rfl,rfl,_,_,_,_,rfl,rfl,?_,?_⟩
   ·rw [hT]
    unfold tokErr
    simp
   ·intro he
    exact absurd he (by decide)
def scanInv (s:ByteArray) (x:List Tok × Nat):Prop :=
 x.2≤s.size∧x.1.length≤x.2∧scanAt s false 0=(scanAt s false x.2).map (x.1++·) ∧
 ∀ h:x.2 < s.size,¬ (s[x.2].toNat:Int)=37∧¬ (s[x.2].toNat:Int)=32∧¬ (s[x.2].toNat:Int)=9∧¬ (s[x.2].toNat:Int)=10
set_option maxHeartbeats 8000000 in
theorem scan_fn (s:ByteArray):Fn 62 [.d (.str s)] (fun r=>r=encScan (scanS s)):=by
 refine fnp_enter' _ Tryz.func62 rfl rfl (by kernel_rfl) ?_
 intro O w0 E0 β0
 repeat' (first|refine z0 ?_|apply ds_nil|apply dw_seq2|refine z16 ?_|apply thenD_n)
 refine dw_condP rfl (fun hbig=>?_) (fun hbig=>?_)
 ·repeat' (first|refine z0 ?_|apply ds_nil|apply dw_seq2|refine z16 ?_|apply thenD_n)
  refine dw_nild 2 3 rfl ?_
  repeat' (first|apply dw_ret|apply thenD_r)
  exact ret_3 rfl (by rw [scanS_big s (by omega)];exact⟨rfl,rfl,rfl⟩)
 ·repeat' (first|refine z0 ?_|apply ds_nil|apply dw_seq2|refine z16 ?_|apply dw_skip|apply thenD_n|refine z1 ?_|fail)
  (refine ds_callF id (skip_fn s 0 (by omega) (by omega)) rfl rfl rfl rfl ⟨rfl,trivial⟩ rfl rfl rfl rfl rfl rfl ?_ ?_)
  ·rintro k2 r H2 ⟨rfl,rfl,j,_,_,_,_,rfl⟩
   exact⟨rfl,rfl⟩
  rintro k2 r H2 ⟨rfl,rfl,j0,g1,g2,g3,g4,rfl⟩
  change DS _ _ _ _ _ _ _ _
  repeat' (first|apply ds_nil|apply dw_block|apply thenD_n)
  refine dw_nilrow (t:=6) 112 3 rfl ?_
  refine ds_loop (ι:=List Tok × Nat) (fun x=>⟨2,[(0,.d (.str s)),(5,.loc 0 0),(6,.row 1)],[(0,.blk 126 [.d (.str s),.d (.int .i64 x.2)]),(1,.row 112 3 (x.1.map encTok))]⟩)
   (scanInv s) (fun x=>s.size - x.2) ([],j0) ⟨g2,Nat.zero_le _,by rw [g3];cases scanAt s false j0 <;> rfl,g4⟩
   (ent_ren id ⟨rfl,rfl,rfl,trivial⟩ ⟨rfl,rfl,trivial⟩ rfl rfl rfl rfl rfl rfl) ?_
  rintro⟨toks,i⟩ ⟨h1,h2,h3,h4⟩
  dsimp only at h1 h2 h3 h4 ⊢
  repeat' (first|refine z0 ?_|apply ds_nil|apply dw_seq2|refine z16 ?_|apply thenD_n)
  refine dw_condP rfl (fun hlt=>?_) (fun hlt=>?_)
  ·have hlt':i < s.size:=by omega
   have h4':=h4 hlt'
   repeat' (first|refine z0 ?_|apply dw_seq2|refine z16 ?_|apply dw_block|apply dw_skip|apply thenD_n)
   (refine ds_callF id (token_fn s i hlt' (by omega)) rfl rfl rfl rfl ⟨rfl,trivial⟩ rfl rfl rfl rfl rfl rfl ?_ ?_)
   ·rintro k2 r H2 ⟨kd,e,tx,j,rfl,rfl,_,_⟩
    exact⟨rfl,rfl⟩
   rintro k2 r H2 ⟨kd,e,tx,j,rfl,rfl,he,hz⟩
   change DS _ _ _ _ _ _ _ _
   have hS:=tok_step s false i hlt' rfl h4'.1 h4'.2.1 h4'.2.2.1 h4'.2.2.2 _ rfl
   have hle:=tokAt_le (s.data.toList.drop i)
   have hpo:=tokAt_pos (s.data.toList.drop i)
   rw [List.length_drop,show s.data.toList.length=s.size by simp] at hle
   generalize tokAt (s.data.toList.drop i)=q at hS hle hpo he hz
   obtain⟨kind,n⟩:=q
   dsimp only at hS hle hpo he hz
   rw [hS] at h3
   repeat' (first|refine z0 ?_|apply ds_nil|apply dw_seq2|refine z16 ?_|apply thenD_n|refine z1 ?_|refine z3 ?_|fail)
   refine dw_condP rfl (fun hne=>?_) (fun hne=>?_)
   ·repeat' (first|refine z5 ?_|refine z10 ?_|apply dw_seq2|refine z20 ?_|apply thenD_n)
    refine dw_nild 2 3 rfl ?_
    repeat' (first|apply dw_ret|apply thenD_r|apply inB_r)
    refine ret_3 rfl ?_
    have:=scanS_err s (by omega) i e (by rw [h3,if_neg (by rw [← he];exact hne),← he];rfl)
    rw [this]
    exact⟨rfl,rfl,rfl⟩
   ·have he0:e=0:=Decidable.not_not.1 hne
    obtain⟨z1,z2,z3⟩:=hz he0
    rw [if_pos (by rw [← he];exact he0)] at h3
    have hn1:=hpo (by intro hk;rw [hk] at he;unfold tokErr at he;simp at he;omega)
    subst z1;subst z2;subst z3
    repeat' (first|refine z0 ?_|apply ds_nil|refine z16 ?_|apply dw_skip|apply thenD_n|apply inB_n|refine z4 ?_|refine z2 ?_|fail)
    (refine ds_callF id (skip_fn s (i + n) (by omega) (by omega)) rfl rfl rfl rfl ⟨rfl,trivial⟩ rfl rfl rfl rfl rfl rfl ?_ ?_)
    ·rintro k2 r H2 ⟨rfl,rfl,j,_,_,_,_,rfl⟩
     exact⟨rfl,rfl⟩
    rintro k2 r H2 ⟨rfl,rfl,j,q1,q2,q3,q4,rfl⟩
    change DS _ _ _ _ _ _ _ _
    repeat' (first|apply ds_nil|apply thenD_n)
    refine⟨(toks++[⟨kd,i,s.extract i (i + n)⟩],j),⟨?_,?_,?_,q4⟩,?_,?_⟩
    ·exact q2
    ·show (toks++[_]).length≤j
     rw [List.length_append]
     show _ + 1≤_
     omega
    ·show scanAt s false 0=_
     rw [h3,map_map,q3]
     simp only [List.append_assoc,List.singleton_append]
    ·dsimp only
     rw [List.map_append]
     exact ent_ren (fun i=>match i with|0=>0|_=>3) ⟨rfl,rfl,rfl,trivial⟩ ⟨rfl,rfl,trivial⟩ rfl rfl rfl rfl rfl rfl
    ·show s.size - j < s.size - i;omega
  ·repeat' (first|refine z0 ?_|apply ds_nil|apply dw_seq2|refine z16 ?_|apply dw_exit|apply thenD_n|apply thenD_e|refine z17 ?_|fail)
   refine dw_seal 2 rfl rfl ?_
   repeat' (apply dw_ret)
   refine ret_3 rfl ?_
   rw [scanS_ok s (by omega) toks (by rw [h3,scanAt_end s false i (by omega)];exact congrArg Except.ok (List.append_nil _))]
   exact⟨rfl,rfl,rfl⟩
def oneS (kind:Int) (s:ByteArray):Bool:=match scanS s with
 | ([t],_,e)=>decide (e=0) && (decide (t.kind=kind) && decide (t.text=s))
 | _=>false
set_option maxHeartbeats 8000000 in
theorem one_fn (kind:Int) (s:ByteArray):Fn 89 [.d (.int .i64 kind),.d (.str s)] (fun r=>r = .d (.bool (oneS kind s))):=by
 refine fnp_enter' _ Tryz.func89 rfl rfl (by kernel_rfl) ?_
 intro O w0 E0 β0
 have hsc:=scan_fn s
 unfold oneS
 generalize scanS s=q at hsc ⊢
 obtain⟨l,p,e⟩:=q
 unfold encScan encToks at hsc
 dsimp only at hsc
 rcases l with _|⟨t,_|⟨t',l⟩⟩
 ·repeat' (first|refine z0 ?_|refine z12 ?_|apply ds_nil|apply dw_seq2|refine z16 ?_|apply dw_ret|apply thenD_n|refine z21 ?_ (hc:=by apply hsc)|((fail_if_success (apply ds_known;exact rfl));apply ds_guardP;exact rfl;exact rfl;exact rfl;all_goals intro hg))
  all_goals exact ret_b rfl (by simp)
 ·repeat' (first|refine z0 ?_|refine z12 ?_|apply ds_nil|apply dw_seq2|refine z16 ?_|apply dw_ret|apply thenD_n|refine z21 ?_ (hc:=by apply hsc)|((fail_if_success (apply ds_known;exact rfl));apply ds_guardP;exact rfl;exact rfl;exact rfl;all_goals intro hg))
  all_goals exact ret_b rfl (by simp_all)
 ·repeat' (first|refine z0 ?_|refine z12 ?_|apply ds_nil|apply dw_seq2|refine z16 ?_|apply dw_ret|apply thenD_n|refine z21 ?_ (hc:=by apply hsc)|((fail_if_success (apply ds_known;exact rfl));apply ds_guardP;exact rfl;exact rfl;exact rfl;all_goals intro hg))
  all_goals first
   | exact ret_b rfl (by simp_all)
   | (rename_i h;exfalso;revert h;simp;done)
   | (exfalso;simp at *;done)
   | (exfalso;simp at *;omega)
def eqS (x y:ByteArray):Bool:=decide (y=x)
def eqB (x y:Bool):Bool:=y == x
abbrev elS (s:ByteArray):SV:=.d (.str s)
abbrev elB (b:Bool):SV:=.d (.bool b)
set_option maxHeartbeats 8000000 in
theorem indexS_fn (y:ByteArray) (l:List (ByteArray)):Fn 69 [.d (.slice 1 (l.map encT)),elS y] (fun r=>r = .d (.int .i64 (idxF (fun x=>eqS x y) l))):=by
 refine fnp_enter' _ Tryz.func69 rfl rfl (by kernel_rfl) ?_
 intro O w0 E0 β0
 refine dw_len_map (t:=0) rfl fun hb=>?_
 repeat' (first|refine z0 ?_|apply ds_nil|apply dw_seq2|refine z16 ?_|apply dw_block|apply thenD_n)
 refine ds_loop (ι:=Nat) (fun i=>⟨0,[(0,.d (.slice 1 (l.map encT))),(1,.d (.str y)),(7,.d (.int .i64 l.length)),(8,.d (.int .i64 i))],[]⟩)
  (fun i=>i≤l.length∧∀ j (hj:j < l.length),j < i→eqS l[j] y=false) (fun i=>l.length - i) 0 ⟨Nat.zero_le _,fun j _ h=>absurd h (Nat.not_lt_zero j)⟩
  (ent_ren id ⟨rfl,rfl,by simp;rfl,rfl,trivial⟩ trivial rfl rfl rfl rfl rfl rfl) ?_
 rintro i ⟨h1,h2⟩
 repeat' (first|refine z0 ?_|apply ds_nil|apply dw_seq2|refine z16 ?_|apply thenD_n)
 refine dw_condP rfl (fun h=>?_) (fun h=>?_)
 ·have hi:i < l.length:=by omega
  repeat' (first|refine z0 ?_|apply ds_nil|apply dw_seq2|refine z16 ?_|apply dw_block|apply dw_skip|apply thenD_n)
  refine dw_cond rfl (fun hb=>?_) (fun hb=>?_)
  ·repeat' (first|refine z0 ?_|apply ds_nil|apply dw_seq2|refine z16 ?_|apply dw_ret|apply thenD_n|apply thenD_r|apply inB_r)
   exact ret_i rfl (idxF_hit (p:=fun x=>eqS x y) h2 hi (id hb)).symm
  ·repeat' (first|refine z0 ?_|apply ds_nil|refine z16 ?_|apply dw_skip|apply thenD_n|apply inB_n)
   exact⟨i + 1,⟨hi,none_step (p:=fun x=>eqS x y) h2 hi (id hb)⟩,ent_ren id ⟨rfl,rfl,rfl,rfl,trivial⟩ trivial rfl rfl rfl rfl rfl rfl,by omega⟩
 ·repeat' (first|refine z0 ?_|apply ds_nil|apply dw_seq2|refine z16 ?_|apply dw_exit|apply dw_ret|apply thenD_n|apply thenD_e|refine z17 ?_|fail)
  exact ret_i rfl (idxF_none fun j hj=>h2 j hj (by omega)).symm
set_option maxHeartbeats 8000000 in
theorem indexB_fn (y:Bool) (l:List (Bool)):Fn 71 [.d (.slice 1 (l.map encBl)),elB y] (fun r=>r = .d (.int .i64 (idxF (fun x=>eqB x y) l))):=by
 refine fnp_enter' _ Tryz.func71 rfl rfl (by kernel_rfl) ?_
 intro O w0 E0 β0
 refine dw_len_map (t:=0) rfl fun hb=>?_
 repeat' (first|refine z0 ?_|apply ds_nil|apply dw_seq2|refine z16 ?_|apply dw_block|apply thenD_n)
 refine ds_loop (ι:=Nat) (fun i=>⟨0,[(0,.d (.slice 1 (l.map encBl))),(1,.d (.bool y)),(7,.d (.int .i64 l.length)),(8,.d (.int .i64 i))],[]⟩)
  (fun i=>i≤l.length∧∀ j (hj:j < l.length),j < i→eqB l[j] y=false) (fun i=>l.length - i) 0 ⟨Nat.zero_le _,fun j _ h=>absurd h (Nat.not_lt_zero j)⟩
  (ent_ren id ⟨rfl,rfl,by simp;rfl,rfl,trivial⟩ trivial rfl rfl rfl rfl rfl rfl) ?_
 rintro i ⟨h1,h2⟩
 repeat' (first|refine z0 ?_|apply ds_nil|apply dw_seq2|refine z16 ?_|apply thenD_n)
 refine dw_condP rfl (fun h=>?_) (fun h=>?_)
 ·have hi:i < l.length:=by omega
  repeat' (first|refine z0 ?_|apply ds_nil|apply dw_seq2|refine z16 ?_|apply dw_block|apply dw_skip|apply thenD_n)
  refine dw_cond rfl (fun hb=>?_) (fun hb=>?_)
  ·repeat' (first|refine z0 ?_|apply ds_nil|apply dw_seq2|refine z16 ?_|apply dw_ret|apply thenD_n|apply thenD_r|apply inB_r)
   exact ret_i rfl (idxF_hit (p:=fun x=>eqB x y) h2 hi (id hb)).symm
  ·repeat' (first|refine z0 ?_|apply ds_nil|refine z16 ?_|apply dw_skip|apply thenD_n|apply inB_n)
   exact⟨i + 1,⟨hi,none_step (p:=fun x=>eqB x y) h2 hi (id hb)⟩,ent_ren id ⟨rfl,rfl,rfl,rfl,trivial⟩ trivial rfl rfl rfl rfl rfl rfl,by omega⟩
 ·repeat' (first|refine z0 ?_|apply ds_nil|apply dw_seq2|refine z16 ?_|apply dw_exit|apply dw_ret|apply thenD_n|apply thenD_e|refine z17 ?_|fail)
  exact ret_i rfl (idxF_none fun j hj=>h2 j hj (by omega)).symm
set_option maxHeartbeats 8000000 in
theorem containsS_fn (y:ByteArray) (l:List ByteArray):Fn 45 [.d (.slice 1 (l.map encT)),.d (.str y)] (fun r=>r = .d (.bool (l.any fun x=>eqS x y))):=by
 refine fnp_enter' _ Tryz.func45 rfl rfl (by kernel_rfl) ?_
 intro O w0 E0 β0
 have hx:=indexS_fn y l
 repeat' (first|refine z0 ?_|apply ds_nil|apply dw_seq2|refine z16 ?_|apply dw_ret|apply thenD_n|refine z21 ?_ (hc:=by apply hx)|fail)
 exact ret_b rfl (idxF_any _ l)
set_option maxHeartbeats 8000000 in
theorem containsB_fn (y:Bool) (l:List Bool):Fn 48 [.d (.slice 1 (l.map encBl)),.d (.bool y)] (fun r=>r = .d (.bool (l.any fun x=>eqB x y))):=by
 refine fnp_enter' _ Tryz.func48 rfl rfl (by kernel_rfl) ?_
 intro O w0 E0 β0
 have hx:=indexB_fn y l
 repeat' (first|refine z0 ?_|apply ds_nil|apply dw_seq2|refine z16 ?_|apply dw_ret|apply thenD_n|refine z21 ?_ (hc:=by apply hx)|fail)
 exact ret_b rfl (idxF_any _ l)
def wordsL:List ByteArray:=[⟨#[110,111,116]⟩,⟨#[99,111,117,110,116]⟩,⟨#[115,117,109]⟩,⟨#[108,101,97,115,116]⟩,⟨#[109,111,115,116]⟩]
def wordB (s:ByteArray):Bool:=wordsL.any fun x=>eqS x s
def nameS (s:ByteArray):Bool:=oneS 1 s && !wordB s
set_option maxHeartbeats 8000000 in
theorem words_fn:Fn 68 [] (fun r=>r = .d (.slice 1 (wordsL.map encT))):=by
 refine fnp_enter' _ Tryz.func68 rfl rfl (by kernel_rfl) ?_
 intro O w0 E0 β0
 repeat' (first|refine z0 ?_|apply ds_nil|apply dw_seq2|refine z16 ?_|apply dw_ret|apply thenD_n|refine z4 ?_|fail)
 exact⟨.inl rfl,_,rfl,rfl,rfl⟩
set_option maxHeartbeats 8000000 in
theorem tokenName_fn (s:ByteArray):Fn 67 [.d (.str s)] (fun r=>r = .d (.bool (oneS 1 s))):=by
 refine fnp_enter' _ Tryz.func67 rfl rfl (by kernel_rfl) ?_
 intro O w0 E0 β0
 repeat' (first|refine z0 ?_|apply ds_nil|apply dw_seq2|refine z16 ?_|apply dw_ret|apply thenD_n|refine z21 ?_ (hc:=by apply one_fn)|fail)
 exact ret_b rfl rfl
set_option maxHeartbeats 8000000 in
theorem treeName_fn (s:ByteArray):Fn 44 [.d (.str s)] (fun r=>r = .d (.bool (nameS s))):=by
 refine fnp_enter' _ Tryz.func44 rfl rfl (by kernel_rfl) ?_
 intro O w0 E0 β0
 have h1:=containsS_fn s wordsL
 have h2:=tokenName_fn s
 unfold nameS wordB
 repeat' (first|refine z0 ?_|refine z12 ?_|apply ds_nil|apply dw_seq2|refine z16 ?_|apply dw_ret|apply thenD_n|refine z21 ?_ (hc:=by apply h1)|refine z21 ?_ (hc:=by apply h2)|refine z21 ?_ (hc:=by apply words_fn)|((fail_if_success (apply ds_known;exact rfl));apply ds_guardB;exact rfl;exact rfl;exact rfl;all_goals intro hg))
 all_goals exact ret_b rfl (by simp_all)
set_option maxHeartbeats 8000000 in
theorem preds_fn (p:Prg) (hl:p.names.length=p.arity.length):Fn 22 [elPrg p] (fun r=>r = .d (.int .i64 (firstI (nameE nameS p) 0 p.names.length))):=by
 refine fnp_enter' _ Tryz.func22 rfl rfl (by kernel_rfl) ?_
 intro O w0 E0 β0
 have la:(p.arity.map encI).length=p.arity.length:=List.length_map _
 have lb:(p.names.map encT).length=p.names.length:=List.length_map _
 refine dw_lenA 0 1 rfl rfl (fun hk=>?_)
 repeat' (first|refine z0 ?_|apply ds_nil|apply dw_seq2|refine z16 ?_|apply dw_block|apply thenD_n|refine z1 ?_|fail)
 refine ds_loop (ι:=Nat) (fun i=>⟨1,[(1,.loc 0 0),(2,.d (.int .i64 0)),(6,.d (.slice 1 (p.names.map encT))),(7,.d (.int .i64 (p.names.map encT).length)),(8,.d (.int .i64 i))],[(0,.blk 26 [.d (.slice 1 (p.arity.map encI)),.d (.slice 1 (p.names.map encT)),.d (.slice 5 (p.rules.map encRul))])]⟩)
  (fun i=>i≤p.names.length∧firstI (nameE nameS p) 0 p.names.length=firstI (nameE nameS p) i (p.names.length - i)) (fun i=>p.names.length - i) 0 ⟨Nat.zero_le _,rfl⟩ (ent_ren id ⟨rfl,rfl,rfl,rfl,rfl,trivial⟩ ⟨rfl,trivial⟩ rfl rfl rfl rfl rfl rfl) ?_
 rintro i ⟨g1,g2⟩
 by_cases hi:i < p.names.length
 ·have ha:p.arity.getD i 0=p.arity[i]'(by omega):=by rw [List.getD,List.getElem?_eq_getElem (by omega)];rfl
  have hn:p.names.getD i ⟨#[]⟩=p.names[i]:=by rw [List.getD,List.getElem?_eq_getElem hi];rfl
  rw [firstI_step hi,show nameE nameS p i=if inR (p.arity.getD i 0) 0 3=false then 3 else if nameS (p.names.getD i ⟨#[]⟩)=false then 1 else if (p.names.take i).any (fun s=>decide (s=p.names.getD i ⟨#[]⟩)) then 6 else 0 from rfl,ha,hn] at g2
  have hc:=containsS_fn p.names[i] (p.names.take i)
  have hq:(p.names.take i).any (fun s=>decide (s=p.names[i]))=(p.names.take i).any (fun x=>eqS x p.names[i]):=by
   congr 1
   funext x
   unfold eqS
   exact decide_eq_decide.2 eq_comm
  rw [hq] at g2
  generalize (p.names.take i).any (fun x=>eqS x p.names[i])=bc at g2 hc
  repeat' (first|(apply ds_slD;exact rfl;exact rfl;exact rfl;exact rfl;exact rfl;exact rfl;(refine⟨?_,?_,?_⟩ <;> (omega));((with_reducible apply hv_take);(exact rfl));exact rfl;exact rfl)|refine z0 ?_|apply ds_nil|apply dw_seq2|refine z16 ?_|apply dw_block|apply dw_skip|apply dw_exit|apply dw_ret|apply thenD_n|apply thenD_e|apply thenD_r|apply inB_n|apply inB_r|refine z17 ?_|refine z21 ?_ (hc:=by apply swithin_fn)|refine z21 ?_ (hc:=by apply treeName_fn)|refine z21 ?_ (hc:=by apply hc)|(refine z23 ?_ ?_ <;> intro hg)|(apply dw_cond;exact rfl;all_goals intro hg))
  all_goals first
   | exact absurd hg (by omega)
   | exact ret_i rfl (by rw [g2];simp_all)
   | exact⟨i + 1,⟨by omega,by rw [g2];simp_all⟩,ent_ren id ⟨rfl,rfl,rfl,rfl,rfl,trivial⟩ ⟨rfl,trivial⟩ rfl rfl rfl rfl rfl rfl,by show p.names.length - (i + 1) < p.names.length - i;omega⟩
 ·rw [firstI_end (by omega)] at g2
  repeat' (first|(apply ds_slD;exact rfl;exact rfl;exact rfl;exact rfl;exact rfl;exact rfl;(refine⟨?_,?_,?_⟩ <;> (omega));((with_reducible apply hv_take);(exact rfl));exact rfl;exact rfl)|refine z0 ?_|apply ds_nil|apply dw_seq2|refine z16 ?_|apply dw_block|apply dw_skip|apply dw_exit|apply dw_ret|apply thenD_n|apply thenD_e|apply thenD_r|apply inB_r|refine z17 ?_|refine z21 ?_ (hc:=by apply swithin_fn)|refine z21 ?_ (hc:=by apply treeName_fn)|(refine z23 ?_ ?_ <;> intro hg)|(apply dw_cond;exact rfl;all_goals intro hg))
  all_goals first
   | exact absurd hg (by omega)
   | exact ret_i rfl g2.symm
structure TTm where
 var:ByteArray
 n:Int
structure TLt where
 kind:Int
 at_:Int
 op:Int
 name:ByteArray
 terms:List TTm
structure TRu where
 at_:Int
 name:ByteArray
 terms:List TTm
 fold:Int
 body:List TLt
def hereT (l:List Tok) (e:Int) (i:Nat):Int:=match l[i]? with
 | some t=>t.at_
 | none=>e
def seesT (l:List Tok) (i:Nat) (s:ByteArray):Bool:=match l[i]? with
 | some t=>decide (t.text=s)
 | none=>false
abbrev PR (α:Type):=Except Nat (α × Nat)
def foldsT:List ByteArray:=wordsL.drop 1
def opsT:List ByteArray:=[⟨#[60]⟩,⟨#[60,61]⟩,⟨#[61]⟩,⟨#[33,61]⟩,⟨#[43]⟩,⟨#[45]⟩,⟨#[42]⟩]
def numT (s:ByteArray):Int:=s.data.toList.foldl (fun n c=>10 * n + ((c.toNat:Int) - 48)) 0
def nameT (l:List Tok) (i:Nat):PR ByteArray:=match l[i]? with
 | some t=>if nameS t.text then .ok (t.text,i + 1) else .error i
 | none=>.error i
def termT (l:List Tok) (i:Nat):PR TTm :=
 let neg:=seesT l i ⟨#[45]⟩
 let j:=match neg with|true=>i + 1|false=>i
 match l[j]? with
 | none=>.error j
 | some t=>if t.kind=2∧neg=false then .ok (⟨t.text,0⟩,j + 1)
  else if t.kind≠3∨(neg=true∧t.text=⟨#[48]⟩) then .error j
  else .ok (⟨⟨#[]⟩,(match neg with|true=>-1|false=>1) * numT t.text⟩,j + 1)
def firstT (l:List Tok) (i:Nat):List ByteArray→Int→Int
 | [],_=>0
 | s::ss,n=>if seesT l i s then n else firstT l i ss (n + 1)
def termsGo (l:List Tok) (head:Bool):Nat→Nat→List TTm→PR (List TTm × Int)
 | 0,i,_=>.error i
 | n + 1,i,acc =>
  let f:=match head with|true=>firstT l i foldsT 1|false=>0
  match termT l (if f≠0 then i + 1 else i) with
  | .error k=>.error k
  | .ok (t,k) =>
   if f≠0∨seesT l k ⟨#[44]⟩=false then
    (if seesT l k ⟨#[41]⟩ then .ok ((acc++[t],f),k + 1) else .error k)
   else termsGo l head n (k + 1) (acc++[t])
def termsT (l:List Tok) (i:Nat) (head:Bool):PR (List TTm × Int) :=
 if seesT l i ⟨#[40]⟩ then
  (if seesT l (i + 1) ⟨#[41]⟩ then .ok (([],0),i + 2) else termsGo l head (l.length + 1) (i + 1) [])
 else .error i
def firstQ (l:List Tok) (ws:List ByteArray) (j q:Nat):Int:=firstT l j (ws.drop q) (q + 1)
theorem firstQ_step (l:List Tok) (ws:List ByteArray) (j q:Nat) (h:q < ws.length):firstQ l ws j q=if seesT l j ws[q]=true then ((q:Int) + 1) else firstQ l ws j (q + 1):=by
 unfold firstQ
 rw [List.drop_eq_getElem_cons h,firstT]
 rfl
theorem firstQ_end (l:List Tok) (ws:List ByteArray) (j q:Nat) (h:ws.length≤q):firstQ l ws j q=0:=by
 unfold firstQ
 rw [List.drop_of_length_le h]
 rfl
theorem firstQ_bound (l:List Tok) (ws:List ByteArray) (j:Nat):∀ (n q:Nat),ws.length≤q + n→0≤firstQ l ws j q∧firstQ l ws j q≤ws.length
 | 0,q,h=>by rw [firstQ_end l ws j q (by omega)];exact⟨Int.le_refl _,by omega⟩
 | n + 1,q,h=>by
  by_cases hq:q < ws.length
  ·rw [firstQ_step l ws j q hq]
   split
   ·omega
   ·exact firstQ_bound l ws j n (q + 1) (by omega)
  ·rw [firstQ_end l ws j q (by omega)];exact⟨Int.le_refl _,by omega⟩
def testT (l:List Tok) (i:Nat):PR (Int × Int × List TTm) :=
 match termT l i with
 | .error k=>.error k
 | .ok (a,k) =>
  if firstQ l opsT k 0=0 then .error k else
  match termT l (k + 1) with
  | .error m=>.error m
  | .ok (b,m) =>
   if firstQ l opsT k 0 < 5 then .ok ((3,firstQ l opsT k 0,[a,b]),m)
   else if seesT l m ⟨#[61]⟩ then
    (match termT l (m + 1) with
    | .error q=>.error q
    | .ok (c,q)=>.ok ((4,firstQ l opsT k 0,[a,b,c]),q))
   else .error m
def isTestT (l:List Tok) (j:Nat):Bool:=match l[j]? with
 | none=>true
 | some t=>decide (t.kind≠1)
def litT (l:List Tok) (e:Int) (i:Nat):PR TLt :=
 match seesT l i ⟨#[110,111,116]⟩ with
 | true=>(match nameT l (i + 1) with
  | .error k=>.error k
  | .ok (s,k)=>(match termsT l k false with
   | .error m=>.error m
   | .ok ((ts,_),m)=>.ok (⟨2,hereT l e i,0,s,ts⟩,m)))
 | false=>(match isTestT l i with
  | true=>(match testT l i with
   | .error k=>.error k
   | .ok ((kind,op,ts),k)=>.ok (⟨kind,hereT l e i,op,⟨#[]⟩,ts⟩,k))
  | false=>(match nameT l i with
   | .error k=>.error k
   | .ok (s,k)=>(match termsT l k false with
    | .error m=>.error m
    | .ok ((ts,_),m)=>.ok (⟨1,hereT l e i,0,s,ts⟩,m))))
def litsGo (l:List Tok) (e:Int):Nat→Nat→List TLt→PR (List TLt)
 | 0,i,_=>.error i
 | n + 1,i,acc=>match litT l e i with
  | .error k=>.error k
  | .ok (x,k)=>if seesT l k ⟨#[44]⟩ then litsGo l e n (k + 1) (acc++[x]) else .ok (acc++[x],k)
def ruleT (l:List Tok) (e:Int) (i:Nat):PR TRu :=
 match nameT l i with
 | .error k=>.error k
 | .ok (s,k)=>match termsT l k true with
  | .error m=>.error m
  | .ok ((ts,f),m) =>
   if f=0∧seesT l m ⟨#[46]⟩=true then .ok (⟨hereT l e i,s,ts,f,[]⟩,m + 1)
   else if seesT l m ⟨#[58,45]⟩ then
    (match litsGo l e (l.length + 1) (m + 1) [] with
    | .error q=>.error q
    | .ok (b,q)=>if seesT l q ⟨#[46]⟩ then .ok (⟨hereT l e i,s,ts,f,b⟩,q + 1) else .error q)
   else .error m
def rulesGo (l:List Tok) (e:Int):Nat→Nat→List TRu→Except Nat (List TRu)
 | 0,_,acc=>.ok acc
 | n + 1,i,acc=>if i < l.length then
   (match ruleT l e i with
   | .error k=>.error k
   | .ok (r,k)=>rulesGo l e n k (acc++[r]))
  else .ok acc
def tmOk (t:TTm):Bool:=if t.var=⟨#[]⟩ then decide (-9999999≤t.n) && decide (t.n≤9999999) else oneS 2 t.var && decide (t.n=0)
def tmsOk (l:List TTm):Bool:=l.all tmOk
def tlOk (x:TLt):Bool:=tmsOk x.terms &&
 (if x.kind=1∨x.kind=2 then decide (x.op=0) && nameS x.name
 else if x.kind=3 then decide (1≤x.op∧x.op≤4) && decide (x.name=⟨#[]⟩) && decide (x.terms.length=2)
 else if x.kind=4 then decide (5≤x.op∧x.op≤7) && decide (x.name=⟨#[]⟩) && decide (x.terms.length=3)
 else false)
def truOk (r:TRu):Bool:=nameS r.name && tmsOk r.terms && decide (0≤r.fold∧r.fold≤4) && (decide (r.fold=0) || (decide (r.terms≠[]) && decide (r.body≠[]))) && r.body.all tlOk
def muchT (r:TRu):Bool:=decide (3 < r.terms.length) || decide (4 < r.body.length) || r.body.any fun x=>decide (3 < x.terms.length)
def checkT (rs:List TRu):Int:=if 12 < rs.length∨rs.any muchT=true then 2 else if rs.all truOk=true then 0 else 1
def parseS (s:ByteArray):List TRu × Int × Int :=
 match scanS s with
 | (l,p,er)=>if er≠0 then ([],p,er) else
  match rulesGo l s.size (l.length + 1) 0 [] with
  | .error k=>([],hereT l s.size k,1)
  | .ok rs=>if checkT rs=0 then (rs,0,0) else ([],0,checkT rs)
abbrev FnW (f:FuncId) (args:List SV) (J k:Nat) (H:Hp) (R:Nat→SV→Hp→Prop):Prop:=FnOk false Tryz.prog tab tab_ok f args J k H R
abbrev bsH (bs:List Bool):Hp:=[(0,.blk 84 [.row 1]),(1,.row 4 1 (bs.map encBl))]
theorem isT_pos {bs:List Bool} {t:Trm} (h:t.var < 0):isT bs t=true:=by unfold isT;rw [decide_eq_true h];rfl
theorem isT_neg {bs:List Bool} {t:Trm} (h:¬ t.var < 0) (h2:t.var < (bs.length:Int)):isT bs t=bs[t.var.toNat]'(by omega):=by
 unfold isT
 rw [decide_eq_false h,Bool.false_or,List.getD,List.getElem?_eq_getElem (by omega)];rfl
set_option maxHeartbeats 8000000 in
theorem isFn (bs:List Bool) (t:Trm) (hok:okT bs.length t):FnW 72 [elTrm t,.loc 0 0] 1 2 (bsH bs) (fun k2 res H2=>k2=2∧res = .d (.bool (isT bs t))∧H2=bsH bs):=by
 refine fn_enterR _ Tryz.func72 rfl rfl (by kernel_rfl) ?_
 intro O w0 E0 β0
 have la:(bs.map encBl).length=bs.length:=List.length_map _
 unfold okT at hok
 by_cases hneg:t.var < 0
 ·rw [isT_pos hneg]
  repeat' (first|refine z0 ?_|refine z12 ?_|apply ds_nil|apply dw_seq2|refine z16 ?_|apply dw_ret|apply thenD_n|refine z1 ?_|((fail_if_success (apply ds_known;exact rfl));apply ds_guardP;exact rfl;exact rfl;exact rfl;all_goals intro hg))
  ·exact⟨.inl rfl,_,rfl,id,2,.d (.bool true),bsH bs,rfl,⟨rfl,rfl,trivial⟩,rfl,rfl,rfl,rfl,rfl,rfl,rfl,rfl,rfl⟩
  all_goals exact absurd hneg hg
 ·rw [isT_neg hneg hok]
  repeat' (first|refine z0 ?_|refine z12 ?_|apply ds_nil|apply dw_seq2|refine z16 ?_|apply dw_ret|apply thenD_n|refine z1 ?_|((fail_if_success (apply ds_known;exact rfl));apply ds_guardP;exact rfl;exact rfl;exact rfl;all_goals intro hg))
  ·exact absurd hg hneg
  all_goals exact⟨.inl rfl,_,rfl,id,2,.d (.bool _),bsH bs,rfl,⟨rfl,rfl,trivial⟩,rfl,rfl,rfl,rfl,rfl,rfl,rfl,rfl,rfl⟩
def Fl (b0 bs:List Bool) (ch:Bool):Prop:=bs.length=b0.length∧bs.count false≤b0.count false∧(ch=false→bs=b0)∧(ch=true→bs.count false < b0.count false)
theorem Fl.refl (b0:List Bool):Fl b0 b0 false:=⟨rfl,Nat.le_refl _,fun _=>rfl,fun h=>by cases h⟩
theorem count_set:∀ {bs:List Bool} {i:Nat} (_:i < bs.length),bs[i]? = some false→(bs.set i true).count false + 1=bs.count false
 | [],_,h,_=>by simp at h
 | b::bs,0,_,hb=>by simp at hb;subst hb;simp
 | b::bs,i + 1,h,hb=>by
  have:=count_set (bs:=bs) (i:=i) (by simpa using h) (by simpa using hb)
  rw [List.set_cons_succ,List.count_cons,List.count_cons]
  omega
theorem setT_count {bs:List Bool} {t:Trm} (hok:okT bs.length t) (h:isT bs t=false):(setT bs t).count false + 1=bs.count false∧¬ t.var < 0:=by
 have hn:¬ t.var < 0:=fun hn=>by rw [isT_pos hn] at h;cases h
 unfold okT at hok
 rw [isT_neg hn hok] at h
 unfold setT
 rw [if_neg hn]
 exact⟨count_set (by omega) (by rw [List.getElem?_eq_getElem (by omega),h]),hn⟩
theorem Fl.step {b0 bs:List Bool} {ch:Bool} {t:Trm} (h:Fl b0 bs ch) (hok:okT bs.length t):Fl b0 (setT bs t) (ch || !isT bs t):=by
 obtain⟨h1,h2,h3,h4⟩:=h
 cases ht:isT bs t with
 | true=>rw [setT_same ht,Bool.not_true,Bool.or_false];exact⟨h1,h2,h3,h4⟩
 | false =>
  obtain⟨g1,_⟩:=setT_count hok ht
  rw [Bool.not_false,Bool.or_true]
  exact⟨by rw [setT_len,h1],by omega,fun h=>by (cases h),fun _=>by omega⟩
abbrev ruleB (r:Rul):HB:=.blk 48 [.d (.int .i64 r.pred),.d (.slice 2 (r.terms.map encTrm)),.d (.int .i64 r.fold),.d (.slice 4 (r.body.map encLtl)),.d (.int .i64 r.vars)]
abbrev bndH (r:Rul) (bs:List Bool):Hp:=[(0,ruleB r),(1,.row 4 1 (bs.map encBl)),(2,.blk 84 [.row 1])]
abbrev bndL (ch:Bool):Sl:=[(1,.loc 0 0),(2,.nils),(3,.loc 2 0),(4,.fn 72 [.loc 2 0]),(5,.d (.bool ch))]
theorem fires4 {bs:List Bool} {l:Ltl} (k1:¬ l.kind=1) (k4:l.kind=4) (h:l.terms.length=3):firesB bs l=(isT bs (l.terms[0]'(by omega)) && isT bs (l.terms[1]'(by omega))):=by
 unfold firesB
 rw [decide_eq_false k1,decide_eq_true k4]
 obtain⟨kind,op,pred,terms⟩:=l
 dsimp only at h ⊢
 match terms,h with
 | [a,b,c],_=>simp
theorem litTs_sub {l:Ltl} {t:Trm} (h:t∈litTs l):t∈l.terms:=by
 unfold litTs at h
 split at h
 ·exact h
 ·exact List.mem_of_mem_drop h
theorem foldl_take {α β:Type} (f:β→α→β) (b:β) {l:List α} {i:Nat} (h:i < l.length):(l.take (i + 1)).foldl f b=f ((l.take i).foldl f b) l[i]:=by
 rw [List.take_succ_eq_append_getElem h,List.foldl_append];rfl
theorem bLits_len:∀ (l:List Ltl) (bs:List Bool),(l.foldl bLit bs).length=bs.length:=bRound_len
set_option maxHeartbeats 8000000 in
theorem bound_fn (r:Rul) (h0:0≤r.vars) (h8:r.vars≤8) (hok:∀ l∈r.body,∀ t∈l.terms,okT r.vars.toNat t) (h3:∀ l∈r.body,l.kind=4→l.terms.length=3) :
  Fn 49 [elRul r] (fun res=>res = .d (.slice 1 ((boundL r).map encBl))):=by
 refine fnp_enter' _ Tryz.func49 rfl rfl (by kernel_rfl) ?_
 intro O w0 E0 β0
 have lb:(r.body.map encLtl).length=r.body.length:=List.length_map _
 refine dw_lenA 0 3 rfl rfl (fun hk=>?_)
 repeat' (first|refine z0 ?_|apply ds_nil|apply dw_seq2|refine z16 ?_|apply thenD_n|refine z1 ?_|fail)
 refine ds_mk ((List.replicate r.vars.toNat false).map encBl) rfl rfl (Int.toNat_of_nonneg h0).symm rfl rfl rfl rfl rfl rfl (by show 1 * _≤_;omega) (by unfold maxLen;omega) (by rw [List.map_replicate];rfl) rfl rfl ?_
 repeat' (first|refine z0 ?_|apply ds_nil|apply dw_seq2|refine z16 ?_|apply dw_block|apply thenD_n|refine z1 ?_|refine z3 ?_|fail)
 refine ds_loop (ι:=Bool × List Bool × Nat) (fun x=>⟨3,bndL x.1,bndH r x.2.1⟩)
  (fun x=>x.2.1=bIter r.body x.2.2 (List.replicate r.vars.toNat false)∧(x.1=false→bRound r.body x.2.1=x.2.1)) (fun x=>2 * x.2.1.count false + (if x.1 then 1 else 0))
  (true,List.replicate r.vars.toNat false,0) ⟨rfl,fun h=>by cases h⟩ (ent_ren id ⟨rfl,rfl,rfl,rfl,rfl,trivial⟩ ⟨rfl,rfl,rfl,trivial⟩ rfl rfl rfl rfl rfl rfl) ?_
 rintro⟨ch,b0,m⟩ ⟨g1,g2⟩
 dsimp only at g1 g2 ⊢
 have hlen:b0.length=r.vars.toNat:=by rw [g1,bIter_len,List.length_replicate]
 cases ch with
 | false =>
  repeat' (first|refine z0 ?_|apply ds_nil|apply dw_seq2|refine z16 ?_|apply dw_exit|refine z19 ?_|apply thenD_n|apply thenD_e|refine z17 ?_|fail)
  refine dw_ent (ent_seal 2 rfl rfl rfl) ?_
  repeat' (apply dw_ret)
  have hb:b0=boundL r:=by
   rw [g1]
   exact rest_is (fun l hl t ht=>hok l hl t (litTs_sub ht)) (g1▸g2 rfl)
  rw [← hb]
  exact⟨.inl rfl,_,rfl,rfl,rfl⟩
 | true =>
  repeat' (first|refine z0 ?_|apply ds_nil|apply dw_seq2|refine z16 ?_|apply dw_block|apply dw_skip|refine z18 ?_|apply thenD_n)
  refine ds_loop (ι:=Nat × List Bool × Bool) (fun x=>⟨3,(17,.d (.slice 4 (r.body.map encLtl)))::(18,.d (.int .i64 (r.body.map encLtl).length))::(19,.d (.int .i64 x.1))::bndL x.2.2,bndH r x.2.1⟩)
   (fun x=>x.1≤r.body.length∧x.2.1=(r.body.take x.1).foldl bLit b0∧Fl b0 x.2.1 x.2.2) (fun x=>r.body.length - x.1)
   (0,b0,false) ⟨Nat.zero_le _,rfl,Fl.refl b0⟩ (ent_ren id ⟨rfl,rfl,rfl,rfl,rfl,rfl,rfl,rfl,trivial⟩ ⟨rfl,rfl,rfl,trivial⟩ rfl rfl rfl rfl rfl rfl) ?_
  rintro⟨i,bs,ch⟩ ⟨f1,f2,f3⟩
  dsimp only at f1 f2 f3 ⊢
  have hbl:bs.length=r.vars.toNat:=by rw [f2,bLits_len,hlen]
  by_cases hi:i < r.body.length
  ·have hlok:=hok r.body[i] (List.getElem_mem hi)
   have h3':=h3 r.body[i] (List.getElem_mem hi)
   have hf:bLit bs r.body[i]=(r.body.take (i + 1)).foldl bLit b0:=by rw [foldl_take bLit b0 hi,← f2]
   repeat' ((fail_if_success (apply dw_stop 4));(first|refine z0 ?_|apply ds_nil|apply dw_seq2|refine z16 ?_|apply dw_block|apply dw_skip|apply dw_exit|apply thenD_n|apply thenD_e|apply inB_n|refine z17 ?_|refine z1 ?_|refine z3 ?_|(refine z23 ?_ ?_ <;> intro hg)|fail))
   ·generalize r.body[i]=l at hlok h3' hf ⊢
    refine dw_cut (ι:=List Trm) (fun ts=>⟨4,(8,.d (.slice 2 (ts.map encTrm)))::(17,.d (.slice 4 (r.body.map encLtl)))::(18,.d (.int .i64 (r.body.map encLtl).length))::(19,.d (.int .i64 i))::bndL ch,bndH r bs⟩) (fun ts=>ts=if firesB bs l then litTs l else []) ?_ ?_
    ·have ll:(l.terms.map encTrm).length=l.terms.length:=List.length_map _
     by_cases k1:l.kind=1
     ·repeat' (first|refine z0 ?_|refine z12 ?_|apply ds_nil|apply dw_seq2|refine z16 ?_|apply dw_block|apply dw_skip|refine z19 ?_|apply thenD_n|apply inB_n|(refine z23 ?_ ?_ <;> intro hg)|((fail_if_success (apply ds_known;exact rfl));apply ds_guardP;exact rfl;exact rfl;exact rfl;all_goals intro hg))
      ·exact⟨l.terms,by unfold firesB litTs;simp [k1],ent_ren id ⟨rfl,rfl,rfl,rfl,rfl,rfl,rfl,rfl,rfl,trivial⟩ ⟨rfl,rfl,rfl,trivial⟩ rfl rfl rfl rfl rfl rfl⟩
      all_goals (exfalso;omega)
     ·by_cases k4:l.kind=4
      ·have h3l:=h3' k4
       have hlok':∀ t∈l.terms,okT bs.length t:=by rw [hbl];exact hlok
       have hf4:=fires4 (bs:=bs) k1 k4 h3l
       have hl4:litTs l=l.terms.drop 2:=by unfold litTs;rw [if_neg k1]
       repeat' (first|refine z0 ?_|refine z12 ?_|apply ds_nil|apply dw_seq2|refine z16 ?_|apply dw_block|apply dw_skip|refine z19 ?_|apply thenD_n|apply inB_n|(refine z23 ?_ ?_ <;> intro hg)|((fail_if_success (apply ds_known;exact rfl));apply ds_guardP;exact rfl;exact rfl;exact rfl;all_goals intro hg))
       all_goals try (exfalso;omega)
       refine ds_callVF (fun j=>match j with|0=>2|_=>1) (isFn bs (l.terms[0]'(by omega)) (hlok' _ (List.getElem_mem _))) rfl rfl rfl rfl rfl rfl ⟨rfl,rfl,trivial⟩ rfl rfl rfl rfl rfl rfl ?_ ?_
       ·rintro k2 res H2 ⟨rfl,rfl,rfl⟩
        exact⟨rfl,rfl⟩
       rintro k2 res H2 ⟨rfl,rfl,rfl⟩
       change DS _ _ _ _ _ _ _ _
       rw [hf4]
       generalize isT bs (l.terms[0]'(by omega))=q0
       cases q0 with
       | false =>
        repeat' (first|refine z0 ?_|refine z12 ?_|apply ds_nil|apply dw_skip|refine z19 ?_|apply thenD_n|apply inB_n)
        all_goals exact⟨[],rfl,ent_trans (ent_nild 8 2 rfl) (ent_ren (fun j=>match j with|0=>0|1=>5|j=>j) ⟨rfl,rfl,rfl,rfl,rfl,rfl,rfl,rfl,rfl,trivial⟩ ⟨rfl,rfl,rfl,trivial⟩ rfl rfl rfl rfl rfl rfl)⟩
       | true =>
        repeat' refine z0 ?_
        refine ds_callVF (fun j=>match j with|0=>2|_=>5) (isFn bs (l.terms[1]'(by omega)) (hlok' _ (List.getElem_mem _))) rfl rfl rfl rfl rfl rfl ⟨rfl,rfl,trivial⟩ rfl rfl rfl rfl rfl rfl ?_ ?_
        ·rintro k2 res H2 ⟨rfl,rfl,rfl⟩
         exact⟨rfl,rfl⟩
        rintro k2 res H2 ⟨rfl,rfl,rfl⟩
        change DS _ _ _ _ _ _ _ _
        generalize isT bs (l.terms[1]'(by omega))=q1
        cases q1 with
        | false =>
         repeat' (first|refine z0 ?_|apply ds_nil|apply dw_skip|refine z19 ?_|apply thenD_n|apply inB_n)
         all_goals exact⟨[],rfl,ent_trans (ent_nild 8 2 rfl) (ent_ren (fun j=>match j with|0=>0|1=>7|j=>j) ⟨rfl,rfl,rfl,rfl,rfl,rfl,rfl,rfl,rfl,trivial⟩ ⟨rfl,rfl,rfl,trivial⟩ rfl rfl rfl rfl rfl rfl)⟩
        | true =>
         repeat' (first|(apply ds_slD;exact rfl;exact rfl;exact rfl;exact rfl;exact rfl;exact rfl;(refine⟨?_,?_,?_⟩ <;> (omega));((with_reducible apply hv_drop);(exact nat_add_2 _));exact rfl;exact rfl)|refine z0 ?_|apply ds_nil|refine z16 ?_|refine z18 ?_|apply thenD_n|apply inB_n)
         all_goals exact⟨(l.terms.take (l.terms.map encTrm).length).drop 2,by rw [List.take_of_length_le (by omega),hl4];rfl,ent_ren (fun j=>match j with|0=>0|1=>7|j=>j) ⟨rfl,rfl,rfl,rfl,rfl,rfl,rfl,rfl,rfl,trivial⟩ ⟨rfl,rfl,rfl,trivial⟩ rfl rfl rfl rfl rfl rfl⟩
      ·have hf5:firesB bs l=false:=by unfold firesB;rw [decide_eq_false k1,decide_eq_false k4];rfl
       repeat' (first|refine z0 ?_|refine z12 ?_|apply ds_nil|apply dw_seq2|refine z16 ?_|apply dw_block|apply dw_skip|refine z19 ?_|apply thenD_n|apply inB_n|(refine z23 ?_ ?_ <;> intro hg)|((fail_if_success (apply ds_known;exact rfl));apply ds_guardP;exact rfl;exact rfl;exact rfl;all_goals intro hg))
       all_goals first
        | exact absurd hg k1
        | exact absurd hg k4
        | exact⟨[],by rw [hf5];rfl,ent_trans (ent_nild 8 2 rfl) (ent_ren id ⟨rfl,rfl,rfl,rfl,rfl,rfl,rfl,rfl,rfl,trivial⟩ ⟨rfl,rfl,rfl,trivial⟩ rfl rfl rfl rfl rfl rfl)⟩
    ·rintro ts hts
     have hbs:ts.foldl setT bs=(r.body.take (i + 1)).foldl bLit b0:=by
      rw [← hf,hts]
      unfold bLit
      split <;> rfl
     have htok:∀ t∈ts,okT bs.length t:=by
      intro t ht
      rw [hbl]
      rw [hts] at ht
      split at ht
      ·exact hlok t (litTs_sub ht)
      ·simp at ht
     clear hts
     have lt:(ts.map encTrm).length=ts.length:=List.length_map _
     refine dw_len (t:=8) rfl (fun hkt=>?_)
     repeat' (first|refine z0 ?_|apply ds_nil|apply dw_seq2|refine z16 ?_|apply dw_block|apply thenD_n)
     refine ds_loop (ι:=Nat × List Bool × Bool) (fun x=>⟨4,(52,.d (.slice 2 (ts.map encTrm)))::(53,.d (.int .i64 (ts.map encTrm).length))::(54,.d (.int .i64 x.1))::(17,.d (.slice 4 (r.body.map encLtl)))::(18,.d (.int .i64 (r.body.map encLtl).length))::(19,.d (.int .i64 i))::bndL x.2.2,bndH r x.2.1⟩)
      (fun x=>x.1≤ts.length∧x.2.1=(ts.take x.1).foldl setT bs∧Fl b0 x.2.1 x.2.2) (fun x=>ts.length - x.1)
      (0,bs,ch) ⟨Nat.zero_le _,rfl,f3⟩ (ent_ren id ⟨rfl,rfl,rfl,rfl,rfl,rfl,rfl,rfl,rfl,rfl,rfl,trivial⟩ ⟨rfl,rfl,rfl,trivial⟩ rfl rfl rfl rfl rfl rfl) ?_
     rintro⟨j,bj,cj⟩ ⟨e1,e2,e3⟩
     dsimp only at e1 e2 e3 ⊢
     have hjl:bj.length=bs.length:=by rw [e2,setTs_len]
     by_cases hj:j < ts.length
     ·repeat' (first|refine z0 ?_|apply ds_nil|apply dw_seq2|refine z16 ?_|apply dw_block|apply dw_skip|apply dw_exit|apply thenD_n|apply thenD_e|apply inB_n|refine z17 ?_|refine z1 ?_|refine z3 ?_|(refine z23 ?_ ?_ <;> intro hg)|fail)
      all_goals try (exfalso;omega)
      have hq:=htok ts[j] (List.getElem_mem hj)
      rw [← hjl] at hq
      have e4:=e3.step hq
      have e5:(ts.take (j + 1)).foldl setT bs=setT bj ts[j]:=by rw [foldl_take setT bs hj,← e2]
      refine ds_callVF (fun j=>match j with|0=>2|_=>1) (isFn bj ts[j] hq) rfl rfl rfl rfl rfl rfl ⟨rfl,rfl,trivial⟩ rfl rfl rfl rfl rfl rfl ?_ ?_
      ·rintro k2 res H2 ⟨rfl,rfl,rfl⟩
       exact⟨rfl,rfl⟩
      rintro k2 res H2 ⟨rfl,rfl,rfl⟩
      change DS _ _ _ _ _ _ _ _
      have lbj:(bj.map encBl).length=bj.length:=List.length_map _
      cases hb:isT bj ts[j] with
      | true =>
       rw [hb,Bool.not_true,Bool.or_false,setT_same hb] at e4
       rw [setT_same hb] at e5
       repeat' (first|refine z0 ?_|apply ds_nil|refine z16 ?_|apply dw_skip|refine z19 ?_|apply thenD_n|apply inB_n)
       exact⟨(j + 1,bj,cj),⟨by omega,e5.symm,e4⟩,ent_ren (fun j=>match j with|0=>0|1=>6|j=>j) ⟨rfl,rfl,rfl,rfl,rfl,rfl,rfl,rfl,rfl,rfl,rfl,trivial⟩ ⟨rfl,rfl,rfl,trivial⟩ rfl rfl rfl rfl rfl rfl,by show ts.length - (j + 1) < ts.length - j;omega⟩
      | false =>
       obtain⟨_,hneg⟩:=setT_count hq hb
       have hset:setT bj ts[j]=bj.set ts[j].var.toNat true:=by unfold setT;rw [if_neg hneg]
       rw [hb,Bool.not_false,Bool.or_true,hset] at e4
       rw [hset] at e5
       unfold okT at hq
       repeat' (first|refine z0 ?_|apply ds_nil|(apply ds_stP;exact rfl;exact rfl;(apply hv_get;(omega));exact rfl;exact rfl;(exact hv_set rfl);exact rfl;exact rfl;exact rfl;exact rfl;exact rfl;exact rfl)|apply dw_seq2|refine z16 ?_|refine z18 ?_|apply thenD_n|apply inB_n)
       exact⟨(j + 1,bj.set ts[j].var.toNat true,true),⟨by omega,e5.symm,e4⟩,ent_ren (fun j=>match j with|0=>0|1=>6|j=>j) ⟨rfl,rfl,rfl,rfl,rfl,rfl,rfl,rfl,rfl,rfl,rfl,trivial⟩ ⟨rfl,rfl,rfl,trivial⟩ rfl rfl rfl rfl rfl rfl,by show ts.length - (j + 1) < ts.length - j;omega⟩
     ·repeat' (first|refine z0 ?_|apply ds_nil|apply dw_seq2|refine z16 ?_|apply dw_block|apply dw_skip|apply dw_exit|apply thenD_n|apply thenD_e|apply inB_n|refine z17 ?_|refine z1 ?_|refine z3 ?_|(refine z23 ?_ ?_ <;> intro hg)|fail)
      all_goals try (exfalso;omega)
      ·refine⟨(i + 1,bj,cj),⟨by omega,?_,e3⟩,ent_ren id ⟨rfl,rfl,rfl,rfl,rfl,rfl,rfl,rfl,trivial⟩ ⟨rfl,rfl,rfl,trivial⟩ rfl rfl rfl rfl rfl rfl,by show r.body.length - (i + 1) < r.body.length - i;omega⟩
       dsimp only
       rw [← hbs,e2,List.take_of_length_le (by omega)]
   ·exfalso;omega
  ·repeat' (first|refine z0 ?_|refine z12 ?_|apply ds_nil|apply dw_seq2|refine z16 ?_|apply dw_block|apply dw_skip|apply dw_exit|refine z19 ?_|apply thenD_n|apply thenD_e|apply inB_n|refine z17 ?_|refine z1 ?_|refine z3 ?_|(refine z23 ?_ ?_ <;> intro hg)|((fail_if_success (apply ds_known;exact rfl));apply ds_guardP;exact rfl;exact rfl;exact rfl;all_goals intro hg))
   all_goals try (exfalso;omega)
   ·refine⟨(ch,bs,m + 1),⟨?_,?_⟩,ent_ren id ⟨rfl,rfl,rfl,rfl,rfl,trivial⟩ ⟨rfl,rfl,rfl,trivial⟩ rfl rfl rfl rfl rfl rfl,?_⟩
    ·dsimp only
     rw [bIter_succ,← g1,f2,List.take_of_length_le (by omega)];rfl
    ·rintro rfl
     have hb:=f3.2.2.1 rfl
     have hr:bs=bRound r.body b0:=by rw [f2,List.take_of_length_le (by omega)];rfl
     show bRound r.body bs=bs
     rw [hb]
     rw [hb] at hr
     exact hr.symm
    ·show 2 * bs.count false + (if ch=true then 1 else 0) < 2 * b0.count false + (if true=true then 1 else 0)
     have h1:=f3.2.1
     have h2:=f3.2.2.2
     cases ch with
     | false=>simp;omega
     | true=>have:=h2 rfl;simp;omega
end Go.Proofs.YtapciiffpnociacGreatDoor
