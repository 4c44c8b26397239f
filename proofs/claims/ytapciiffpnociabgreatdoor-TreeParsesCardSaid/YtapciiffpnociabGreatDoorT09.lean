/- Several texts in one: TokR TokT TokU TokV TokW TokX TokY TokZ TokA TokB TokC TokD ScoB. Condition: none. -/
import Derived.Test.YtapciiffpnociabGreatDoorT08
namespace Go.Proofs.YtapciiffpnociabGreatDoor
open Go Go.RowKit
attribute [local irreducible] DW DS DL DQ Ev FnOk FnP thenD inBlockD DT
set_option maxHeartbeats 8000000 in
theorem between_fn (n a b:Int):Fn 28 [.d (.int .i64 n),.d (.int .i64 a),.d (.int .i64 b)] (fun r=>r = .d (.bool (decide (a≤n) && decide (n≤b)))):=by
 refine fnp_enter' _ Tryz.func28 rfl rfl (by kernel_rfl) ?_
 intro O w0 E0 β0
 repeat' (first|refine z0 ?_|refine z12 ?_|apply ds_nil|apply dw_seq2|refine z16 ?_|apply dw_ret|apply thenD_n|((fail_if_success (apply ds_known;exact rfl));apply ds_guardP;exact rfl;exact rfl;exact rfl;all_goals intro hg))
 all_goals exact ret_b rfl (by first|(simp_all;done)|(simp_all;omega))
set_option maxHeartbeats 8000000 in
theorem isSmall_fn (c:UInt8):Fn 61 [.d (.int .u8 (c.toNat:Int))] (fun r=>r = .d (.bool (smallB c))):=by
 refine fnp_enter' _ Tryz.func61 rfl rfl (by kernel_rfl) ?_
 intro O w0 E0 β0
 repeat' (first|refine z0 ?_|apply ds_nil|apply dw_seq2|refine z16 ?_|apply dw_ret|apply thenD_n|refine z21 ?_ (hc:=by apply between_fn)|fail)
 all_goals exact ret_b rfl (by unfold smallB;rfl)
set_option maxHeartbeats 8000000 in
theorem isLetter_fn (c:UInt8):Fn 93 [.d (.int .u8 (c.toNat:Int))] (fun r=>r = .d (.bool (letterB c))):=by
 refine fnp_enter' _ Tryz.func93 rfl rfl (by kernel_rfl) ?_
 intro O w0 E0 β0
 repeat' (first|refine z0 ?_|refine z12 ?_|apply ds_nil|apply dw_seq2|refine z16 ?_|apply dw_ret|apply thenD_n|refine z21 ?_ (hc:=by apply between_fn)|refine z21 ?_ (hc:=by apply isSmall_fn)|((fail_if_success (apply ds_known;exact rfl));apply ds_guardB;exact rfl;exact rfl;exact rfl;all_goals intro hg))
 all_goals exact ret_b rfl (by unfold letterB greatB;rw [hg];rfl)
set_option maxHeartbeats 8000000 in
theorem isDigit_fn (c:UInt8):Fn 94 [.d (.int .u8 (c.toNat:Int))] (fun r=>r = .d (.bool (digitB c))):=by
 refine fnp_enter' _ Tryz.func94 rfl rfl (by kernel_rfl) ?_
 intro O w0 E0 β0
 repeat' (first|refine z0 ?_|apply ds_nil|apply dw_seq2|refine z16 ?_|apply dw_ret|apply thenD_n|refine z21 ?_ (hc:=by apply between_fn)|fail)
 all_goals exact ret_b rfl (by unfold digitB;rfl)
theorem ext2 (s:ByteArray) (i:Nat) (h:i + 1 < s.size):s.extract i (i + 2)=⟨#[s[i],s[i + 1]]⟩:=by
 apply ByteArray.ext
 simp only [ByteArray.data_extract]
 apply Array.toList_inj.1
 rw [Array.toList_extract]
 have hl:s.data.toList.length=s.size:=by simp
 rw [List.extract_eq_take_drop,show i + 2 - i=2 by omega,List.drop_eq_getElem_cons (by omega),List.drop_eq_getElem_cons (by omega),byteAt _ _ (by omega),byteAt _ _ (by omega)]
 rfl
theorem pair_ext (s:ByteArray) (i:Nat) (h:i + 1 < s.size):pairB (s[i]::s.data.toList.drop (i + 1))=(decide (s.extract i (i + 2)=⟨#[58,45]⟩) || decide (s.extract i (i + 2)=⟨#[60,61]⟩) || decide (s.extract i (i + 2)=⟨#[33,61]⟩)):=by
 have hl:s.data.toList.length=s.size:=by simp
 have key:∀ a b c d:UInt8,decide ((⟨#[a,b]⟩:ByteArray)=⟨#[c,d]⟩)=(a == c && b == d):=fun a b c d=>by
  rw [Bool.eq_iff_iff];simp
 rw [ext2 s i h,key,key,key,List.drop_eq_getElem_cons (by omega),byteAt _ _ (by omega),pairB]
theorem signs_step (c:UInt8) (i:Nat) (h:i < (⟨#[40,41,44,46,60,61,43,45,42]⟩:ByteArray).size):(signs.drop i).contains c=(decide ((((⟨#[40,41,44,46,60,61,43,45,42]⟩:ByteArray)[i]'h).toNat:Int)=(c.toNat:Int)) || (signs.drop (i + 1)).contains c):=by
 have h':i < signs.length:=h
 have e:signs[i]=(⟨#[40,41,44,46,60,61,43,45,42]⟩:ByteArray)[i]'h:=byteAt _ i h
 rw [List.drop_eq_getElem_cons h',List.contains_cons,e]
 congr 1
 rw [Bool.eq_iff_iff]
 simp only [beq_iff_eq,decide_eq_true_eq]
 exact⟨fun h=>by rw [h],fun h=>(UInt8.toNat_inj.1 (by omega)).symm⟩
set_option maxHeartbeats 8000000 in
theorem tokenAt_fn (s:ByteArray) (at_:Nat) (hat:at_ < s.size) (hs:s.size≤5000) :
  Fn 59 [.d (.str s),.d (.int .i64 at_)] (fun r=>r = .tup [.d (.int .i64 (tokAt (s.data.toList.drop at_)).1),.d (.int .i64 ((tokAt (s.data.toList.drop at_)).2:Nat))]):=by
 refine fnp_enter' _ Tryz.func59 rfl rfl (by kernel_rfl) ?_
 intro O w0 E0 β0
 repeat' (first|refine z0 ?_|apply ds_nil|apply dw_seq2|refine z16 ?_|apply dw_block|apply thenD_n|refine z21 ?_ (hc:=by apply isLetter_fn)|fail)
 have hl0:s.data.toList.length=s.size:=by simp
 have htok:tokAt (s.data.toList.drop at_)=tokAt (s[at_]::s.data.toList.drop (at_ + 1)):=by
  rw [List.drop_eq_getElem_cons (by omega),byteAt]
 refine dw_cond rfl (fun hl=>?_) (fun hl=>?_)
 ·have hres:tokAt (s.data.toList.drop at_)=(if smallB s[at_] then 1 else 2,1 + takeW alnumB (s.data.toList.drop (at_ + 1))):=by
   rw [htok,tokAt_cons,if_pos hl]
  repeat' (first|apply dw_seq2|apply dw_block)
  refine ds_loop (ι:=Nat) (fun n=>⟨0,[(0,.d (.str s)),(1,.d (.int .i64 at_)),(6,.d (.int .u8 s[at_].toNat)),(7,.d (.int .i64 n))],[]⟩)
   (fun n=>1≤n∧at_ + n≤s.size∧n + takeW alnumB (s.data.toList.drop (at_ + n))=1 + takeW alnumB (s.data.toList.drop (at_ + 1))) (fun n=>s.size - n) 1 ⟨by omega,by omega,rfl⟩
   (ent_ren id ⟨rfl,rfl,rfl,rfl,trivial⟩ trivial rfl rfl rfl rfl rfl rfl) ?_
  rintro n ⟨h1,h2,h3⟩
  have hstep:(h:(at_:Int) + n < s.size)→alnumB (s[at_ + n]'(by omega))=true→n + 1 + takeW alnumB (s.data.toList.drop (at_ + (n + 1)))=1 + takeW alnumB (s.data.toList.drop (at_ + 1)):=fun h hp=>by
   have h4:=takeW_step alnumB s.data.toList (at_ + n) (by omega) (by rw [byteAt _ _ (by omega)];exact hp)
   rw [← Nat.add_assoc at_ n 1];omega
  have hstop:(h:(at_:Int) + n < s.size)→alnumB (s[at_ + n]'(by omega))=false→1 + takeW alnumB (s.data.toList.drop (at_ + 1))=n:=fun h hp=>by
   have h4:=takeW_stop alnumB s.data.toList (at_ + n) (by omega) (by rw [byteAt _ _ (by omega)];exact hp)
   omega
  have hend:¬ (at_:Int) + n < s.size→1 + takeW alnumB (s.data.toList.drop (at_ + 1))=n:=fun h=>by
   have h4:=takeW_end alnumB s.data.toList (at_ + n) (by omega)
   omega
  clear htok
  repeat' (first|refine z0 ?_|refine z12 ?_|apply ds_nil|apply dw_seq2|refine z16 ?_|apply dw_block|apply dw_skip|apply dw_exit|apply dw_ret|refine z18 ?_|refine z19 ?_|apply thenD_n|apply thenD_e|apply thenD_r|apply inB_n|apply inB_r|refine z17 ?_|refine z21 ?_ (hc:=by apply isLetter_fn)|refine z21 ?_ (hc:=by apply isDigit_fn)|refine z21 ?_ (hc:=by apply isSmall_fn)|(apply dw_cond;exact rfl;all_goals intro hg)|((fail_if_success (apply ds_known;exact rfl));apply ds_guardP;exact rfl;exact rfl;exact rfl;all_goals intro hg)|((fail_if_success (apply ds_known;exact rfl));apply ds_guardB;exact rfl;exact rfl;exact rfl;all_goals intro hg))
  all_goals first
   | (refine⟨n + 1,⟨?_,?_,?_⟩,ent_ren id ⟨rfl,rfl,rfl,rfl,trivial⟩ trivial rfl rfl rfl rfl rfl rfl,?_⟩
      ·omega
      ·omega
      ·apply hstep <;> first|assumption|(unfold alnumB;simp [*])
      ·omega)
   | (refine ret_2 rfl ⟨?_,?_⟩
      ·rw [hres,hg];rfl
      ·rw [hres]
       refine congrArg (fun q:Nat=>D.int .i64 (q:Int)) (Eq.symm ?_)
       first
        | (apply hend;assumption)
        | (apply hstop <;> first|assumption|(unfold alnumB;simp [*])))
 ·repeat' (first|refine z0 ?_|apply ds_nil|apply dw_seq2|refine z16 ?_|apply thenD_n|refine z21 ?_ (hc:=by apply isDigit_fn)|fail)
  refine dw_cond rfl (fun hd=>?_) (fun hd=>?_)
  ·have hres:tokAt (s.data.toList.drop at_)=(3,1 + takeW digitB (s.data.toList.drop (at_ + 1))):=by
    rw [htok,tokAt_cons,if_neg (by rw [hl];exact Bool.false_ne_true),if_pos hd]
   repeat' (first|apply dw_seq2|apply dw_block)
   refine ds_loop (ι:=Nat) (fun n=>⟨0,[(0,.d (.str s)),(1,.d (.int .i64 at_)),(6,.d (.int .u8 s[at_].toNat)),(7,.d (.int .i64 n))],[]⟩)
    (fun n=>1≤n∧at_ + n≤s.size∧n + takeW digitB (s.data.toList.drop (at_ + n))=1 + takeW digitB (s.data.toList.drop (at_ + 1))) (fun n=>s.size - n) 1 ⟨by omega,by omega,rfl⟩
    (ent_ren id ⟨rfl,rfl,rfl,rfl,trivial⟩ trivial rfl rfl rfl rfl rfl rfl) ?_
   rintro n ⟨h1,h2,h3⟩
   have hstep:(h:(at_:Int) + n < s.size)→digitB (s[at_ + n]'(by omega))=true→n + 1 + takeW digitB (s.data.toList.drop (at_ + (n + 1)))=1 + takeW digitB (s.data.toList.drop (at_ + 1)):=fun h hp=>by
    have h4:=takeW_step digitB s.data.toList (at_ + n) (by omega) (by rw [byteAt _ _ (by omega)];exact hp)
    rw [← Nat.add_assoc at_ n 1];omega
   have hstop:(h:(at_:Int) + n < s.size)→digitB (s[at_ + n]'(by omega))=false→1 + takeW digitB (s.data.toList.drop (at_ + 1))=n:=fun h hp=>by
    have h4:=takeW_stop digitB s.data.toList (at_ + n) (by omega) (by rw [byteAt _ _ (by omega)];exact hp)
    omega
   have hend:¬ (at_:Int) + n < s.size→1 + takeW digitB (s.data.toList.drop (at_ + 1))=n:=fun h=>by
    have h4:=takeW_end digitB s.data.toList (at_ + n) (by omega)
    omega
   clear htok
   repeat' (first|refine z0 ?_|refine z12 ?_|apply ds_nil|apply dw_seq2|refine z16 ?_|apply dw_block|apply dw_skip|apply dw_exit|apply dw_ret|refine z19 ?_|apply thenD_n|apply thenD_e|apply thenD_r|apply inB_n|apply inB_r|refine z17 ?_|refine z21 ?_ (hc:=by apply isDigit_fn)|(apply dw_cond;exact rfl;all_goals intro hg)|((fail_if_success (apply ds_known;exact rfl));apply ds_guardP;exact rfl;exact rfl;exact rfl;all_goals intro hg))
   all_goals first
    | (refine⟨n + 1,⟨?_,?_,?_⟩,ent_ren id ⟨rfl,rfl,rfl,rfl,trivial⟩ trivial rfl rfl rfl rfl rfl rfl,?_⟩
       ·omega
       ·omega
       ·apply hstep <;> assumption
       ·omega)
    | (refine ret_2 rfl ⟨?_,?_⟩
       ·rw [hres]
       ·rw [hres]
        refine congrArg (fun q:Nat=>D.int .i64 (q:Int)) (Eq.symm ?_)
        first
         | (apply hend;assumption)
         | (apply hstop <;> assumption))
  ·have hres:tokAt (s.data.toList.drop at_)=if pairB (s[at_]::s.data.toList.drop (at_ + 1)) then (4,2) else if signs.contains s[at_] then (4,1) else (0,0):=by
    rw [htok,tokAt_cons,if_neg (by rw [hl];exact Bool.false_ne_true),if_neg (by rw [hd];exact Bool.false_ne_true)]
   repeat' (first|refine z0 ?_|apply ds_nil|apply dw_seq2|refine z16 ?_|apply dw_skip|apply thenD_n|apply inB_n)
   refine dw_condP rfl (fun h2=>?_) (fun h2=>?_)
   ·have hp:=pair_ext s at_ (by omega)
    repeat' (first|refine z0 ?_|refine z12 ?_|apply ds_nil|apply dw_seq2|refine z16 ?_|apply dw_block|apply dw_skip|apply dw_ret|refine z18 ?_|apply thenD_n|apply thenD_r|(refine z23 ?_ ?_ <;> intro hg)|((fail_if_success (apply ds_known;exact rfl));apply ds_guardP;exact rfl;exact rfl;exact rfl;all_goals intro hg))
    all_goals first
     | (refine ret_2 rfl ⟨?_,?_⟩ <;> (rw [hres,hp];simp [*];done))
     | skip
    have hpf:pairB (s[at_]::s.data.toList.drop (at_ + 1))=false:=by rw [hp];simp [*]
    rw [hpf] at hres
    refine ds_loop (ι:=Nat) (fun i=>⟨0,[(6,.d (.int .u8 s[at_].toNat)),(9,.d (.str ⟨#[40,41,44,46,60,61,43,45,42]⟩)),(10,.d (.int .i64 i))],[]⟩)
     (fun i=>i≤9∧signs.contains s[at_]=(signs.drop i).contains s[at_]) (fun i=>9 - i) 0 ⟨by omega,rfl⟩ (ent_ren id ⟨rfl,rfl,rfl,trivial⟩ trivial rfl rfl rfl rfl rfl rfl) ?_
    rintro i ⟨hi,hc⟩
    have hst:=fun h=>signs_step s[at_] i h
    have h9:((⟨#[40,41,44,46,60,61,43,45,42]⟩:ByteArray).size:Int)=9:=rfl
    repeat' (first|refine z0 ?_|apply ds_nil|apply dw_seq2|refine z16 ?_|apply dw_block|apply dw_skip|apply dw_exit|apply dw_ret|apply thenD_n|apply thenD_e|apply thenD_r|apply inB_n|apply inB_r|refine z17 ?_|(refine z23 ?_ ?_ <;> intro hg)|fail)
    all_goals first
     | (refine ret_2 rfl ⟨?_,?_⟩
        ·rw [hres,hc,hst (by rw [← Int.ofNat_lt];assumption),decide_eq_true ‹_›];rfl
        ·rw [hres,hc,hst (by rw [← Int.ofNat_lt];assumption),decide_eq_true ‹_›];rfl)
     | (refine⟨i + 1,⟨?_,?_⟩,ent_ren id ⟨rfl,rfl,rfl,trivial⟩ trivial rfl rfl rfl rfl rfl rfl,?_⟩
        ·omega
        ·rw [hc,hst (by rw [← Int.ofNat_lt];assumption),decide_eq_false ‹_›];rfl
        ·omega)
     | (have hi9:i=9:=by omega
        subst hi9
        refine ret_2 rfl ⟨?_,?_⟩
        ·rw [hres,hc];rfl
        ·rw [hres,hc];rfl)
   ·repeat' (first|refine z0 ?_|apply ds_nil|apply dw_seq2|refine z16 ?_|apply dw_block|apply dw_skip|apply thenD_n)
    have hpf:pairB (s[at_]::s.data.toList.drop (at_ + 1))=false:=by
     rw [List.drop_of_length_le (by omega)];unfold pairB;rfl
    rw [hpf] at hres
    refine ds_loop (ι:=Nat) (fun i=>⟨0,[(6,.d (.int .u8 s[at_].toNat)),(9,.d (.str ⟨#[40,41,44,46,60,61,43,45,42]⟩)),(10,.d (.int .i64 i))],[]⟩)
     (fun i=>i≤9∧signs.contains s[at_]=(signs.drop i).contains s[at_]) (fun i=>9 - i) 0 ⟨by omega,rfl⟩ (ent_ren id ⟨rfl,rfl,rfl,trivial⟩ trivial rfl rfl rfl rfl rfl rfl) ?_
    rintro i ⟨hi,hc⟩
    have hst:=fun h=>signs_step s[at_] i h
    have h9:((⟨#[40,41,44,46,60,61,43,45,42]⟩:ByteArray).size:Int)=9:=rfl
    repeat' (first|refine z0 ?_|apply ds_nil|apply dw_seq2|refine z16 ?_|apply dw_block|apply dw_skip|apply dw_exit|apply dw_ret|apply thenD_n|apply thenD_e|apply thenD_r|apply inB_n|apply inB_r|refine z17 ?_|(refine z23 ?_ ?_ <;> intro hg)|fail)
    all_goals first
     | (refine ret_2 rfl ⟨?_,?_⟩
        ·rw [hres,hc,hst (by rw [← Int.ofNat_lt];assumption),decide_eq_true ‹_›];rfl
        ·rw [hres,hc,hst (by rw [← Int.ofNat_lt];assumption),decide_eq_true ‹_›];rfl)
     | (refine⟨i + 1,⟨?_,?_⟩,ent_ren id ⟨rfl,rfl,rfl,trivial⟩ trivial rfl rfl rfl rfl rfl rfl,?_⟩
        ·omega
        ·rw [hc,hst (by rw [← Int.ofNat_lt];assumption),decide_eq_false ‹_›];rfl
        ·omega)
     | (have hi9:i=9:=by omega
        subst hi9
        refine ret_2 rfl ⟨?_,?_⟩
        ·rw [hres,hc];rfl
        ·rw [hres,hc];rfl)
def isTok (kind:Int) (s:ByteArray):Bool :=
 if h:0 < s.size then
  decide (s.size≤5000) && decide (kind≠0) && decide ((tokAt s.data.toList).1=kind) && decide ((tokAt s.data.toList).2=s.size) && decide (tokErr kind s.size s[0]=0)
 else false
theorem tokErr_eq (kind:Int) (n:Nat) (c:UInt8):tokErr kind n c=if kind=0 then 1 else if ((kind=1∨kind=2)∧12 < n)∨(kind=3∧7 < n) then 2 else if kind=3∧1 < n∧c=48 then 1 else 0:=by
 unfold tokErr;rfl
theorem size_zero (s:ByteArray) (h:s=⟨#[]⟩):s.size=0:=by rw [h];rfl
theorem size_pos (s:ByteArray) (h:¬ s=⟨#[]⟩):0 < s.size:=by
 rcases Nat.eq_zero_or_pos s.size with h0|h0
 ·exact absurd (ByteArray.ext (Array.eq_empty_of_size_eq_zero h0)) h
 ·exact h0
theorem u8i (c d:UInt8):((c.toNat:Int)=(d.toNat:Int))=(c=d):=by
 rw [eq_iff_iff]
 exact⟨fun h=>UInt8.toNat_inj.1 (by omega),fun h=>by rw [h]⟩
theorem u48 (c:UInt8):((c.toNat:Int)=48)=(c=48):=u8i c 48
theorem natc_eq (a b:Nat):((a:Int)=(b:Int))=(a=b):=by rw [eq_iff_iff];omega
theorem natc_lt1 (b:Nat):((1:Int) < (b:Int))=(1 < b):=by rw [eq_iff_iff];omega
theorem natc_lt7 (b:Nat):((7:Int) < (b:Int))=(7 < b):=by rw [eq_iff_iff];omega
theorem natc_lt12 (b:Nat):((12:Int) < (b:Int))=(12 < b):=by rw [eq_iff_iff];omega
set_option maxHeartbeats 8000000 in
theorem isToken_fn (kind:Int) (s:ByteArray):Fn 54 [.d (.int .i64 kind),.d (.str s)] (fun r=>r = .d (.bool (isTok kind s))):=by
 refine fnp_enter' _ Tryz.func54 rfl rfl (by kernel_rfl) ?_
 intro O w0 E0 β0
 repeat' (first|refine z0 ?_|refine z12 ?_|apply ds_nil|apply dw_seq2|refine z16 ?_|apply dw_skip|apply dw_ret|refine z18 ?_|apply thenD_n|apply thenD_r|(refine z23 ?_ ?_ <;> intro hg)|((fail_if_success (apply ds_known;exact rfl));apply ds_guardP;exact rfl;exact rfl;exact rfl;all_goals intro hg))
 all_goals first
  | exact ret_b rfl (by
    unfold isTok
    split
    ·first
      | (simp [*];done)
      | (exfalso
         rw [size_zero s ‹_›] at *
         omega)
      | (have h5:¬ s.size≤5000:=by omega
         simp [h5];done)
    ·rfl)
  | skip
 have h0:=size_pos s ‹_›
 have hT:=tokenAt_fn s 0 h0 (by omega)
 rw [List.drop_zero] at hT
 refine ds_call rfl rfl hT rfl rfl rfl ?_
 rintro _ rfl
 have hsz:s.size≤5000:=by omega
 have hd:isTok kind s=(decide ((tokAt s.data.toList).1=kind) && decide ((tokAt s.data.toList).2=s.size) && decide (tokErr kind s.size s[0]=0)):=by
  unfold isTok;rw [dif_pos h0];simp [*]
 repeat' (first|refine z0 ?_|refine z12 ?_|apply ds_nil|apply dw_seq2|refine z16 ?_|apply dw_ret|apply thenD_n|((fail_if_success (apply ds_known;exact rfl));apply ds_guardP;exact rfl;exact rfl;exact rfl;all_goals intro hg)|((fail_if_success (apply ds_known;exact rfl));apply ds_guardB;exact rfl;exact rfl;exact rfl;all_goals intro hg))
 all_goals first
  | exact ret_b rfl (by
    rw [hd,tokErr_eq]
    try simp only [natc_eq,natc_lt1,natc_lt7,natc_lt12,u48] at *
    first
     | (simp_all;done)
     | (simp_all;omega)
     | (have:¬ 7 < s.size:=by omega
        simp_all;done)
     | (have:¬ 7 < s.size:=by omega
        by_cases h48:s[0]=48 <;> simp_all;done)
     | (have:¬ 7 < s.size:=by omega
        have:¬ 1 < s.size:=by omega
        simp_all;done)
     | (have k3:kind=3:=by omega
        have n7:¬ 7 < s.size:=by omega
        have n1:1 < s.size:=by omega
        rw [decide_eq_true ‹(tokAt s.data.toList).fst=kind›,decide_eq_true ‹(tokAt s.data.toList).snd=s.size›,k3]
        by_cases h48:s[0]=48 <;> simp [h48,n7,n1];done))
def encScan (r:List Tok × Int × Int):SV:=.tup [.d (encToks r.1),.d (.int .i64 r.2.1),.d (.int .i64 r.2.2)]
theorem scanS_big (s:ByteArray) (h:5000 < s.size):scanS s=([],0,2):=by unfold scanS;rw [if_pos h]
theorem scanS_ok (s:ByteArray) (h:¬ 5000 < s.size) (l:List Tok) (e:scanAt s false 0 = .ok l):scanS s=(l,0,0):=by unfold scanS;rw [if_neg h,e]
theorem scanS_err (s:ByteArray) (h:¬ 5000 < s.size) (p e:Int) (he:scanAt s false 0 = .error (p,e)):scanS s=([],p,e):=by unfold scanS;rw [if_neg h,he]
def scanPre (s:ByteArray) (x:List Tok × Bool × Nat):Prop :=
 x.2.2≤s.size∧x.1.length≤x.2.2∧scanAt s false 0=(scanAt s x.2.1 x.2.2).map (x.1++·)
theorem i37 (c:UInt8):((c.toNat:Int)=37)=(c=37):=u8i c 37
theorem i32 (c:UInt8):((c.toNat:Int)=32)=(c=32):=u8i c 32
theorem i9 (c:UInt8):((c.toNat:Int)=9)=(c=9):=u8i c 9
theorem i10 (c:UInt8):((c.toNat:Int)=10)=(c=10):=u8i c 10
theorem note_step (s:ByteArray) (note:Bool) (i:Nat) (h:i < s.size) (hn:note=true∨(s[i].toNat:Int)=37):scanAt s note i=scanAt s (decide ((s[i].toNat:Int)≠10)) (i + 1):=by
 rw [scanAt_note s note i h (by rw [i37] at hn;rcases hn with hn|hn <;> simp [hn])]
 congr 1
 rw [Bool.eq_iff_iff]
 simp only [ne_eq,i10]
 simp
theorem blank_step (s:ByteArray) (note:Bool) (i:Nat) (h:i < s.size) (hn:note=false) (h1:¬ (s[i].toNat:Int)=37) (h2:(s[i].toNat:Int)=32∨(s[i].toNat:Int)=9∨(s[i].toNat:Int)=10):scanAt s note i=scanAt s note (i + 1):=by
 subst hn
 rw [i37] at h1
 rw [i32,i9,i10] at h2
 exact scanAt_blank s i h (by simpa using h1) (by simpa [or_assoc] using h2)
theorem tok_step (s:ByteArray) (note:Bool) (i:Nat) (h:i < s.size) (hn:note=false) (h1:¬ (s[i].toNat:Int)=37) (h2:¬ (s[i].toNat:Int)=32) (h3:¬ (s[i].toNat:Int)=9) (h4:¬ (s[i].toNat:Int)=10) (q:Int × Nat) (hq:tokAt (s.data.toList.drop i)=q) :
  scanAt s note i=if tokErr q.1 q.2 s[i]=0 then (scanAt s note (i + q.2)).map (Tok.mk q.1 i (s.extract i (i + q.2))::·) else .error (i,tokErr q.1 q.2 s[i]):=by
 subst hn
 subst hq
 rw [i37] at h1
 rw [i32] at h2
 rw [i9] at h3
 rw [i10] at h4
 have e1:(s[i] == 37)=false:=by simpa using h1
 have e2:(s[i] == 32 || s[i] == 9 || s[i] == 10)=false:=by simp [h2,h3,h4]
 split
 ·rename_i he
  exact scanAt_tok s i h e1 e2 he
 ·rename_i he
  exact scanAt_err s i h e1 e2 he
theorem map_map (x:Except (Int × Int) (List Tok)) (f g:List Tok→List Tok):(x.map f).map g=x.map fun l=>g (f l):=by cases x <;> rfl
theorem ext0 (s:ByteArray) (i n:Nat) (h:i < s.size) (h0:0 < (s.extract i (i + n)).size):(s.extract i (i + n))[0]=s[i]:=by
 simp [ByteArray.getElem_eq_getElem_data,ByteArray.data_extract]
theorem ext0i (s:ByteArray) (i n:Nat) (h:i < s.size) (hn:1≤n) (hb:i + n≤s.size):(((s.extract i (i + n))[0]'(by rw [ByteArray.size_extract];omega)).toNat:Int)=(s[i].toNat:Int):=by rw [ext0 s i n h]
theorem tokErr_int (kind:Int) (n:Nat) (c:UInt8):tokErr kind n c=if kind=0 then 1 else if ((kind=1∨kind=2)∧(12:Int) < n)∨(kind=3∧(7:Int) < n) then 2 else if kind=3∧(1:Int) < n∧(c.toNat:Int)=48 then 1 else 0:=by
 simp only [natc_lt12,natc_lt7,natc_lt1,u48]
 exact tokErr_eq kind n c
set_option maxHeartbeats 2000000 in
set_option maxHeartbeats 8000000 in
theorem scanOf_fn (s:ByteArray):Fn 32 [.d (.str s)] (fun r=>r=encScan (scanS s)):=by
 refine fnp_enter' _ Tryz.func32 rfl rfl (by kernel_rfl) ?_
 intro O w0 E0 β0
 repeat' (first|refine z0 ?_|apply ds_nil|apply dw_seq2|refine z16 ?_|apply thenD_n)
 refine dw_condP rfl (fun hbig=>?_) (fun hbig=>?_)
 ·repeat' (first|refine z0 ?_|apply ds_nil|apply dw_seq2|refine z16 ?_|apply thenD_n)
  refine dw_nild 2 3 rfl ?_
  repeat' (first|apply dw_ret|apply thenD_r)
  exact ret_3 rfl (by rw [scanS_big s (by omega)];exact⟨rfl,rfl,rfl⟩)
 ·repeat' (first|refine z0 ?_|apply ds_nil|apply dw_seq2|refine z16 ?_|apply dw_block|apply dw_skip|apply thenD_n)
  refine dw_nilrow (t:=5) 43 3 rfl ?_
  refine ds_loop (ι:=List Tok × Bool × Nat) (fun x=>⟨1,[(0,.d (.str s)),(5,.row 0),(6,.d (.bool x.2.1)),(7,.d (.int .i64 x.2.2))],[(0,.row 43 3 (x.1.map encTok))]⟩)
   (scanPre s) (fun x=>s.size - x.2.2) ([],false,0) ⟨Nat.zero_le _,Nat.le_refl _,by cases scanAt s false 0 <;> rfl⟩
   (ent_ren id ⟨rfl,rfl,rfl,rfl,trivial⟩ ⟨rfl,trivial⟩ rfl rfl rfl rfl rfl rfl) ?_
  rintro⟨toks,note,i⟩ ⟨h1,h2,h3⟩
  dsimp only at h1 h2 h3 ⊢
  repeat' (first|refine z0 ?_|apply ds_nil|apply dw_seq2|refine z16 ?_|apply thenD_n)
  refine dw_condP rfl (fun hlt=>?_) (fun hlt=>?_)
  ·have hlt':i < s.size:=by omega
   repeat' (first|refine z0 ?_|refine z12 ?_|apply ds_nil|apply dw_seq2|refine z16 ?_|apply dw_block|apply dw_skip|apply dw_exit|refine z18 ?_|apply thenD_n|apply thenD_e|refine z17 ?_|(refine z23 ?_ ?_ <;> intro hg)|((fail_if_success (apply ds_known;exact rfl));apply ds_guardP;exact rfl;exact rfl;exact rfl;all_goals intro hg)|((fail_if_success (apply ds_known;exact rfl));apply ds_guardB;exact rfl;exact rfl;exact rfl;all_goals intro hg))
   all_goals first
    | (refine⟨(toks,decide ((s[i].toNat:Int)≠10),i + 1),⟨?_,?_,?_⟩,ent_ren id ⟨rfl,rfl,rfl,rfl,trivial⟩ ⟨rfl,trivial⟩ rfl rfl rfl rfl rfl rfl,?_⟩
       ·show i + 1≤s.size;omega
       ·show toks.length≤i + 1;omega
       ·show scanAt s false 0=_;rw [h3,note_step s note i hlt' (by simp_all)]
       ·show s.size - (i + 1) < s.size - i;omega)
    | (refine⟨(toks,note,i + 1),⟨?_,?_,?_⟩,ent_ren id ⟨rfl,rfl,rfl,rfl,trivial⟩ ⟨rfl,trivial⟩ rfl rfl rfl rfl rfl rfl,?_⟩
       ·show i + 1≤s.size;omega
       ·show toks.length≤i + 1;omega
       ·show scanAt s false 0=_;rw [h3,blank_step s note i hlt' (by assumption) (by assumption) (by simp_all)]
       ·show s.size - (i + 1) < s.size - i;omega)
    | skip
   have hT:=tokenAt_fn s i hlt' (by omega)
   have hS:=tok_step s note i hlt' ‹_› ‹_› ‹_› ‹_› ‹_› _ rfl
   have hle:=tokAt_le (s.data.toList.drop i)
   have hpo:=tokAt_pos (s.data.toList.drop i)
   rw [List.length_drop,show s.data.toList.length=s.size by simp] at hle
   generalize tokAt (s.data.toList.drop i)=q at hT hS hle hpo
   obtain⟨kind,n⟩:=q
   dsimp only at hT hS hle hpo
   have hez:(s.extract i (i + n)).size=n:=by rw [ByteArray.size_extract];omega
   rw [hS] at h3
   have hbad:∀ e,tokErr kind n s[i]=e→e≠0→scanS s=([],(i:Int),e):=fun e h h0=>scanS_err s (by omega) _ _ (by rw [h3,if_neg (by rw [h];exact h0),h];rfl)
   refine ds_call rfl rfl hT rfl rfl rfl ?_
   rintro _ rfl
   repeat' (first|refine z0 ?_|refine z12 ?_|apply ds_nil|apply dw_seq2|refine z16 ?_|apply dw_skip|refine z18 ?_|refine z19 ?_|apply thenD_n|refine z4 ?_|(refine z23 ?_ ?_ <;> intro hg)|((fail_if_success (apply ds_known;exact rfl));apply ds_guardP;exact rfl;exact rfl;exact rfl;all_goals intro hg))
   all_goals first
    | (exfalso;omega)
    | (refine dw_nild 2 3 rfl ?_
       apply dw_ret
       repeat' (first|apply thenD_r|apply inB_r)
       refine ret_3 rfl ?_
       first
        | (rw [hbad 1 (by rw [tokErr_int];repeat' split;all_goals first|omega|(have hx:=ext0i s i n hlt' (by omega) (by omega);omega)) (by decide)];exact⟨rfl,rfl,rfl⟩)
        | (rw [hbad 2 (by rw [tokErr_int];repeat' split;all_goals first|omega|(have hx:=ext0i s i n hlt' (by omega) (by omega);omega)) (by decide)];exact⟨rfl,rfl,rfl⟩))
    | skip
   all_goals
    have hk0:tokErr kind n s[i]=0:=by rw [tokErr_int];repeat' split;all_goals first|omega|(have hx:=ext0i s i n hlt' (by omega) (by omega);omega)
    have hn1:=hpo ‹_›
    rw [if_pos hk0] at h3
    apply ds_of_dl
    refine dl_append_row (te:=43) (es:=3) rfl rfl rfl rfl rfl rfl rfl rfl rfl rfl ?_ ?_ ?_
    ·show _ * 32≤_
     rw [List.length_map]
     show (_ + 1) * 32≤_
     omega
    ·rw [List.length_map]
     show _ + 1≤_
     exact Nat.le_trans (show _≤5001 by omega) (by decide)
    apply dl_of_ds
    repeat' (first|refine z0 ?_|apply ds_nil|refine z16 ?_|apply thenD_n|apply inB_n)
    refine⟨(toks++[⟨kind,i,s.extract i (i + n)⟩],note,i + n),⟨?_,?_,?_⟩,?_,?_⟩
    ·show i + n≤s.size;omega
    ·show (toks++[_]).length≤i + n
     rw [List.length_append]
     show _ + 1≤_
     omega
    ·show scanAt s false 0=_
     rw [h3,map_map]
     simp only [List.append_assoc,List.singleton_append]
    ·dsimp only
     rw [List.map_append]
     exact ent_ren (fun _=>1) ⟨rfl,rfl,rfl,rfl,trivial⟩ ⟨rfl,trivial⟩ rfl rfl rfl rfl rfl rfl
    ·show s.size - (i + n) < s.size - i;omega
  ·repeat' (first|refine z0 ?_|apply ds_nil|apply dw_seq2|refine z16 ?_|apply dw_exit|apply thenD_n|apply thenD_e|refine z17 ?_|fail)
   refine dw_seal 2 rfl rfl ?_
   repeat' (apply dw_ret)
   refine ret_3 rfl ?_
   rw [scanS_ok s (by omega) toks (by rw [h3,scanAt_end s note i (by omega)];exact congrArg Except.ok (List.append_nil _))]
   exact⟨rfl,rfl,rfl⟩
theorem small_eq (c:UInt8):smallB c=(decide ((97:Int)≤c.toNat) && decide ((c.toNat:Int)≤122)):=by unfold smallB;rfl
theorem great_eq (c:UInt8):greatB c=(decide ((65:Int)≤c.toNat) && decide ((c.toNat:Int)≤90)):=by unfold greatB;rfl
theorem digit_eq (c:UInt8):digitB c=(decide ((48:Int)≤c.toNat) && decide ((c.toNat:Int)≤57)):=by unfold digitB;rfl
set_option maxHeartbeats 8000000 in
theorem small_fn (c:UInt8):Fn 71 [.d (.int .u8 (c.toNat:Int))] (fun r=>r = .d (.bool (smallB c))):=by
 refine fnp_enter' _ Tryz.func71 rfl rfl (by kernel_rfl) ?_
 intro O w0 E0 β0
 repeat' (first|refine z0 ?_|refine z12 ?_|apply ds_nil|apply dw_seq2|refine z16 ?_|apply dw_ret|apply thenD_n|((fail_if_success (apply ds_known;exact rfl));apply ds_guardP;exact rfl;exact rfl;exact rfl;all_goals intro hg))
 all_goals exact ret_b rfl (by rw [small_eq];first|(simp_all;done)|(simp_all;omega))
set_option maxHeartbeats 8000000 in
theorem great_fn (c:UInt8):Fn 72 [.d (.int .u8 (c.toNat:Int))] (fun r=>r = .d (.bool (greatB c))):=by
 refine fnp_enter' _ Tryz.func72 rfl rfl (by kernel_rfl) ?_
 intro O w0 E0 β0
 repeat' (first|refine z0 ?_|refine z12 ?_|apply ds_nil|apply dw_seq2|refine z16 ?_|apply dw_ret|apply thenD_n|((fail_if_success (apply ds_known;exact rfl));apply ds_guardP;exact rfl;exact rfl;exact rfl;all_goals intro hg))
 all_goals exact ret_b rfl (by rw [great_eq];first|(simp_all;done)|(simp_all;omega))
set_option maxHeartbeats 8000000 in
theorem digit_fn (c:UInt8):Fn 75 [.d (.int .u8 (c.toNat:Int))] (fun r=>r = .d (.bool (digitB c))):=by
 refine fnp_enter' _ Tryz.func75 rfl rfl (by kernel_rfl) ?_
 intro O w0 E0 β0
 repeat' (first|refine z0 ?_|refine z12 ?_|apply ds_nil|apply dw_seq2|refine z16 ?_|apply dw_ret|apply thenD_n|((fail_if_success (apply ds_known;exact rfl));apply ds_guardP;exact rfl;exact rfl;exact rfl;all_goals intro hg))
 all_goals exact ret_b rfl (by rw [digit_eq];first|(simp_all;done)|(simp_all;omega))
set_option maxHeartbeats 8000000 in
theorem alnum_fn (c:UInt8):Fn 74 [.d (.int .u8 (c.toNat:Int))] (fun r=>r = .d (.bool (alnumB c))):=by
 refine fnp_enter' _ Tryz.func74 rfl rfl (by kernel_rfl) ?_
 intro O w0 E0 β0
 repeat' (first|refine z0 ?_|refine z12 ?_|apply ds_nil|apply dw_seq2|refine z16 ?_|apply dw_ret|apply thenD_n|refine z21 ?_ (hc:=by apply small_fn)|refine z21 ?_ (hc:=by apply great_fn)|refine z21 ?_ (hc:=by apply digit_fn)|((fail_if_success (apply ds_known;exact rfl));apply ds_guardB;exact rfl;exact rfl;exact rfl;all_goals intro hg))
 all_goals exact ret_b rfl (by unfold alnumB letterB;simp_all)
abbrev FnS (f:FuncId) (args:List SV) (J k:Nat) (H:Hp) (R:Nat→SV→Hp→Prop):Prop:=FnOk false Tryz.prog tab tab_ok f args J k H R
abbrev scH (s:ByteArray) (i:Nat):Hp:=[(0,.blk 87 [.d (.str s),.d (.int .i64 i)])]
set_option maxHeartbeats 8000000 in
theorem sign_fn (s:ByteArray) (i:Nat):FnS 70 [.loc 0 0] 1 1 (scH s i) (fun k2 r H2=>k2=1∧r = .d (.int .u8 (if h:i < s.size then (s[i].toNat:Int) else 0))∧H2=scH s i):=by
 refine fn_enter _ Tryz.func70 rfl rfl (by kernel_rfl) ?_
 intro O w0 E0 β0
 repeat' (first|refine z0 ?_|apply ds_nil|refine z5 ?_|refine z10 ?_|apply dw_seq2|refine z16 ?_|refine z20 ?_|apply dw_skip|apply dw_ret|apply thenD_n|apply thenD_r|(refine z23 ?_ ?_ <;> intro hg)|fail)
 ·refine⟨.inl rfl,_,rfl,rfl,?_,rfl⟩
  rw [dif_pos (by omega)];rfl
 ·refine⟨.inl rfl,_,rfl,rfl,?_,rfl⟩
  rw [dif_neg (by omega)];rfl
theorem note_at (s:ByteArray) (j:Nat) (h:j < s.size) (h1:(s[j].toNat:Int)=37):scanAt s false j=scanAt s true j:=by
 rw [note_step s false j h (.inr h1),note_step s true j h (.inl rfl)]
theorem note_in (s:ByteArray) (j:Nat) (h:j < s.size) (h1:¬ (s[j].toNat:Int)=10):scanAt s true j=scanAt s true (j + 1):=by
 rw [note_step s true j h (.inl rfl),decide_eq_true h1]
theorem note_out (s:ByteArray) (j:Nat) (h:∀ h:j < s.size,(s[j].toNat:Int)=10):scanAt s true j=scanAt s false j:=by
 by_cases hj:j < s.size
 ·have h10:=h hj
  rw [note_step s true j hj (.inl rfl),decide_eq_false (by rw [h10];simp),blank_step s false j hj rfl (by omega) (by omega)]
 ·rw [scanAt_end s true j (by omega),scanAt_end s false j (by omega)]
set_option maxHeartbeats 8000000 in
theorem skip_fn (s:ByteArray) (i:Nat) (hi:i≤s.size) (hs:s.size≤5000):FnS 44 [.loc 0 0] 1 1 (scH s i)
  (fun k2 r H2=>k2=1∧r = .tup []∧∃ j:Nat,i≤j∧j≤s.size∧scanAt s false i=scanAt s false j∧(∀ h:j < s.size,¬ (s[j].toNat:Int)=37∧¬ (s[j].toNat:Int)=32∧¬ (s[j].toNat:Int)=9∧¬ (s[j].toNat:Int)=10)∧H2=scH s j):=by
 refine fn_enter _ Tryz.func44 rfl rfl (by kernel_rfl) ?_
 intro O w0 E0 β0
 repeat' (apply dw_block)
 refine ds_loop (ι:=Nat) (fun j=>⟨1,[(0,.loc 0 0)],scH s j⟩) (fun j=>i≤j∧j≤s.size∧scanAt s false i=scanAt s false j) (fun j=>s.size - j) i ⟨Nat.le_refl _,hi,rfl⟩
  (ent_ren id ⟨rfl,trivial⟩ ⟨rfl,trivial⟩ rfl rfl rfl rfl rfl rfl) ?_
 rintro j ⟨h1,h2,h3⟩
 repeat' (first|refine z0 ?_|apply ds_nil|refine z5 ?_|refine z10 ?_|apply dw_seq2|refine z16 ?_|refine z20 ?_|apply dw_block|apply dw_skip|apply dw_exit|apply dw_ret|apply thenD_n|apply thenD_e|apply thenD_r|apply inB_n|apply inB_r|refine z17 ?_|refine z3 ?_|(refine z23 ?_ ?_ <;> intro hg)|fail)
 all_goals first
  | (exfalso;omega)
  | (refine⟨j + 1,⟨by omega,by omega,h3.trans (blank_step s false j (by omega) rfl (by omega) (by omega))⟩,ent_ren id ⟨rfl,trivial⟩ ⟨rfl,trivial⟩ rfl rfl rfl rfl rfl rfl,by omega⟩)
  | (refine⟨.inl rfl,_,rfl,rfl,rfl,j,h1,h2,h3,?_,rfl⟩
     intro hj
     refine⟨?_,?_,?_,?_⟩ <;> omega)
  | (refine⟨.inr rfl,_,rfl,rfl,rfl,j,h1,h2,h3,?_,rfl⟩
     intro hj
     refine⟨?_,?_,?_,?_⟩ <;> omega)
  | skip
 all_goals
  refine ds_loop (ι:=Nat) (fun m=>⟨1,[(0,.loc 0 0)],scH s m⟩) (fun m=>j≤m∧m≤s.size∧scanAt s false i=scanAt s true m) (fun m=>s.size - m) j
   ⟨Nat.le_refl _,h2,h3.trans (note_at s j (by omega) (by omega))⟩ (ent_ren id ⟨rfl,trivial⟩ ⟨rfl,trivial⟩ rfl rfl rfl rfl rfl rfl) ?_
  rintro m ⟨g1,g2,g3⟩
  repeat' (first|refine z0 ?_|apply ds_nil|refine z5 ?_|refine z14 ?_|refine z10 ?_|apply dw_seq2|refine z16 ?_|refine z20 ?_|apply dw_block|apply dw_skip|apply dw_exit|refine z19 ?_|apply thenD_n|apply thenD_e|apply inB_n|refine z17 ?_|refine z3 ?_|(refine z23 ?_ ?_ <;> intro hg)|((fail_if_success (apply dt_known;exact rfl));apply dt_guardP;exact rfl;exact rfl;exact rfl;all_goals intro hg))
  all_goals first
   | (refine⟨m + 1,⟨by omega,by omega,g3.trans (note_in s m (by omega) (by omega))⟩,ent_ren id ⟨rfl,trivial⟩ ⟨rfl,trivial⟩ rfl rfl rfl rfl rfl rfl,by omega⟩)
   | (have hne:m≠j:=by
       intro e
       subst e
       omega
      refine⟨m,⟨by omega,g2,g3.trans (note_out s m (by intro h;omega))⟩,ent_ren id ⟨rfl,trivial⟩ ⟨rfl,trivial⟩ rfl rfl rfl rfl rfl rfl,by omega⟩)
set_option maxHeartbeats 8000000 in
theorem run_fn (s:ByteArray) (i:Nat) (hi:i≤s.size) (hs:s.size≤5000) (f:FuncId) (p:UInt8→Bool) (hp:∀ c:UInt8,Fn f [.d (.int .u8 (c.toNat:Int))] (fun r=>r = .d (.bool (p c)))) :
  FnS 73 [.loc 0 0,.fn f []] 1 1 (scH s i)
   (fun k2 r H2=>k2=1∧r = .d (.str (s.extract i (i + takeW p (s.data.toList.drop i))))∧H2=scH s (i + takeW p (s.data.toList.drop i))):=by
 refine fn_enter _ Tryz.func73 rfl rfl (by kernel_rfl) ?_
 intro O w0 E0 β0
 repeat' (first|refine z0 ?_|apply ds_nil|apply dw_seq2|refine z16 ?_|apply dw_block|apply thenD_n)
 have hl0:s.data.toList.length=s.size:=by simp
 refine ds_loop (ι:=Nat) (fun j=>⟨1,[(0,.loc 0 0),(1,.fn f []),(5,.d (.int .i64 i))],scH s j⟩) (fun j=>i≤j∧j≤s.size∧i + takeW p (s.data.toList.drop i)=j + takeW p (s.data.toList.drop j)) (fun j=>s.size - j) i ⟨Nat.le_refl _,hi,rfl⟩
  (ent_ren id ⟨rfl,rfl,rfl,trivial⟩ ⟨rfl,trivial⟩ rfl rfl rfl rfl rfl rfl) ?_
 rintro j ⟨h1,h2,h3⟩
 have hstep:=fun h hq=>takeW_step p s.data.toList j h hq
 have hstop:=fun h hq=>takeW_stop p s.data.toList j h hq
 have hend:=takeW_end p s.data.toList j
 repeat' (first|refine z5 ?_|refine z14 ?_|refine z10 ?_|apply dw_seq2|refine z20 ?_|apply dw_exit|apply dw_ret|refine z19 ?_|apply thenD_n|apply thenD_e|refine z17 ?_|((fail_if_success (apply dt_known;exact rfl));apply dt_guardP;exact rfl;exact rfl;exact rfl;all_goals intro hg))
 all_goals first
  | (refine dt_callV rfl rfl rfl rfl (hp _) rfl rfl rfl rfl ⟨_,rfl⟩ ?_;rintro _ rfl)
  | (exact absurd hg (by decide))
  | skip
 repeat' (first|refine z0 ?_|apply ds_nil|refine z5 ?_|refine z10 ?_|apply dw_seq2|refine z16 ?_|refine z20 ?_|apply dw_block|apply dw_skip|apply dw_exit|apply dw_ret|apply thenD_n|apply thenD_e|apply inB_n|refine z17 ?_|refine z3 ?_|(apply dw_cond;exact rfl;all_goals intro hg))
 all_goals first
  | (have hj:i + takeW p (s.data.toList.drop i)=j:=by have:=hend (by omega);omega
     rw [hj]
     exact⟨.inl rfl,_,rfl,rfl,rfl,rfl⟩)
  | (have hq:=hstep (by omega) (by rw [byteAt _ _ (by omega)];first|assumption|simp_all)
     refine⟨j + 1,⟨by omega,by omega,by omega⟩,ent_ren id ⟨rfl,rfl,rfl,trivial⟩ ⟨rfl,trivial⟩ rfl rfl rfl rfl rfl rfl,by omega⟩)
  | (have hq:=hstop (by omega) (by rw [byteAt _ _ (by omega)];first|assumption|simp_all)
     have hj:i + takeW p (s.data.toList.drop i)=j:=by omega
     rw [hj]
     exact⟨.inl rfl,_,rfl,rfl,rfl,rfl⟩)
def pairL:D:=.slice 1 [[.str ⟨#[58,45]⟩],[.str ⟨#[60,61]⟩],[.str ⟨#[33,61]⟩]]
set_option maxHeartbeats 8000000 in
theorem pairs_fn:Fn 77 [] (fun r=>r = .d pairL):=by
 refine fnp_enter' _ Tryz.func77 rfl rfl (by kernel_rfl) ?_
 intro O w0 E0 β0
 repeat' (first|refine z0 ?_|apply ds_nil|apply dw_seq2|refine z16 ?_|apply dw_ret|apply thenD_n|refine z4 ?_|fail)
 exact⟨.inl rfl,_,rfl,rfl,rfl⟩
def hasPre (s t:ByteArray):Bool:=decide (t.size≤s.size) && decide (s.extract 0 t.size=t)
set_option maxHeartbeats 8000000 in
theorem hasPrefix0_fn (s t:ByteArray):Fn 102 [.d (.str s),.d (.str t)] (fun r=>r = .d (.bool (hasPre s t))):=by
 refine fnp_enter' _ Tryz.func102 rfl rfl (by kernel_rfl) ?_
 intro O w0 E0 β0
 repeat' (first|refine z0 ?_|refine z12 ?_|apply ds_nil|apply dw_seq2|refine z16 ?_|apply dw_ret|apply thenD_n|((fail_if_success (apply ds_known;exact rfl));apply ds_guardP;exact rfl;exact rfl;exact rfl;all_goals intro hg))
 all_goals exact ret_b rfl (by
  unfold hasPre
  first
   | (have h:t.size≤s.size:=by omega
      simp [h];done)
   | (have h:¬ t.size≤s.size:=by omega
      simp [h];done))
set_option maxHeartbeats 8000000 in
theorem hasPrefix_fn (s t:ByteArray):Fn 79 [.d (.str s),.d (.str t)] (fun r=>r = .d (.bool (hasPre s t))):=by
 refine fnp_enter' _ Tryz.func79 rfl rfl (by kernel_rfl) ?_
 intro O w0 E0 β0
 repeat' (first|refine z0 ?_|apply ds_nil|apply dw_seq2|refine z16 ?_|apply dw_ret|apply thenD_n|refine z21 ?_ (hc:=by apply hasPrefix0_fn)|fail)
 all_goals exact ret_b rfl rfl
abbrev scH2 (s:ByteArray) (i:Nat):Hp:=[(0,.blk 87 [.d (.str s),.d (.int .i64 i)]),(1,.blk 85 [.loc 0 0])]
set_option maxHeartbeats 8000000 in
theorem begins_fn (s:ByteArray) (i:Nat) (hi:i≤s.size) (t:ByteArray) :
  FnS 78 [.d (.str t),.loc 1 0] 2 2 (scH2 s i) (fun k2 r H2=>k2=2∧r = .d (.bool (hasPre (s.extract i s.size) t))∧H2=scH2 s i):=by
 refine fn_enter _ Tryz.func78 rfl rfl (by kernel_rfl) ?_
 intro O w0 E0 β0
 repeat' (first|refine z0 ?_|apply ds_nil|refine z5 ?_|refine z10 ?_|apply dw_seq2|refine z16 ?_|refine z20 ?_|apply dw_ret|apply thenD_n|refine z22 ?_ (hc:=by apply hasPrefix_fn)|refine z22 ?_ (hc:=by apply hasPrefix_fn)|fail)
 exact⟨.inl rfl,_,rfl,rfl,rfl,rfl⟩
def pairT:List ByteArray:=[⟨#[58,45]⟩,⟨#[60,61]⟩,⟨#[33,61]⟩]
def pairAt (r:ByteArray):Int:=if hasPre r ⟨#[58,45]⟩ then 0 else if hasPre r ⟨#[60,61]⟩ then 1 else if hasPre r ⟨#[33,61]⟩ then 2 else -1
theorem pairAt_hit (r:ByteArray) (j:Nat) (hj:j < pairT.length) (h2:∀ m (_:m < j) (hm3:m < pairT.length),hasPre r pairT[m]=false) (h:hasPre r pairT[j]=true):pairAt r=j:=by
 have hj3:j < 3:=hj
 unfold pairAt
 match j,hj3 with
 | 0,_=>rw [if_pos (show hasPre r ⟨#[58,45]⟩=true from h)];rfl
 | 1,_=>rw [if_neg (by rw [show hasPre r ⟨#[58,45]⟩=false from h2 0 (by omega) (by decide)];decide),if_pos (show hasPre r ⟨#[60,61]⟩=true from h)];rfl
 | 2,_=>rw [if_neg (by rw [show hasPre r ⟨#[58,45]⟩=false from h2 0 (by omega) (by decide)];decide),if_neg (by rw [show hasPre r ⟨#[60,61]⟩=false from h2 1 (by omega) (by decide)];decide),if_pos (show hasPre r ⟨#[33,61]⟩=true from h)];rfl
theorem pairAt_none (r:ByteArray) (h2:∀ m (_:m < 3) (hm3:m < pairT.length),hasPre r pairT[m]=false):pairAt r = -1:=by
 unfold pairAt
 rw [if_neg (by rw [show hasPre r ⟨#[58,45]⟩=false from h2 0 (by omega) (by decide)];decide),if_neg (by rw [show hasPre r ⟨#[60,61]⟩=false from h2 1 (by omega) (by decide)];decide),if_neg (by rw [show hasPre r ⟨#[33,61]⟩=false from h2 2 (by omega) (by decide)];decide)]
set_option maxHeartbeats 8000000 in
theorem indexFunc_fn (s:ByteArray) (i:Nat) (hi:i≤s.size) :
  FnS 101 [.d (.slice 1 (pairT.map fun t=>[.str t])),.fn 78 [.loc 1 0]] 2 2 (scH2 s i) (fun _ r H2=>r = .d (.int .i64 (pairAt (s.extract i s.size)))∧H2=scH2 s i):=by
 refine fn_enter _ Tryz.func101 rfl rfl (by kernel_rfl) ?_
 intro O w0 E0 β0
 repeat' (first|refine z0 ?_|apply ds_nil|apply dw_seq2|refine z16 ?_|apply dw_block|apply thenD_n)
 refine ds_loop (ι:=Nat) (fun j=>⟨2,[(0,.d (.slice 1 (pairT.map fun t=>[.str t]))),(1,.fn 78 [.loc 1 0]),(7,.d (.int .i64 3)),(8,.d (.int .i64 j))],scH2 s i⟩)
  (fun j=>j≤3∧∀ m (hm:m < j) (hm3:m < pairT.length),hasPre (s.extract i s.size) pairT[m]=false) (fun j=>3 - j) 0 ⟨by omega,fun m hm=>absurd hm (by omega)⟩
  (ent_ren id ⟨rfl,rfl,rfl,rfl,trivial⟩ ⟨rfl,rfl,trivial⟩ rfl rfl rfl rfl rfl rfl) ?_
 rintro j ⟨h1,h2⟩
 repeat' (first|refine z0 ?_|apply ds_nil|apply dw_seq2|refine z16 ?_|apply thenD_n)
 have hp3:pairT.length=3:=rfl
 refine dw_condP rfl (fun hlt=>?_) (fun hlt=>?_)
 ·repeat' (first|refine z0 ?_|apply ds_nil|apply dw_seq2|refine z16 ?_|apply dw_block|apply dw_skip|apply thenD_n)
  have hj:j < pairT.length:=by omega
  refine ds_callVO id (begins_fn s i hi pairT[j]) rfl rfl rfl rfl rfl rfl ⟨rfl,rfl,trivial⟩ rfl rfl rfl rfl rfl rfl ?_ ?_
  ·rintro k2 r H2 ⟨rfl,rfl,rfl⟩
   exact⟨rfl,rfl⟩
  rintro k2 r H2 ⟨rfl,rfl,rfl⟩
  repeat' (first|apply ds_nil|apply thenD_n)
  refine dw_cond rfl (fun hh=>?_) (fun hh=>?_)
  ·repeat' (first|refine z0 ?_|apply ds_nil|apply dw_seq2|refine z16 ?_|apply dw_ret|apply thenD_n|apply thenD_r|apply inB_r)
   refine⟨.inl rfl,_,rfl,?_⟩
   rw [pairAt_hit _ j hj h2 hh]
   exact⟨rfl,rfl⟩
  ·repeat' (first|refine z0 ?_|apply ds_nil|refine z16 ?_|apply dw_skip|apply thenD_n|apply inB_n)
   refine⟨j + 1,⟨by omega,fun m hm hm3=>?_⟩,ent_ren id ⟨rfl,rfl,rfl,rfl,trivial⟩ ⟨rfl,rfl,trivial⟩ rfl rfl rfl rfl rfl rfl,by omega⟩
   by_cases e:m=j
   ·subst e;exact hh
   ·exact h2 m (by omega) hm3
 ·repeat' (first|refine z0 ?_|apply ds_nil|apply dw_seq2|refine z16 ?_|apply dw_exit|apply dw_ret|apply thenD_n|apply thenD_e|refine z17 ?_|fail)
  refine⟨.inl rfl,_,rfl,?_,rfl⟩
  rw [pairAt_none _ (fun m hm hm3=>h2 m (by omega) hm3)]
  rfl
set_option maxHeartbeats 8000000 in
theorem containsFunc_fn (s:ByteArray) (i:Nat) (hi:i≤s.size) :
  FnS 76 [.d (.slice 1 (pairT.map fun t=>[.str t])),.fn 78 [.loc 1 0]] 2 2 (scH2 s i) (fun _ r H2=>r = .d (.bool (decide (pairAt (s.extract i s.size) ≥ 0)))∧H2=scH2 s i):=by
 refine fn_enter _ Tryz.func76 rfl rfl (by kernel_rfl) ?_
 intro O w0 E0 β0
 repeat' (first|refine z0 ?_|apply ds_nil|apply dw_seq2|refine z16 ?_|apply thenD_n)
 refine ds_callO id (indexFunc_fn s i hi) rfl rfl rfl rfl ⟨rfl,rfl,trivial⟩ rfl rfl rfl rfl rfl rfl ?_ ?_
 ·rintro k2 r H2 ⟨rfl,rfl⟩
  exact⟨rfl,rfl⟩
 rintro k2 r H2 ⟨rfl,rfl⟩
 repeat' (first|refine z0 ?_|apply ds_nil|apply dw_ret|apply thenD_n)
 exact⟨.inl rfl,_,rfl,rfl,rfl⟩
set_option maxHeartbeats 8000000 in
theorem indexByte0_fn (s:ByteArray) (c:UInt8):Fn 103 [.d (.str s),.d (.int .u8 (c.toNat:Int))] (fun r=>r = .d (.int .i64 (firstIdx s ((c.toNat:Int).toNat.toUInt8)))):=by
 refine fnp_enter' _ Tryz.func103 rfl rfl (by kernel_rfl) ?_
 intro O w0 E0 β0
 repeat' (first|refine z0 ?_|apply ds_nil|apply dw_seq2|refine z16 ?_|apply thenD_n)
 refine ds_ev (ev_indexByte Tryz.func113 rfl rfl rfl rfl rfl rfl rfl) rfl rfl ?_
 repeat' (first|refine z0 ?_|apply ds_nil|apply dw_ret|apply thenD_n)
 exact ret_i rfl rfl
set_option maxHeartbeats 8000000 in
theorem indexByte_fn (s:ByteArray) (c:UInt8):Fn 80 [.d (.str s),.d (.int .u8 (c.toNat:Int))] (fun r=>r = .d (.int .i64 (firstIdx s ((c.toNat:Int).toNat.toUInt8)))):=by
 refine fnp_enter' _ Tryz.func80 rfl rfl (by kernel_rfl) ?_
 intro O w0 E0 β0
 repeat' (first|refine z0 ?_|apply ds_nil|apply dw_seq2|refine z16 ?_|apply dw_ret|apply thenD_n|refine z21 ?_ (hc:=by apply indexByte0_fn)|fail)
 exact ret_i rfl rfl
section
variable (s : ByteArray) (i : Nat) (hi : i < s.size)
include hi
theorem drop_cons:s.data.toList.drop i=s[i]::s.data.toList.drop (i + 1):=by
 have hl0:s.data.toList.length=s.size:=by simp
 rw [List.drop_eq_getElem_cons (by omega),byteAt]
theorem takeW_one (p:UInt8→Bool) (h:p s[i]=true):takeW p (s.data.toList.drop i)=1 + takeW p (s.data.toList.drop (i + 1)):=by
 have:=takeW_step p s.data.toList i (by simpa using hi) (by rw [byteAt _ _ hi];exact h)
 omega
theorem tok_letter (h:letterB s[i]=true):tokAt (s.data.toList.drop i)=(if smallB s[i] then 1 else 2,takeW alnumB (s.data.toList.drop i)):=by
 rw [takeW_one s i hi alnumB (by unfold alnumB;rw [h];rfl),drop_cons s i hi,tokAt_cons,if_pos h]
theorem tok_digit (h:letterB s[i]=false) (hd:digitB s[i]=true):tokAt (s.data.toList.drop i)=(3,takeW digitB (s.data.toList.drop i)):=by
 rw [takeW_one s i hi digitB hd,drop_cons s i hi,tokAt_cons,if_neg (by rw [h];exact Bool.false_ne_true),if_pos hd]
theorem tok_sign (h:letterB s[i]=false) (hd:digitB s[i]=false):tokAt (s.data.toList.drop i)=if pairB (s[i]::s.data.toList.drop (i + 1)) then (4,2) else if signs.contains s[i] then (4,1) else (0,0):=by
 rw [drop_cons s i hi,tokAt_cons,if_neg (by rw [h];exact Bool.false_ne_true),if_neg (by rw [hd];exact Bool.false_ne_true)]
omit hi in
theorem ext_ext (k:Nat) (h:i + k≤s.size):(s.extract i s.size).extract 0 k=s.extract i (i + k):=by
 rw [ByteArray.extract_extract]
 congr 1
 omega
theorem pair_at:decide (pairAt (s.extract i s.size) ≥ 0)=pairB (s[i]::s.data.toList.drop (i + 1)):=by
 have hsz:(s.extract i s.size).size=s.size - i:=by rw [ByteArray.size_extract];omega
 by_cases h2:i + 1 < s.size
 ·rw [pair_ext s i h2]
  have hp:∀ t:ByteArray,t.size=2→hasPre (s.extract i s.size) t=decide (s.extract i (i + 2)=t):=by
   intro t ht
   unfold hasPre
   rw [ht,hsz,ext_ext s i 2 (by omega),decide_eq_true (by omega),Bool.true_and]
  unfold pairAt
  rw [hp _ rfl,hp _ rfl,hp _ rfl]
  by_cases a:s.extract i (i + 2)=⟨#[58,45]⟩
  ·simp [a]
  ·by_cases b:s.extract i (i + 2)=⟨#[60,61]⟩
   ·simp [b]
   ·by_cases c:s.extract i (i + 2)=⟨#[33,61]⟩
    ·simp [c]
    ·simp [a,b,c]
 ·have hp:∀ t:ByteArray,t.size=2→hasPre (s.extract i s.size) t=false:=by
   intro t ht
   unfold hasPre
   rw [ht,hsz,decide_eq_false (by omega),Bool.false_and]
  have hl:s.data.toList.drop (i + 1)=[]:=List.drop_eq_nil_of_le (by simp;omega)
  unfold pairAt
  rw [hp _ rfl,hp _ rfl,hp _ rfl,hl]
  simp [pairB]
theorem pair_room (h:pairAt (s.extract i s.size) ≥ 0):i + 2≤s.size:=by
 have hq:=pair_at s i hi
 rw [decide_eq_true h] at hq
 rcases Nat.lt_or_ge (i + 1) s.size with h2|h2
 ·omega
 ·have hl:s.data.toList.drop (i + 1)=[]:=List.drop_eq_nil_of_le (by simp;omega)
  rw [hl] at hq
  simp [pairB] at hq
end
theorem idx_signs (c:UInt8):decide ((0:Int)≤firstIdx ⟨#[40,41,44,46,60,61,43,45,42]⟩ c)=signs.contains c:=by
 have key:∀ n:Fin 256,decide ((0:Int)≤firstIdx ⟨#[40,41,44,46,60,61,43,45,42]⟩ (UInt8.ofNat n.1))=signs.contains (UInt8.ofNat n.1):=by decide +kernel
 have:=key ⟨c.toNat,c.toNat_lt⟩
 simpa using this
theorem signs_low (c:UInt8) (h:signs.contains c=true):(c.toNat:Int) < 128:=by
 have key:∀ n:Fin 256,signs.contains (UInt8.ofNat n.1)=true→(n.1:Int) < 128:=by decide +kernel
 exact key ⟨c.toNat,c.toNat_lt⟩ (by simpa using h)
theorem use1 {A C G:Prop} (c:A→C) (a:A) (k:C→G):G:=k (c a)
theorem use2 {A B C G:Prop} (c:A→B→C) (a:A) (b:B) (k:C→G):G:=k (c a b)
theorem use3 {A B E C G:Prop} (c:A→B→E→C) (a:A) (b:B) (e:E) (k:C→G):G:=k (c a b e)
theorem errL (kd:Int) (n:Nat) (c:UInt8) (h:kd=1∨kd=2):tokErr kd n c=if 12 < n then 2 else 0:=by
 unfold tokErr
 rcases h with rfl|rfl <;> simp
theorem errD (n:Nat) (c:UInt8):tokErr 3 n c=if 7 < n then 2 else if 1 < n∧(c.toNat:Int)=48 then 1 else 0:=by
 rw [tokErr_int]
 simp only [if_false,true_and,Int.reduceEq,or_self,false_and,false_or]
 by_cases h1:7 < n
 ·rw [if_pos h1,if_pos (by omega)]
 ·rw [if_neg h1,if_neg (by omega)]
  by_cases h2:1 < n∧(c.toNat:Int)=48
  ·rw [if_pos h2,if_pos (by omega)]
  ·rw [if_neg h2,if_neg (by omega)]
theorem errP (n:Nat) (c:UInt8):tokErr 4 n c=0:=by
 unfold tokErr
 simp
theorem small_great {c:UInt8} (h:smallB c=true):greatB c=false:=by
 unfold smallB at h
 unfold greatB
 simp at h ⊢
 omega
def tokenR (s:ByteArray) (i:Nat) (hi:i < s.size) (r:SV) (H2:Hp):Prop :=
 ∃ (kd e:Int) (tx:ByteArray) (j:Nat),r = .tup [.agg [.d (.int .i64 kd),.d (.int .i64 i),.d (.str tx)],.d (.int .i64 e)]∧H2=scH s j∧e=tokErr (tokAt (s.data.toList.drop i)).1 (tokAt (s.data.toList.drop i)).2 s[i] ∧
  (e=0→kd=(tokAt (s.data.toList.drop i)).1∧tx=s.extract i (i + (tokAt (s.data.toList.drop i)).2)∧j=i + (tokAt (s.data.toList.drop i)).2)
set_option maxHeartbeats 8000000 in
theorem token_fn (s:ByteArray) (i:Nat) (hi:i < s.size) (hs:s.size≤5000) :
  FnS 45 [.loc 0 0] 1 1 (scH s i) (fun _ r H2=>tokenR s i hi r H2):=by
 refine fn_enterF _ Tryz.func45 rfl rfl (by kernel_rfl) ?_
 intro O w0 E0 β0
 repeat' (first|refine z0 ?_|apply ds_nil|apply dw_seq2|refine z16 ?_|apply thenD_n|refine z1 ?_|refine z3 ?_|fail)
 (refine ds_callF id (sign_fn s i) rfl rfl rfl rfl ⟨rfl,trivial⟩ rfl rfl rfl rfl rfl rfl ?_ ?_)
 ·rintro k2 r H2 ⟨rfl,rfl,rfl⟩
  exact⟨rfl,rfl⟩
 rintro k2 r H2 ⟨rfl,rfl,rfl⟩
 rw [dif_pos hi]
 change DS _ _ _ _ _ _ _ _
 have hl0:s.data.toList.length=s.size:=by simp
 have hla:=takeW_le alnumB (s.data.toList.drop i)
 have hld:=takeW_le digitB (s.data.toList.drop i)
 rw [List.length_drop,hl0] at hla hld
 have hea:(s.extract i (i + takeW alnumB (s.data.toList.drop i))).size=takeW alnumB (s.data.toList.drop i):=by rw [ByteArray.size_extract];omega
 have hed:(s.extract i (i + takeW digitB (s.data.toList.drop i))).size=takeW digitB (s.data.toList.drop i):=by rw [ByteArray.size_extract];omega
 have cS:smallB s[i]=true→(tokAt (s.data.toList.drop i)).1=1∧(tokAt (s.data.toList.drop i)).2=takeW alnumB (s.data.toList.drop i):=by
  intro h
  rw [tok_letter s i hi (by unfold letterB;simp [h]),if_pos h]
  exact⟨rfl,rfl⟩
 have cG:smallB s[i]=false→greatB s[i]=true→(tokAt (s.data.toList.drop i)).1=2∧(tokAt (s.data.toList.drop i)).2=takeW alnumB (s.data.toList.drop i):=by
  intro h h2
  rw [tok_letter s i hi (by unfold letterB;simp [h2]),if_neg (by rw [h];exact Bool.false_ne_true)]
  exact⟨rfl,rfl⟩
 have cD:smallB s[i]=false→greatB s[i]=false→digitB s[i]=true→(tokAt (s.data.toList.drop i)).1=3∧(tokAt (s.data.toList.drop i)).2=takeW digitB (s.data.toList.drop i):=by
  intro h h2 h3
  rw [tok_digit s i hi (by unfold letterB;simp [h,h2]) h3]
  exact⟨rfl,rfl⟩
 have cN:smallB s[i]=false→greatB s[i]=false→digitB s[i]=false→tokAt (s.data.toList.drop i)=if pairAt (s.extract i s.size) ≥ 0 then (4,2) else if signs.contains s[i] then (4,1) else (0,0):=by
  intro h h2 h3
  rw [tok_sign s i hi (by unfold letterB;simp [h,h2]) h3,← pair_at s i hi]
  by_cases hp:pairAt (s.extract i s.size) ≥ 0
  ·rw [if_pos hp,if_pos (by simpa using hp)]
  ·rw [if_neg hp,if_neg (by simpa using hp)]
 have cX:smallB s[i]=true→greatB s[i]=true→False:=fun h h2=>by rw [small_great h] at h2;cases h2
 have cY:greatB s[i]=true→greatB s[i]=false→False:=fun h h2=>by rw [h] at h2;cases h2
 have hroom:=pair_room s i hi
 clear hl0
 repeat' (first|refine z0 ?_|refine z12 ?_|apply ds_nil|apply dw_seq2|refine z16 ?_|apply dw_block|apply dw_skip|refine z18 ?_|apply thenD_n|refine z21 ?_ (hc:=by apply small_fn)|refine z21 ?_ (hc:=by apply great_fn)|refine z21 ?_ (hc:=by apply digit_fn)|refine z3 ?_|(apply dw_cond;exact rfl;all_goals intro hg)|((fail_if_success (apply ds_known;exact rfl));apply ds_guardB;exact rfl;exact rfl;exact rfl;all_goals intro hg))
 all_goals first
  | ((refine ds_callF id (run_fn s i (by omega) hs _ alnumB alnum_fn) rfl rfl rfl rfl ⟨rfl,trivial⟩ rfl rfl rfl rfl rfl rfl ?_ ?_)
     ·rintro k2 r H2 ⟨rfl,rfl,rfl⟩
      exact⟨rfl,rfl⟩
     rintro k2 r H2 ⟨rfl,rfl,rfl⟩
     change DS _ _ _ _ _ _ _ _)
  | ((refine ds_callF id (run_fn s i (by omega) hs _ digitB digit_fn) rfl rfl rfl rfl ⟨rfl,trivial⟩ rfl rfl rfl rfl rfl rfl ?_ ?_)
     ·rintro k2 r H2 ⟨rfl,rfl,rfl⟩
      exact⟨rfl,rfl⟩
     rintro k2 r H2 ⟨rfl,rfl,rfl⟩
     change DS _ _ _ _ _ _ _ _)
  | skip
 repeat' (first|refine z0 ?_|refine z12 ?_|apply ds_nil|apply dw_seq2|refine z16 ?_|apply dw_skip|apply dw_ret|refine z19 ?_|apply thenD_n|apply thenD_r|apply inB_n|apply inB_r|refine z21 ?_ (hc:=by apply pairs_fn)|refine z3 ?_|(refine z23 ?_ ?_ <;> intro hg)|((fail_if_success (apply ds_known;exact rfl));apply ds_guardP;exact rfl;exact rfl;exact rfl;all_goals intro hg))
 all_goals first
  | (refine use2 cX ?_ ?_ False.elim;assumption;assumption)
  | (refine use2 cY ?_ ?_ False.elim;assumption;assumption)
  | (refine use1 cS ?_ ?_;assumption;rintro⟨t1,t2⟩
     refine⟨.inl rfl,_,rfl,1,scH s _,⟨rfl,trivial⟩,rfl,rfl,rfl,rfl,_,_,_,_,rfl,rfl,?_,?_⟩
     ·rw [t1,t2,errL _ _ _ (.inl rfl)]
      first|rw [if_pos (by omega)]|rw [if_neg (by omega)]
     ·intro he
      first|exact absurd he (by decide)|(rw [t1,t2];exact⟨rfl,rfl,rfl⟩))
  | (refine use2 cG ?_ ?_ ?_;assumption;assumption;rintro⟨t1,t2⟩
     refine⟨.inl rfl,_,rfl,1,scH s _,⟨rfl,trivial⟩,rfl,rfl,rfl,rfl,_,_,_,_,rfl,rfl,?_,?_⟩
     ·rw [t1,t2,errL _ _ _ (.inr rfl)]
      first|rw [if_pos (by omega)]|rw [if_neg (by omega)]
     ·intro he
      first|exact absurd he (by decide)|(rw [t1,t2];exact⟨rfl,rfl,rfl⟩))
  | (refine use3 cD ?_ ?_ ?_ ?_;assumption;assumption;assumption;rintro⟨t1,t2⟩
     refine⟨.inl rfl,_,rfl,1,scH s _,⟨rfl,trivial⟩,rfl,rfl,rfl,rfl,_,_,_,_,rfl,rfl,?_,?_⟩
     ·rw [t1,t2,errD]
      first|rw [if_pos (by omega)]|rw [if_neg (by omega),if_pos (by omega)]|rw [if_neg (by omega),if_neg (by omega)]
     ·intro he
      first|exact absurd he (by decide)|(rw [t1,t2];exact⟨rfl,rfl,rfl⟩))
  | skip
 have hT:=cN ‹_› ‹_› ‹_›
 (refine ds_callF id (containsFunc_fn s i (by omega)) rfl rfl rfl rfl ⟨rfl,rfl,trivial⟩ rfl rfl rfl rfl rfl rfl ?_ ?_)
 ·rintro k2 r H2 ⟨rfl,rfl⟩
  exact⟨rfl,rfl⟩
 rintro k2 r H2 ⟨rfl,rfl⟩
 change DS _ _ _ _ _ _ _ _
 repeat' (first|refine z0 ?_|apply ds_nil|apply thenD_n)
 refine dw_condP rfl (fun hp=>?_) (fun hp=>?_)
 ·have hr:=hroom hp
  rw [if_pos hp] at hT
  repeat' (first|refine z0 ?_|apply ds_nil|refine z5 ?_|refine z6 ?_|refine z10 ?_|apply dw_seq2|refine z16 ?_|refine z20 ?_|apply dw_ret|apply thenD_n|apply inB_n|refine z3 ?_|fail)
  refine⟨.inl rfl,_,rfl,1,scH s _,⟨rfl,trivial⟩,rfl,rfl,rfl,rfl,_,_,_,_,rfl,rfl,?_,?_⟩
  ·rw [hT,errP]
  ·intro he
   rw [hT]
   exact⟨rfl,rfl,rfl⟩
 ·rw [if_neg hp] at hT
  repeat' (first|refine z0 ?_|apply ds_nil|apply dw_seq2|refine z16 ?_|apply thenD_n|refine z21 ?_ (hc:=by apply indexByte_fn)|fail)
  have hidx:=idx_signs s[i]
  have hu:((s[i].toNat:Int).toNat.toUInt8)=s[i]:=by simp
  refine dw_condP rfl (fun hq=>?_) (fun hq=>?_)
  ·rw [hu] at hq
   rw [decide_eq_true (by exact hq)] at hidx
   have hlow:=signs_low s[i] hidx.symm
   have hlow0:(0:Int)≤(s[i].toNat:Int):=by omega
   rw [if_pos hidx.symm] at hT
   have hone:(⟨#[s[i]]⟩:ByteArray)=s.extract i (i + 1):=by
    apply ByteArray.ext
    simp only [ByteArray.data_extract]
    apply Array.toList_inj.1
    rw [Array.toList_extract,List.extract_eq_take_drop,show i + 1 - i=1 by omega,drop_cons s i hi]
    rfl
   repeat' (first|refine z0 ?_|apply ds_nil|apply dw_seq2|refine z16 ?_|apply dw_ret|apply thenD_n|apply inB_n|refine z3 ?_|fail)
   refine⟨.inl rfl,_,rfl,1,scH s _,⟨rfl,trivial⟩,rfl,rfl,rfl,rfl,_,_,_,_,rfl,rfl,?_,?_⟩
   ·rw [hT,errP]
   ·intro he
    rw [hT]
    exact⟨rfl,hone,rfl⟩
  ·rw [hu] at hq
   rw [decide_eq_false (by exact hq)] at hidx
   rw [if_neg (by rw [← hidx];exact Bool.false_ne_true)] at hT
   repeat' (first|refine z0 ?_|apply ds_nil|apply dw_seq2|refine z16 ?_|apply dw_ret|apply thenD_n|apply thenD_r|apply inB_r|refine z3 ?_|fail)
   refine⟨.inl rfl,_,rfl,1,scH s _,⟨rfl,trivial⟩,rfl,rfl,rfl,rfl,_,_,_,_,rfl,rfl,?_,?_⟩
   ·rw [hT]
    unfold tokErr
    simp
   ·intro he
    exact absurd he (by decide)
def scanInv (s:ByteArray) (x:List Tok × Nat):Prop :=
 x.2≤s.size∧x.1.length≤x.2∧scanAt s false 0=(scanAt s false x.2).map (x.1++·) ∧
 ∀ h:x.2 < s.size,¬ (s[x.2].toNat:Int)=37∧¬ (s[x.2].toNat:Int)=32∧¬ (s[x.2].toNat:Int)=9∧¬ (s[x.2].toNat:Int)=10
set_option maxHeartbeats 8000000 in
theorem scan_fn (s:ByteArray):Fn 18 [.d (.str s)] (fun r=>r=encScan (scanS s)):=by
 refine fnp_enter' _ Tryz.func18 rfl rfl (by kernel_rfl) ?_
 intro O w0 E0 β0
 repeat' (first|refine z0 ?_|apply ds_nil|apply dw_seq2|refine z16 ?_|apply thenD_n)
 refine dw_condP rfl (fun hbig=>?_) (fun hbig=>?_)
 ·repeat' (first|refine z0 ?_|apply ds_nil|apply dw_seq2|refine z16 ?_|apply thenD_n)
  refine dw_nild 2 3 rfl ?_
  repeat' (first|apply dw_ret|apply thenD_r)
  exact ret_3 rfl (by rw [scanS_big s (by omega)];exact⟨rfl,rfl,rfl⟩)
 ·repeat' (first|refine z0 ?_|apply ds_nil|apply dw_seq2|refine z16 ?_|apply dw_skip|apply thenD_n|refine z1 ?_|fail)
  (refine ds_callF id (skip_fn s 0 (by omega) (by omega)) rfl rfl rfl rfl ⟨rfl,trivial⟩ rfl rfl rfl rfl rfl rfl ?_ ?_)
  ·rintro k2 r H2 ⟨rfl,rfl,j,_,_,_,_,rfl⟩
   exact⟨rfl,rfl⟩
  rintro k2 r H2 ⟨rfl,rfl,j0,g1,g2,g3,g4,rfl⟩
  change DS _ _ _ _ _ _ _ _
  repeat' (first|apply ds_nil|apply dw_block|apply thenD_n)
  refine dw_nilrow (t:=6) 43 3 rfl ?_
  refine ds_loop (ι:=List Tok × Nat) (fun x=>⟨2,[(0,.d (.str s)),(5,.loc 0 0),(6,.row 1)],[(0,.blk 87 [.d (.str s),.d (.int .i64 x.2)]),(1,.row 43 3 (x.1.map encTok))]⟩)
   (scanInv s) (fun x=>s.size - x.2) ([],j0) ⟨g2,Nat.zero_le _,by rw [g3];cases scanAt s false j0 <;> rfl,g4⟩
   (ent_ren id ⟨rfl,rfl,rfl,trivial⟩ ⟨rfl,rfl,trivial⟩ rfl rfl rfl rfl rfl rfl) ?_
  rintro⟨toks,i⟩ ⟨h1,h2,h3,h4⟩
  dsimp only at h1 h2 h3 h4 ⊢
  repeat' (first|refine z0 ?_|apply ds_nil|apply dw_seq2|refine z16 ?_|apply thenD_n)
  refine dw_condP rfl (fun hlt=>?_) (fun hlt=>?_)
  ·have hlt':i < s.size:=by omega
   have h4':=h4 hlt'
   repeat' (first|refine z0 ?_|apply dw_seq2|refine z16 ?_|apply dw_block|apply dw_skip|apply thenD_n)
   (refine ds_callF id (token_fn s i hlt' (by omega)) rfl rfl rfl rfl ⟨rfl,trivial⟩ rfl rfl rfl rfl rfl rfl ?_ ?_)
   ·rintro k2 r H2 ⟨kd,e,tx,j,rfl,rfl,_,_⟩
    exact⟨rfl,rfl⟩
   rintro k2 r H2 ⟨kd,e,tx,j,rfl,rfl,he,hz⟩
   change DS _ _ _ _ _ _ _ _
   have hS:=tok_step s false i hlt' rfl h4'.1 h4'.2.1 h4'.2.2.1 h4'.2.2.2 _ rfl
   have hle:=tokAt_le (s.data.toList.drop i)
   have hpo:=tokAt_pos (s.data.toList.drop i)
   rw [List.length_drop,show s.data.toList.length=s.size by simp] at hle
   generalize tokAt (s.data.toList.drop i)=q at hS hle hpo he hz
   obtain⟨kind,n⟩:=q
   dsimp only at hS hle hpo he hz
   rw [hS] at h3
   repeat' (first|refine z0 ?_|apply ds_nil|apply dw_seq2|refine z16 ?_|apply thenD_n|refine z1 ?_|refine z3 ?_|fail)
   refine dw_condP rfl (fun hne=>?_) (fun hne=>?_)
   ·repeat' (first|refine z5 ?_|refine z10 ?_|apply dw_seq2|refine z20 ?_|apply thenD_n)
    refine dw_nild 2 3 rfl ?_
    repeat' (first|apply dw_ret|apply thenD_r|apply inB_r)
    refine ret_3 rfl ?_
    have:=scanS_err s (by omega) i e (by rw [h3,if_neg (by rw [← he];exact hne),← he];rfl)
    rw [this]
    exact⟨rfl,rfl,rfl⟩
   ·have he0:e=0:=Decidable.not_not.1 hne
    obtain⟨z1,z2,z3⟩:=hz he0
    rw [if_pos (by rw [← he];exact he0)] at h3
    have hn1:=hpo (by intro hk;rw [hk] at he;unfold tokErr at he;simp at he;omega)
    subst z1;subst z2;subst z3
    repeat' (first|refine z0 ?_|apply ds_nil|refine z16 ?_|apply dw_skip|apply thenD_n|apply inB_n|refine z4 ?_|refine z2 ?_|fail)
    (refine ds_callF id (skip_fn s (i + n) (by omega) (by omega)) rfl rfl rfl rfl ⟨rfl,trivial⟩ rfl rfl rfl rfl rfl rfl ?_ ?_)
    ·rintro k2 r H2 ⟨rfl,rfl,j,_,_,_,_,rfl⟩
     exact⟨rfl,rfl⟩
    rintro k2 r H2 ⟨rfl,rfl,j,q1,q2,q3,q4,rfl⟩
    change DS _ _ _ _ _ _ _ _
    repeat' (first|apply ds_nil|apply thenD_n)
    refine⟨(toks++[⟨kd,i,s.extract i (i + n)⟩],j),⟨?_,?_,?_,q4⟩,?_,?_⟩
    ·exact q2
    ·show (toks++[_]).length≤j
     rw [List.length_append]
     show _ + 1≤_
     omega
    ·show scanAt s false 0=_
     rw [h3,map_map,q3]
     simp only [List.append_assoc,List.singleton_append]
    ·dsimp only
     rw [List.map_append]
     exact ent_ren (fun i=>match i with|0=>0|_=>3) ⟨rfl,rfl,rfl,trivial⟩ ⟨rfl,rfl,trivial⟩ rfl rfl rfl rfl rfl rfl
    ·show s.size - j < s.size - i;omega
  ·repeat' (first|refine z0 ?_|apply ds_nil|apply dw_seq2|refine z16 ?_|apply dw_exit|apply thenD_n|apply thenD_e|refine z17 ?_|fail)
   refine dw_seal 2 rfl rfl ?_
   repeat' (apply dw_ret)
   refine ret_3 rfl ?_
   rw [scanS_ok s (by omega) toks (by rw [h3,scanAt_end s false i (by omega)];exact congrArg Except.ok (List.append_nil _))]
   exact⟨rfl,rfl,rfl⟩
def oneS (kind:Int) (s:ByteArray):Bool:=match scanS s with
 | ([t],_,e)=>decide (e=0) && (decide (t.kind=kind) && decide (t.text=s))
 | _=>false
set_option maxHeartbeats 8000000 in
theorem one_fn (kind:Int) (s:ByteArray):Fn 46 [.d (.int .i64 kind),.d (.str s)] (fun r=>r = .d (.bool (oneS kind s))):=by
 refine fnp_enter' _ Tryz.func46 rfl rfl (by kernel_rfl) ?_
 intro O w0 E0 β0
 have hsc:=scan_fn s
 unfold oneS
 generalize scanS s=q at hsc ⊢
 obtain⟨l,p,e⟩:=q
 unfold encScan encToks at hsc
 dsimp only at hsc
 rcases l with _|⟨t,_|⟨t',l⟩⟩
 ·repeat' (first|refine z0 ?_|refine z12 ?_|apply ds_nil|apply dw_seq2|refine z16 ?_|apply dw_ret|apply thenD_n|refine z21 ?_ (hc:=by apply hsc)|((fail_if_success (apply ds_known;exact rfl));apply ds_guardP;exact rfl;exact rfl;exact rfl;all_goals intro hg))
  all_goals exact ret_b rfl (by simp)
 ·repeat' (first|refine z0 ?_|refine z12 ?_|apply ds_nil|apply dw_seq2|refine z16 ?_|apply dw_ret|apply thenD_n|refine z21 ?_ (hc:=by apply hsc)|((fail_if_success (apply ds_known;exact rfl));apply ds_guardP;exact rfl;exact rfl;exact rfl;all_goals intro hg))
  all_goals exact ret_b rfl (by simp_all)
 ·repeat' (first|refine z0 ?_|refine z12 ?_|apply ds_nil|apply dw_seq2|refine z16 ?_|apply dw_ret|apply thenD_n|refine z21 ?_ (hc:=by apply hsc)|((fail_if_success (apply ds_known;exact rfl));apply ds_guardP;exact rfl;exact rfl;exact rfl;all_goals intro hg))
  all_goals first
   | exact ret_b rfl (by simp_all)
   | (rename_i h;exfalso;revert h;simp;done)
   | (exfalso;simp at *;done)
   | (exfalso;simp at *;omega)
def eqS (x y:ByteArray):Bool:=decide (y=x)
abbrev elS (s:ByteArray):SV:=.d (.str s)
set_option maxHeartbeats 8000000 in
theorem indexS_fn (y:ByteArray) (l:List (ByteArray)):Fn 110 [.d (.slice 1 (l.map encT)),elS y] (fun r=>r = .d (.int .i64 (idxF (fun x=>eqS x y) l))):=by
 refine fnp_enter' _ Tryz.func110 rfl rfl (by kernel_rfl) ?_
 intro O w0 E0 β0
 refine dw_len_map (t:=0) rfl fun hb=>?_
 repeat' (first|refine z0 ?_|apply ds_nil|apply dw_seq2|refine z16 ?_|apply dw_block|apply thenD_n)
 refine ds_loop (ι:=Nat) (fun i=>⟨0,[(0,.d (.slice 1 (l.map encT))),(1,.d (.str y)),(7,.d (.int .i64 l.length)),(8,.d (.int .i64 i))],[]⟩)
  (fun i=>i≤l.length∧∀ j (hj:j < l.length),j < i→eqS l[j] y=false) (fun i=>l.length - i) 0 ⟨Nat.zero_le _,fun j _ h=>absurd h (Nat.not_lt_zero j)⟩
  (ent_ren id ⟨rfl,rfl,by simp;rfl,rfl,trivial⟩ trivial rfl rfl rfl rfl rfl rfl) ?_
 rintro i ⟨h1,h2⟩
 repeat' (first|refine z0 ?_|apply ds_nil|apply dw_seq2|refine z16 ?_|apply thenD_n)
 refine dw_condP rfl (fun h=>?_) (fun h=>?_)
 ·have hi:i < l.length:=by omega
  repeat' (first|refine z0 ?_|apply ds_nil|apply dw_seq2|refine z16 ?_|apply dw_block|apply dw_skip|apply thenD_n)
  refine dw_cond rfl (fun hb=>?_) (fun hb=>?_)
  ·repeat' (first|refine z0 ?_|apply ds_nil|apply dw_seq2|refine z16 ?_|apply dw_ret|apply thenD_n|apply thenD_r|apply inB_r)
   exact ret_i rfl (idxF_hit (p:=fun x=>eqS x y) h2 hi (id hb)).symm
  ·repeat' (first|refine z0 ?_|apply ds_nil|refine z16 ?_|apply dw_skip|apply thenD_n|apply inB_n)
   exact⟨i + 1,⟨hi,none_step (p:=fun x=>eqS x y) h2 hi (id hb)⟩,ent_ren id ⟨rfl,rfl,rfl,rfl,trivial⟩ trivial rfl rfl rfl rfl rfl rfl,by omega⟩
 ·repeat' (first|refine z0 ?_|apply ds_nil|apply dw_seq2|refine z16 ?_|apply dw_exit|apply dw_ret|apply thenD_n|apply thenD_e|refine z17 ?_|fail)
  exact ret_i rfl (idxF_none fun j hj=>h2 j hj (by omega)).symm
set_option maxHeartbeats 8000000 in
theorem containsS_fn (y:ByteArray) (l:List ByteArray):Fn 97 [.d (.slice 1 (l.map encT)),.d (.str y)] (fun r=>r = .d (.bool (l.any fun x=>eqS x y))):=by
 refine fnp_enter' _ Tryz.func97 rfl rfl (by kernel_rfl) ?_
 intro O w0 E0 β0
 have hx:=indexS_fn y l
 repeat' (first|refine z0 ?_|apply ds_nil|apply dw_seq2|refine z16 ?_|apply dw_ret|apply thenD_n|refine z21 ?_ (hc:=by apply hx)|fail)
 exact ret_b rfl (idxF_any _ l)
def wordsL:List ByteArray:=[⟨#[110,111,116]⟩,⟨#[99,111,117,110,116]⟩,⟨#[115,117,109]⟩,⟨#[108,101,97,115,116]⟩,⟨#[109,111,115,116]⟩]
def wordB (s:ByteArray):Bool:=wordsL.any fun x=>eqS x s
def nameS (s:ByteArray):Bool:=oneS 1 s && !wordB s
set_option maxHeartbeats 8000000 in
theorem words_fn:Fn 53 [] (fun r=>r = .d (.slice 1 (wordsL.map encT))):=by
 refine fnp_enter' _ Tryz.func53 rfl rfl (by kernel_rfl) ?_
 intro O w0 E0 β0
 repeat' (first|refine z0 ?_|apply ds_nil|apply dw_seq2|refine z16 ?_|apply dw_ret|apply thenD_n|refine z4 ?_|fail)
 exact⟨.inl rfl,_,rfl,rfl,rfl⟩
set_option maxHeartbeats 8000000 in
theorem tokenName_fn (s:ByteArray):Fn 96 [.d (.str s)] (fun r=>r = .d (.bool (oneS 1 s))):=by
 refine fnp_enter' _ Tryz.func96 rfl rfl (by kernel_rfl) ?_
 intro O w0 E0 β0
 repeat' (first|refine z0 ?_|apply ds_nil|apply dw_seq2|refine z16 ?_|apply dw_ret|apply thenD_n|refine z21 ?_ (hc:=by apply one_fn)|fail)
 exact ret_b rfl rfl
set_option maxHeartbeats 8000000 in
theorem treeName_fn (s:ByteArray):Fn 65 [.d (.str s)] (fun r=>r = .d (.bool (nameS s))):=by
 refine fnp_enter' _ Tryz.func65 rfl rfl (by kernel_rfl) ?_
 intro O w0 E0 β0
 have h1:=containsS_fn s wordsL
 have h2:=tokenName_fn s
 unfold nameS wordB
 repeat' (first|refine z0 ?_|refine z12 ?_|apply ds_nil|apply dw_seq2|refine z16 ?_|apply dw_ret|apply thenD_n|refine z21 ?_ (hc:=by apply h1)|refine z21 ?_ (hc:=by apply h2)|refine z21 ?_ (hc:=by apply words_fn)|((fail_if_success (apply ds_known;exact rfl));apply ds_guardB;exact rfl;exact rfl;exact rfl;all_goals intro hg))
 all_goals exact ret_b rfl (by simp_all)
end Go.Proofs.YtapciiffpnociabGreatDoor
