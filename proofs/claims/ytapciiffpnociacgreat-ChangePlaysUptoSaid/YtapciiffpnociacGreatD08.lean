/- Several texts in one: WirA WirB TokR WirC GxElm RelA ScoP ScoE GxNil StrA RelD. Condition: none. -/
import Derived.Test.YtapciiffpnociacGreatD07
import Derived.Laws.MakeOwn
import Derived.Laws.OwnMore
import Derived.Test.YtapciiffpnociacGreatD01
import Derived.Lib.SliceRun

/- The program's orders of ids and facts; whether lists rise. Condition: none. -/
namespace Go.Proofs.YtapciiffpnociacGreat
open Go Go.RowKit
attribute [local irreducible] DW DS DL DQ Ev FnOk FnP thenD inBlockD DT
set_option maxHeartbeats 8000000 in
theorem isNaN_fnD (dr:Bool) (a:Int):FnD dr 139 [.d (.int .i64 a)] (fun r=>r = .d (.bool false)):=by
 refine fnp_enter' _ Tryz.func139 rfl rfl (by kernel_rfl) ?_
 intro O w0 E0 β0
 repeat' (first|refine z0 ?_|apply ds_nil|apply dw_seq2|refine z16 ?_|apply dw_ret|apply thenD_n)
 exact ret_b rfl (by simp)
set_option maxHeartbeats 8000000 in
theorem compare_fnD (dr:Bool) (a b:Int):FnD dr 100 [.d (.int .i64 a),.d (.int .i64 b)] (fun r=>r = .d (.int .i64 (cmpI a b))):=by
 refine fnp_enter' _ Tryz.func100 rfl rfl (by kernel_rfl) ?_
 intro O w0 E0 β0
 repeat' (first|refine z0 ?_|apply ds_nil|apply dw_seq2|refine z16 ?_|apply dw_skip|apply dw_ret|refine z19 ?_|apply thenD_n|apply thenD_r|refine z21 ?_ (hc:=by apply isNaN_fnD)|(refine z23 ?_ ?_ <;> intro hg)|fail)
 all_goals exact ret_i rfl (by unfold cmpI;simp [*])
def orL:List Int→Int
 | []=>0
 | a::l=>if a=0 then orL l else a
set_option maxHeartbeats 8000000 in
theorem or_fnD (dr:Bool) (l:List Int):FnD dr 99 [.d (.slice 1 (l.map encI))] (fun r=>r = .d (.int .i64 (orL l))):=by
 refine fnp_enter' _ Tryz.func99 rfl rfl (by kernel_rfl) ?_
 intro O w0 E0 β0
 refine dw_len_map (t:=0) rfl fun hb=>?_
 repeat' (first|refine z0 ?_|apply ds_nil|apply dw_seq2|refine z16 ?_|apply dw_block|apply thenD_n)
 refine ds_loop (ι:=Nat) (fun i=>⟨0,[(3,.d (.int .i64 0)),(6,.d (.slice 1 (l.map encI))),(7,.d (.int .i64 l.length)),(8,.d (.int .i64 i))],[]⟩)
  (fun i=>i≤l.length∧orL l=orL (l.drop i)) (fun i=>l.length - i) 0 ⟨Nat.zero_le _,rfl⟩
  (ent_ren id ⟨rfl,rfl,by simp;rfl,rfl,trivial⟩ trivial rfl rfl rfl rfl rfl rfl) ?_
 rintro i ⟨h1,h2⟩
 repeat' (first|refine z0 ?_|apply ds_nil|apply dw_seq2|refine z16 ?_|apply thenD_n)
 refine dw_condP rfl (fun h=>?_) (fun h=>?_)
 ·have hi:i < l.length:=by omega
  have hd:=List.drop_eq_getElem_cons hi
  repeat' (first|refine z0 ?_|apply ds_nil|apply dw_seq2|refine z16 ?_|apply dw_block|apply dw_skip|apply thenD_n)
  refine dw_condP rfl (fun hb=>?_) (fun hb=>?_)
  ·repeat' (first|refine z0 ?_|apply ds_nil|apply dw_seq2|refine z16 ?_|apply dw_ret|apply thenD_n|apply thenD_r|apply inB_r)
   exact ret_i rfl (by rw [h2,hd,orL,if_neg hb])
  ·repeat' (first|refine z0 ?_|apply ds_nil|refine z16 ?_|apply dw_skip|apply thenD_n|apply inB_n)
   exact⟨i + 1,⟨hi,by rw [h2,hd,orL,if_pos (Decidable.not_not.1 hb)]⟩,ent_ren id ⟨rfl,rfl,rfl,rfl,trivial⟩ trivial rfl rfl rfl rfl rfl rfl,by omega⟩
 ·repeat' (first|refine z0 ?_|apply ds_nil|apply dw_seq2|refine z16 ?_|apply dw_exit|apply dw_ret|apply thenD_n|apply thenD_e|refine z17 ?_|fail)
  exact ret_i rfl (by rw [h2,List.drop_of_length_le (by omega)];rfl)
theorem ordL_step {l m:List Int} {i:Nat} (h1:i < l.length) (h2:i < m.length):ordL (l.drop i) (m.drop i)=if cmpI l[i] m[i]=0 then ordL (l.drop (i + 1)) (m.drop (i + 1)) else cmpI l[i] m[i]:=by
 rw [List.drop_eq_getElem_cons h1,List.drop_eq_getElem_cons h2,ordL]
theorem ordL_more {l m:List Int} {i:Nat} (h1:i < l.length) (h2:m.length≤i):ordL (l.drop i) (m.drop i)=1:=by
 rw [List.drop_eq_getElem_cons h1,List.drop_of_length_le h2];unfold ordL;rfl
theorem ordL_less {l m:List Int} {i:Nat} (h1:l.length≤i) (h2:i < m.length):ordL (l.drop i) (m.drop i) = -1:=by
 rw [List.drop_eq_getElem_cons h2,List.drop_of_length_le h1];unfold ordL;rfl
theorem ordL_end {l m:List Int} {i:Nat} (h1:l.length≤i) (h2:m.length≤i):ordL (l.drop i) (m.drop i)=0:=by
 rw [List.drop_of_length_le h1,List.drop_of_length_le h2];unfold ordL;rfl
set_option maxHeartbeats 8000000 in
theorem compareInts_fnD (dr:Bool) (l m:List Int):FnD dr 88 [.d (.slice 1 (l.map encI)),.d (.slice 1 (m.map encI))] (fun r=>r = .d (.int .i64 (ordL l m))):=by
 refine fnp_enter' _ Tryz.func88 rfl rfl (by kernel_rfl) ?_
 intro O w0 E0 β0
 refine dw_len_map (t:=0) rfl fun hb=>?_
 refine dw_len_map (t:=1) rfl fun hb2=>?_
 repeat' (first|refine z0 ?_|apply ds_nil|apply dw_seq2|refine z16 ?_|apply dw_block|apply thenD_n)
 refine ds_loop (ι:=Nat) (fun i=>⟨0,[(0,.d (.slice 1 (l.map encI))),(1,.d (.slice 1 (m.map encI))),(9,.d (.slice 1 (l.map encI))),(10,.d (.int .i64 l.length)),(11,.d (.int .i64 i))],[]⟩)
  (fun i=>i≤l.length∧i≤m.length∧ordL l m=ordL (l.drop i) (m.drop i)) (fun i=>l.length - i) 0 ⟨Nat.zero_le _,Nat.zero_le _,rfl⟩
  (ent_ren id ⟨rfl,rfl,rfl,by simp;rfl,rfl,trivial⟩ trivial rfl rfl rfl rfl rfl rfl) ?_
 rintro i ⟨h1,h2,h3⟩
 repeat' (first|refine z0 ?_|apply ds_nil|apply dw_seq2|refine z16 ?_|apply thenD_n)
 refine dw_condP rfl (fun h=>?_) (fun h=>?_)
 ·have hi:i < l.length:=by omega
  repeat' (first|refine z0 ?_|apply ds_nil|apply dw_seq2|refine z16 ?_|apply dw_block|apply dw_skip|apply thenD_n)
  refine dw_condP rfl (fun hb=>?_) (fun hb=>?_)
  ·repeat' (first|refine z0 ?_|apply ds_nil|apply dw_seq2|refine z16 ?_|apply dw_ret|apply thenD_n|apply thenD_r|apply inB_r)
   exact ret_i rfl (by rw [h3,ordL_more hi (by rw [List.length_map] at hb;omega)])
  ·have hm:i < m.length:=by rw [List.length_map] at hb;omega
   have hs:=ordL_step hi hm
   repeat' (first|refine z0 ?_|apply ds_nil|apply dw_seq2|refine z16 ?_|apply dw_skip|apply thenD_n|refine z21 ?_ (hc:=by apply compare_fnD)|fail)
   refine dw_condP rfl (fun hc=>?_) (fun hc=>?_)
   ·repeat' (first|refine z0 ?_|apply ds_nil|apply dw_seq2|refine z16 ?_|apply dw_ret|apply thenD_n|apply thenD_r|apply inB_r)
    exact ret_i rfl (by rw [h3,hs,if_neg hc])
   ·repeat' (first|refine z0 ?_|apply ds_nil|refine z16 ?_|apply dw_skip|apply thenD_n|apply inB_n)
    exact⟨i + 1,⟨hi,hm,by rw [h3,hs,if_pos (Decidable.not_not.1 hc)]⟩,ent_ren id ⟨rfl,rfl,rfl,rfl,rfl,trivial⟩ trivial rfl rfl rfl rfl rfl rfl,by omega⟩
 ·repeat' (first|refine z0 ?_|apply ds_nil|apply dw_seq2|refine z16 ?_|apply dw_exit|apply thenD_n|apply thenD_e|refine z17 ?_|fail)
  refine dw_condP rfl (fun hb=>?_) (fun hb=>?_)
  ·repeat' (first|refine z0 ?_|apply ds_nil|apply dw_seq2|refine z16 ?_|apply dw_ret|apply thenD_n|apply thenD_r)
   exact ret_i rfl (by rw [h3,ordL_less (by omega) (by rw [List.length_map,List.length_map] at hb;omega)])
  ·repeat' (first|refine z0 ?_|apply ds_nil|apply dw_seq2|refine z16 ?_|apply dw_skip|apply dw_ret|apply thenD_n)
   exact ret_i rfl (by rw [h3,ordL_end (by omega) (by rw [List.length_map,List.length_map] at hb;omega)])
theorem ordF_or (a b:Fct):ordF a b=orL [cmpI a.pred b.pred,ordL a.args b.args]:=by
 unfold ordF
 simp only [orL]
 split
 ·split
  ·assumption
  ·rfl
 ·rfl
set_option maxHeartbeats 8000000 in
theorem orderF_fnD (dr:Bool) (a b:Fct):FnD dr 63 [elFct a,elFct b] (fun r=>r = .d (.int .i64 (ordF a b))):=by
 refine fnp_enter' _ Tryz.func63 rfl rfl (by kernel_rfl) ?_
 intro O w0 E0 β0
 have ho:=or_fnD dr [cmpI a.pred b.pred,ordL a.args b.args]
 repeat' (first|refine z0 ?_|apply ds_nil|refine z5 ?_|refine z10 ?_|apply dw_seq2|refine z16 ?_|refine z20 ?_|apply dw_ret|apply thenD_n|refine z22 ?_ (hc:=by apply compare_fnD)|refine z22 ?_ (hc:=by apply compareInts_fnD)|refine z22 ?_ (hc:=by apply ho)|refine z1 ?_|fail)
 exact ret_i rfl (ordF_or a b).symm
theorem orderF_fn (a b:Fct):Fn 63 [elFct a,elFct b] (fun r=>r = .d (.int .i64 (ordF a b))):=orderF_fnD false a b
end Go.Proofs.YtapciiffpnociacGreat

/- The program's Check of updates. Condition: none. -/
namespace Go.Proofs.YtapciiffpnociacGreat
open Go Go.RowKit
attribute [local irreducible] DW DS DL DQ Ev FnOk FnP thenD inBlockD DT
end Go.Proofs.YtapciiffpnociacGreat

/- The reference's small calls on bytes, and TokenAt, answer what the plain words say. Condition: none. -/
namespace Go.Proofs.YtapciiffpnociacGreat
open Go Go.RowKit
attribute [local irreducible] DW DS DL DQ Ev FnOk FnP thenD inBlockD DT
set_option maxHeartbeats 8000000 in
theorem between_fn (n a b:Int):Fn 53 [.d (.int .i64 n),.d (.int .i64 a),.d (.int .i64 b)] (fun r=>r = .d (.bool (decide (a≤n) && decide (n≤b)))):=by
 refine fnp_enter' _ Tryz.func53 rfl rfl (by kernel_rfl) ?_
 intro O w0 E0 β0
 repeat' (first|refine z0 ?_|refine z12 ?_|apply ds_nil|apply dw_seq2|refine z16 ?_|apply dw_ret|apply thenD_n|((fail_if_success (apply ds_known;exact rfl));apply ds_guardP;exact rfl;exact rfl;exact rfl;all_goals intro hg))
 all_goals exact ret_b rfl (by first|(simp_all;done)|(simp_all;omega))
set_option maxHeartbeats 8000000 in
theorem isSmall_fn (c:UInt8):Fn 204 [.d (.int .u8 (c.toNat:Int))] (fun r=>r = .d (.bool (smallB c))):=by
 refine fnp_enter' _ Tryz.func204 rfl rfl (by kernel_rfl) ?_
 intro O w0 E0 β0
 repeat' (first|refine z0 ?_|apply ds_nil|apply dw_seq2|refine z16 ?_|apply dw_ret|apply thenD_n|refine z21 ?_ (hc:=by apply between_fn)|fail)
 all_goals exact ret_b rfl (by unfold smallB;rfl)
set_option maxHeartbeats 8000000 in
theorem isLetter_fn (c:UInt8):Fn 202 [.d (.int .u8 (c.toNat:Int))] (fun r=>r = .d (.bool (letterB c))):=by
 refine fnp_enter' _ Tryz.func202 rfl rfl (by kernel_rfl) ?_
 intro O w0 E0 β0
 repeat' (first|refine z0 ?_|refine z12 ?_|apply ds_nil|apply dw_seq2|refine z16 ?_|apply dw_ret|apply thenD_n|refine z21 ?_ (hc:=by apply between_fn)|refine z21 ?_ (hc:=by apply isSmall_fn)|((fail_if_success (apply ds_known;exact rfl));apply ds_guardB;exact rfl;exact rfl;exact rfl;all_goals intro hg))
 all_goals exact ret_b rfl (by unfold letterB greatB;rw [hg];rfl)
set_option maxHeartbeats 8000000 in
theorem isDigit_fn (c:UInt8):Fn 203 [.d (.int .u8 (c.toNat:Int))] (fun r=>r = .d (.bool (digitB c))):=by
 refine fnp_enter' _ Tryz.func203 rfl rfl (by kernel_rfl) ?_
 intro O w0 E0 β0
 repeat' (first|refine z0 ?_|apply ds_nil|apply dw_seq2|refine z16 ?_|apply dw_ret|apply thenD_n|refine z21 ?_ (hc:=by apply between_fn)|fail)
 all_goals exact ret_b rfl (by unfold digitB;rfl)
theorem ext2 (s:ByteArray) (i:Nat) (h:i + 1 < s.size):s.extract i (i + 2)=⟨#[s[i],s[i + 1]]⟩:=by
 apply ByteArray.ext
 simp only [ByteArray.data_extract]
 apply Array.toList_inj.1
 rw [Array.toList_extract]
 have hl:s.data.toList.length=s.size:=by simp
 rw [List.extract_eq_take_drop,show i + 2 - i=2 by omega,List.drop_eq_getElem_cons (by omega),List.drop_eq_getElem_cons (by omega),byteAt _ _ (by omega),byteAt _ _ (by omega)]
 rfl
theorem pair_ext (s:ByteArray) (i:Nat) (h:i + 1 < s.size):pairB (s[i]::s.data.toList.drop (i + 1))=(decide (s.extract i (i + 2)=⟨#[58,45]⟩) || decide (s.extract i (i + 2)=⟨#[60,61]⟩) || decide (s.extract i (i + 2)=⟨#[33,61]⟩)):=by
 have hl:s.data.toList.length=s.size:=by simp
 have key:∀ a b c d:UInt8,decide ((⟨#[a,b]⟩:ByteArray)=⟨#[c,d]⟩)=(a == c && b == d):=fun a b c d=>by
  rw [Bool.eq_iff_iff];simp
 rw [ext2 s i h,key,key,key,List.drop_eq_getElem_cons (by omega),byteAt _ _ (by omega),pairB]
theorem signs_step (c:UInt8) (i:Nat) (h:i < (⟨#[40,41,44,46,60,61,43,45,42]⟩:ByteArray).size):(signs.drop i).contains c=(decide ((((⟨#[40,41,44,46,60,61,43,45,42]⟩:ByteArray)[i]'h).toNat:Int)=(c.toNat:Int)) || (signs.drop (i + 1)).contains c):=by
 have h':i < signs.length:=h
 have e:signs[i]=(⟨#[40,41,44,46,60,61,43,45,42]⟩:ByteArray)[i]'h:=byteAt _ i h
 rw [List.drop_eq_getElem_cons h',List.contains_cons,e]
 congr 1
 rw [Bool.eq_iff_iff]
 simp only [beq_iff_eq,decide_eq_true_eq]
 exact⟨fun h=>by rw [h],fun h=>(UInt8.toNat_inj.1 (by omega)).symm⟩
set_option maxHeartbeats 8000000 in
theorem tokenAt_fn (s:ByteArray) (at_:Nat) (hat:at_ < s.size) (hs:s.size≤5000) :
  Fn 178 [.d (.str s),.d (.int .i64 at_)] (fun r=>r = .tup [.d (.int .i64 (tokAt (s.data.toList.drop at_)).1),.d (.int .i64 ((tokAt (s.data.toList.drop at_)).2:Nat))]):=by
 refine fnp_enter' _ Tryz.func178 rfl rfl (by kernel_rfl) ?_
 intro O w0 E0 β0
 repeat' (first|refine z0 ?_|apply ds_nil|apply dw_seq2|refine z16 ?_|apply dw_block|apply thenD_n|refine z21 ?_ (hc:=by apply isLetter_fn)|fail)
 have hl0:s.data.toList.length=s.size:=by simp
 have htok:tokAt (s.data.toList.drop at_)=tokAt (s[at_]::s.data.toList.drop (at_ + 1)):=by
  rw [List.drop_eq_getElem_cons (by omega),byteAt]
 refine dw_cond rfl (fun hl=>?_) (fun hl=>?_)
 ·have hres:tokAt (s.data.toList.drop at_)=(if smallB s[at_] then 1 else 2,1 + takeW alnumB (s.data.toList.drop (at_ + 1))):=by
   rw [htok,tokAt_cons,if_pos hl]
  repeat' (first|apply dw_seq2|apply dw_block)
  refine ds_loop (ι:=Nat) (fun n=>⟨0,[(0,.d (.str s)),(1,.d (.int .i64 at_)),(6,.d (.int .u8 s[at_].toNat)),(7,.d (.int .i64 n))],[]⟩)
   (fun n=>1≤n∧at_ + n≤s.size∧n + takeW alnumB (s.data.toList.drop (at_ + n))=1 + takeW alnumB (s.data.toList.drop (at_ + 1))) (fun n=>s.size - n) 1 ⟨by omega,by omega,rfl⟩
   (ent_ren id ⟨rfl,rfl,rfl,rfl,trivial⟩ trivial rfl rfl rfl rfl rfl rfl) ?_
  rintro n ⟨h1,h2,h3⟩
  have hstep:(h:(at_:Int) + n < s.size)→alnumB (s[at_ + n]'(by omega))=true→n + 1 + takeW alnumB (s.data.toList.drop (at_ + (n + 1)))=1 + takeW alnumB (s.data.toList.drop (at_ + 1)):=fun h hp=>by
   have h4:=takeW_step alnumB s.data.toList (at_ + n) (by omega) (by rw [byteAt _ _ (by omega)];exact hp)
   rw [← Nat.add_assoc at_ n 1];omega
  have hstop:(h:(at_:Int) + n < s.size)→alnumB (s[at_ + n]'(by omega))=false→1 + takeW alnumB (s.data.toList.drop (at_ + 1))=n:=fun h hp=>by
   have h4:=takeW_stop alnumB s.data.toList (at_ + n) (by omega) (by rw [byteAt _ _ (by omega)];exact hp)
   omega
  have hend:¬ (at_:Int) + n < s.size→1 + takeW alnumB (s.data.toList.drop (at_ + 1))=n:=fun h=>by
   have h4:=takeW_end alnumB s.data.toList (at_ + n) (by omega)
   omega
  clear htok
  repeat' (first|refine z0 ?_|refine z12 ?_|apply ds_nil|apply dw_seq2|refine z16 ?_|apply dw_block|apply dw_skip|apply dw_exit|apply dw_ret|refine z18 ?_|refine z19 ?_|apply thenD_n|apply thenD_e|apply thenD_r|apply inB_n|apply inB_r|refine z17 ?_|refine z21 ?_ (hc:=by apply isLetter_fn)|refine z21 ?_ (hc:=by apply isDigit_fn)|refine z21 ?_ (hc:=by apply isSmall_fn)|(apply dw_cond;exact rfl;all_goals intro hg)|((fail_if_success (apply ds_known;exact rfl));apply ds_guardP;exact rfl;exact rfl;exact rfl;all_goals intro hg)|((fail_if_success (apply ds_known;exact rfl));apply ds_guardB;exact rfl;exact rfl;exact rfl;all_goals intro hg))
  all_goals first
   | (refine⟨n + 1,⟨?_,?_,?_⟩,ent_ren id ⟨rfl,rfl,rfl,rfl,trivial⟩ trivial rfl rfl rfl rfl rfl rfl,?_⟩
      ·omega
      ·omega
      ·apply hstep <;> first|assumption|(unfold alnumB;simp [*])
      ·omega)
   | (refine ret_2 rfl ⟨?_,?_⟩
      ·rw [hres,hg];rfl
      ·rw [hres]
       refine congrArg (fun q:Nat=>D.int .i64 (q:Int)) (Eq.symm ?_)
       first
        | (apply hend;assumption)
        | (apply hstop <;> first|assumption|(unfold alnumB;simp [*])))
 ·repeat' (first|refine z0 ?_|apply ds_nil|apply dw_seq2|refine z16 ?_|apply thenD_n|refine z21 ?_ (hc:=by apply isDigit_fn)|fail)
  refine dw_cond rfl (fun hd=>?_) (fun hd=>?_)
  ·have hres:tokAt (s.data.toList.drop at_)=(3,1 + takeW digitB (s.data.toList.drop (at_ + 1))):=by
    rw [htok,tokAt_cons,if_neg (by rw [hl];exact Bool.false_ne_true),if_pos hd]
   repeat' (first|apply dw_seq2|apply dw_block)
   refine ds_loop (ι:=Nat) (fun n=>⟨0,[(0,.d (.str s)),(1,.d (.int .i64 at_)),(6,.d (.int .u8 s[at_].toNat)),(7,.d (.int .i64 n))],[]⟩)
    (fun n=>1≤n∧at_ + n≤s.size∧n + takeW digitB (s.data.toList.drop (at_ + n))=1 + takeW digitB (s.data.toList.drop (at_ + 1))) (fun n=>s.size - n) 1 ⟨by omega,by omega,rfl⟩
    (ent_ren id ⟨rfl,rfl,rfl,rfl,trivial⟩ trivial rfl rfl rfl rfl rfl rfl) ?_
   rintro n ⟨h1,h2,h3⟩
   have hstep:(h:(at_:Int) + n < s.size)→digitB (s[at_ + n]'(by omega))=true→n + 1 + takeW digitB (s.data.toList.drop (at_ + (n + 1)))=1 + takeW digitB (s.data.toList.drop (at_ + 1)):=fun h hp=>by
    have h4:=takeW_step digitB s.data.toList (at_ + n) (by omega) (by rw [byteAt _ _ (by omega)];exact hp)
    rw [← Nat.add_assoc at_ n 1];omega
   have hstop:(h:(at_:Int) + n < s.size)→digitB (s[at_ + n]'(by omega))=false→1 + takeW digitB (s.data.toList.drop (at_ + 1))=n:=fun h hp=>by
    have h4:=takeW_stop digitB s.data.toList (at_ + n) (by omega) (by rw [byteAt _ _ (by omega)];exact hp)
    omega
   have hend:¬ (at_:Int) + n < s.size→1 + takeW digitB (s.data.toList.drop (at_ + 1))=n:=fun h=>by
    have h4:=takeW_end digitB s.data.toList (at_ + n) (by omega)
    omega
   clear htok
   repeat' (first|refine z0 ?_|refine z12 ?_|apply ds_nil|apply dw_seq2|refine z16 ?_|apply dw_block|apply dw_skip|apply dw_exit|apply dw_ret|refine z19 ?_|apply thenD_n|apply thenD_e|apply thenD_r|apply inB_n|apply inB_r|refine z17 ?_|refine z21 ?_ (hc:=by apply isDigit_fn)|(apply dw_cond;exact rfl;all_goals intro hg)|((fail_if_success (apply ds_known;exact rfl));apply ds_guardP;exact rfl;exact rfl;exact rfl;all_goals intro hg))
   all_goals first
    | (refine⟨n + 1,⟨?_,?_,?_⟩,ent_ren id ⟨rfl,rfl,rfl,rfl,trivial⟩ trivial rfl rfl rfl rfl rfl rfl,?_⟩
       ·omega
       ·omega
       ·apply hstep <;> assumption
       ·omega)
    | (refine ret_2 rfl ⟨?_,?_⟩
       ·rw [hres]
       ·rw [hres]
        refine congrArg (fun q:Nat=>D.int .i64 (q:Int)) (Eq.symm ?_)
        first
         | (apply hend;assumption)
         | (apply hstop <;> assumption))
  ·have hres:tokAt (s.data.toList.drop at_)=if pairB (s[at_]::s.data.toList.drop (at_ + 1)) then (4,2) else if signs.contains s[at_] then (4,1) else (0,0):=by
    rw [htok,tokAt_cons,if_neg (by rw [hl];exact Bool.false_ne_true),if_neg (by rw [hd];exact Bool.false_ne_true)]
   repeat' (first|refine z0 ?_|apply ds_nil|apply dw_seq2|refine z16 ?_|apply dw_skip|apply thenD_n|apply inB_n)
   refine dw_condP rfl (fun h2=>?_) (fun h2=>?_)
   ·have hp:=pair_ext s at_ (by omega)
    repeat' (first|refine z0 ?_|refine z12 ?_|apply ds_nil|apply dw_seq2|refine z16 ?_|apply dw_block|apply dw_skip|apply dw_ret|refine z18 ?_|apply thenD_n|apply thenD_r|(refine z23 ?_ ?_ <;> intro hg)|((fail_if_success (apply ds_known;exact rfl));apply ds_guardP;exact rfl;exact rfl;exact rfl;all_goals intro hg))
    all_goals first
     | (refine ret_2 rfl ⟨?_,?_⟩ <;> (rw [hres,hp];simp [*];done))
     | skip
    have hpf:pairB (s[at_]::s.data.toList.drop (at_ + 1))=false:=by rw [hp];simp [*]
    rw [hpf] at hres
    refine ds_loop (ι:=Nat) (fun i=>⟨0,[(6,.d (.int .u8 s[at_].toNat)),(9,.d (.str ⟨#[40,41,44,46,60,61,43,45,42]⟩)),(10,.d (.int .i64 i))],[]⟩)
     (fun i=>i≤9∧signs.contains s[at_]=(signs.drop i).contains s[at_]) (fun i=>9 - i) 0 ⟨by omega,rfl⟩ (ent_ren id ⟨rfl,rfl,rfl,trivial⟩ trivial rfl rfl rfl rfl rfl rfl) ?_
    rintro i ⟨hi,hc⟩
    have hst:=fun h=>signs_step s[at_] i h
    have h9:((⟨#[40,41,44,46,60,61,43,45,42]⟩:ByteArray).size:Int)=9:=rfl
    repeat' (first|refine z0 ?_|apply ds_nil|apply dw_seq2|refine z16 ?_|apply dw_block|apply dw_skip|apply dw_exit|apply dw_ret|apply thenD_n|apply thenD_e|apply thenD_r|apply inB_n|apply inB_r|refine z17 ?_|(refine z23 ?_ ?_ <;> intro hg)|fail)
    all_goals first
     | (refine ret_2 rfl ⟨?_,?_⟩
        ·rw [hres,hc,hst (by rw [← Int.ofNat_lt];assumption),decide_eq_true ‹_›];rfl
        ·rw [hres,hc,hst (by rw [← Int.ofNat_lt];assumption),decide_eq_true ‹_›];rfl)
     | (refine⟨i + 1,⟨?_,?_⟩,ent_ren id ⟨rfl,rfl,rfl,trivial⟩ trivial rfl rfl rfl rfl rfl rfl,?_⟩
        ·omega
        ·rw [hc,hst (by rw [← Int.ofNat_lt];assumption),decide_eq_false ‹_›];rfl
        ·omega)
     | (have hi9:i=9:=by omega
        subst hi9
        refine ret_2 rfl ⟨?_,?_⟩
        ·rw [hres,hc];rfl
        ·rw [hres,hc];rfl)
   ·repeat' (first|refine z0 ?_|apply ds_nil|apply dw_seq2|refine z16 ?_|apply dw_block|apply dw_skip|apply thenD_n)
    have hpf:pairB (s[at_]::s.data.toList.drop (at_ + 1))=false:=by
     rw [List.drop_of_length_le (by omega)];unfold pairB;rfl
    rw [hpf] at hres
    refine ds_loop (ι:=Nat) (fun i=>⟨0,[(6,.d (.int .u8 s[at_].toNat)),(9,.d (.str ⟨#[40,41,44,46,60,61,43,45,42]⟩)),(10,.d (.int .i64 i))],[]⟩)
     (fun i=>i≤9∧signs.contains s[at_]=(signs.drop i).contains s[at_]) (fun i=>9 - i) 0 ⟨by omega,rfl⟩ (ent_ren id ⟨rfl,rfl,rfl,trivial⟩ trivial rfl rfl rfl rfl rfl rfl) ?_
    rintro i ⟨hi,hc⟩
    have hst:=fun h=>signs_step s[at_] i h
    have h9:((⟨#[40,41,44,46,60,61,43,45,42]⟩:ByteArray).size:Int)=9:=rfl
    repeat' (first|refine z0 ?_|apply ds_nil|apply dw_seq2|refine z16 ?_|apply dw_block|apply dw_skip|apply dw_exit|apply dw_ret|apply thenD_n|apply thenD_e|apply thenD_r|apply inB_n|apply inB_r|refine z17 ?_|(refine z23 ?_ ?_ <;> intro hg)|fail)
    all_goals first
     | (refine ret_2 rfl ⟨?_,?_⟩
        ·rw [hres,hc,hst (by rw [← Int.ofNat_lt];assumption),decide_eq_true ‹_›];rfl
        ·rw [hres,hc,hst (by rw [← Int.ofNat_lt];assumption),decide_eq_true ‹_›];rfl)
     | (refine⟨i + 1,⟨?_,?_⟩,ent_ren id ⟨rfl,rfl,rfl,trivial⟩ trivial rfl rfl rfl rfl rfl rfl,?_⟩
        ·omega
        ·rw [hc,hst (by rw [← Int.ofNat_lt];assumption),decide_eq_false ‹_›];rfl
        ·omega)
     | (have hi9:i=9:=by omega
        subst hi9
        refine ret_2 rfl ⟨?_,?_⟩
        ·rw [hres,hc];rfl
        ·rw [hres,hc];rfl)
end Go.Proofs.YtapciiffpnociacGreat

/- The document's CheckUpdate; what is the same. Condition: none. -/
namespace Go.Proofs.YtapciiffpnociacGreat
open Go Go.RowKit
attribute [local irreducible] DW DS DL DQ Ev FnOk FnP thenD inBlockD DT
theorem rbetween_fn (n a b:Int):Fn 53 [.d (.int .i64 n),.d (.int .i64 a),.d (.int .i64 b)] (fun r=>r = .d (.bool (inR n a b))):=between_fn n a b
theorem fct_not {x y:Fct} {b:Bool} (h:decide (ordF x y≠0) = !b):Fct.same x y=b:=by
 unfold Fct.same
 cases b <;> simpa using h
theorem ordL_lt {l m:List Int} {i:Nat} (h1:i < l.length) (h2:i < m.length) (h:l[i] < m[i]):ordL (l.drop i) (m.drop i) = -1:=by
 have e:cmpI l[i] m[i] = -1:=by unfold cmpI;rw [if_pos h]
 rw [ordL_step h1 h2,e];rfl
theorem ordL_gt {l m:List Int} {i:Nat} (h1:i < l.length) (h2:i < m.length) (h:m[i] < l[i]):ordL (l.drop i) (m.drop i)=1:=by
 have e:cmpI l[i] m[i]=1:=by unfold cmpI;rw [if_neg (by omega),if_pos h]
 rw [ordL_step h1 h2,e];rfl
theorem ordL_eq {l m:List Int} {i:Nat} (h1:i < l.length) (h2:i < m.length) (h:l[i]=m[i]):ordL (l.drop i) (m.drop i)=ordL (l.drop (i + 1)) (m.drop (i + 1)):=by
 rw [ordL_step h1 h2,h,if_pos (cmpI_self _)]
theorem cmpI_eq (a b:Int):(cmpI a b=0)=(a=b):=by unfold cmpI;rw [eq_iff_iff];split <;> (try split) <;> simp <;> omega
set_option maxHeartbeats 8000000 in
theorem orderOf_fn (a b:Fct):Fn 42 [elFct a,elFct b] (fun r=>r = .d (.int .i64 (ordF a b))):=by
 refine fnp_enter' _ Tryz.func42 rfl rfl (by kernel_rfl) ?_
 intro O w0 E0 β0
 repeat' (first|refine z0 ?_|apply ds_nil|apply dw_seq2|refine z16 ?_|apply thenD_n|refine z1 ?_|fail)
 refine dw_condP rfl (fun hp=>?_) (fun hp=>?_)
 ·repeat' (first|refine z0 ?_|apply ds_nil|apply dw_seq2|refine z16 ?_|apply dw_skip|apply dw_ret|apply thenD_n|apply thenD_r|(refine z23 ?_ ?_ <;> intro hg)|fail)
  all_goals exact ret_i rfl (by unfold ordF;rw [if_neg (by rw [cmpI_eq];exact hp)];unfold cmpI;repeat' split;all_goals first|rfl|omega)
 ·have hF:ordF a b=ordL a.args b.args:=by unfold ordF;rw [if_pos (by rw [cmpI_eq];exact Decidable.not_not.1 hp)]
  repeat' (first|refine z0 ?_|apply ds_nil|apply dw_seq2|refine z16 ?_|apply dw_block|apply dw_skip|apply thenD_n)
  refine ds_loop (ι:=Nat) (fun i=>⟨2,[(2,.loc 0 0),(3,.loc 1 0),(5,.d (.int .i64 i))],[(0,.blk 48 [.d (.int .i64 a.pred),.d (.slice 1 (a.args.map encI))]),(1,.blk 48 [.d (.int .i64 b.pred),.d (.slice 1 (b.args.map encI))])]⟩)
   (fun i=>i≤a.args.length∧i≤b.args.length∧ordF a b=ordL (a.args.drop i) (b.args.drop i)) (fun i=>a.args.length - i) 0 ⟨Nat.zero_le _,Nat.zero_le _,hF⟩
   (ent_ren id ⟨rfl,rfl,rfl,trivial⟩ ⟨rfl,rfl,trivial⟩ rfl rfl rfl rfl rfl rfl) ?_
  rintro i ⟨h1,h2,h3⟩
  refine dw_lenC 0 1 rfl rfl fun hb=>?_
  have la:(a.args.map encI).length=a.args.length:=List.length_map _
  have lb:(b.args.map encI).length=b.args.length:=List.length_map _
  repeat' (first|refine z0 ?_|refine z12 ?_|apply ds_nil|refine z5 ?_|refine z10 ?_|apply dw_seq2|refine z16 ?_|refine z20 ?_|apply dw_block|apply dw_skip|apply dw_exit|apply dw_ret|refine z19 ?_|apply thenD_n|apply thenD_e|apply thenD_r|apply inB_n|apply inB_r|refine z17 ?_|(refine z23 ?_ ?_ <;> intro hg)|((fail_if_success (apply ds_known;exact rfl));apply ds_guardP;exact rfl;exact rfl;exact rfl;all_goals intro hg))
  all_goals first
   | (refine ret_i rfl (Eq.trans ?_ h3.symm);refine (ordL_lt ?_ ?_ ?_).symm <;> first|assumption|omega)
   | (refine ret_i rfl (Eq.trans ?_ h3.symm);refine (ordL_gt ?_ ?_ ?_).symm <;> first|assumption|omega)
   | (refine ret_i rfl (Eq.trans ?_ h3.symm);refine (ordL_less ?_ ?_).symm <;> omega)
   | (refine ret_i rfl (Eq.trans ?_ h3.symm);refine (ordL_more ?_ ?_).symm <;> omega)
   | (refine ret_i rfl (Eq.trans ?_ h3.symm);refine (ordL_end ?_ ?_).symm <;> omega)
   | (refine⟨i + 1,⟨?_,?_,h3.trans (ordL_eq ?_ ?_ ?_)⟩,ent_ren id ⟨rfl,rfl,rfl,trivial⟩ ⟨rfl,rfl,trivial⟩ rfl rfl rfl rfl rfl rfl,?_⟩ <;> omega)
set_option maxHeartbeats 8000000 in
theorem sameFacts_fn (l m:List (Fct)):Fn 28 [.d (.slice 2 (l.map encFct)),.d (.slice 2 (m.map encFct))] (fun r=>r = .d (.bool (sameL Fct.same l m))):=by
 refine fnp_enter' _ Tryz.func28 rfl rfl (by kernel_rfl) ?_
 intro O w0 E0 β0
 refine dw_len_map (t:=0) rfl fun hb=>?_
 repeat' (first|refine z0 ?_|apply ds_nil|apply dw_seq2|refine z16 ?_|apply thenD_n)
 refine dw_condP rfl (fun h=>?_) (fun h=>?_)
 ·have hne:l.length≠m.length:=by rw [List.length_map,List.length_map] at h;omega
  repeat' (first|refine z0 ?_|apply ds_nil|apply dw_seq2|refine z16 ?_|apply dw_ret|apply thenD_n|apply thenD_r)
  exact ret_b rfl (sameL_len _ _ _ hne).symm
 ·have hlen:l.length=m.length:=by rw [List.length_map,List.length_map] at h;omega
  repeat' (first|refine z0 ?_|apply ds_nil|apply dw_seq2|refine z16 ?_|apply dw_block|apply dw_skip|apply thenD_n)
  refine ds_loop (ι:=Nat) (fun i=>⟨0,[(0,.d (.slice 2 (l.map encFct))),(1,.d (.slice 2 (m.map encFct))),(5,.d (.int .i64 i))],[]⟩)
   (fun i=>i≤l.length∧sameL Fct.same l m=sameL Fct.same (l.drop i) (m.drop i)) (fun i=>l.length - i) 0 ⟨Nat.zero_le _,rfl⟩
   (ent_ren id ⟨rfl,rfl,rfl,trivial⟩ trivial rfl rfl rfl rfl rfl rfl) ?_
  rintro i ⟨h1,h2⟩
  repeat' (first|refine z0 ?_|apply ds_nil|apply dw_seq2|refine z16 ?_|apply thenD_n)
  refine dw_condP rfl (fun h=>?_) (fun h=>?_)
  ·have hi:i < l.length:=by rw [List.length_map] at h;omega
   have hm:i < m.length:=by omega
   have hd:=sameL_drop Fct.same l m i hi hm
   repeat' (first|refine z5 ?_|refine z10 ?_|apply dw_seq2|refine z20 ?_|apply dw_block|apply dw_skip|apply thenD_n|refine z22 ?_ (hc:=by apply orderOf_fn)|fail)
   refine dw_cond rfl (fun hb=>?_) (fun hb=>?_)
   ·have hp:Fct.same l[i] m[i]=false:=by exact fct_not hb
    repeat' (first|refine z0 ?_|apply ds_nil|apply dw_seq2|refine z16 ?_|apply dw_ret|apply thenD_n|apply thenD_r|apply inB_r)
    exact ret_b rfl (by rw [h2,hd,hp];rfl)
   ·have hp:Fct.same l[i] m[i]=true:=by exact fct_not hb
    repeat' (first|refine z0 ?_|apply ds_nil|refine z16 ?_|apply dw_skip|apply thenD_n|apply inB_n)
    exact⟨i + 1,⟨hi,by rw [h2,hd,hp];rfl⟩,ent_ren id ⟨rfl,rfl,rfl,trivial⟩ trivial rfl rfl rfl rfl rfl rfl,by omega⟩
  ·repeat' (first|refine z0 ?_|apply ds_nil|apply dw_seq2|refine z16 ?_|apply dw_exit|apply dw_ret|apply thenD_n|apply thenD_e|refine z17 ?_|fail)
   exact ret_b rfl (by rw [h2,sameL_end _ _ _ _ (by rw [List.length_map] at h;omega) (by rw [List.length_map] at h;omega)])
end Go.Proofs.YtapciiffpnociacGreat

/- A plain logic over the walk: elements of own rows: read, written; rows that are made; rows that are shown to a call. No program is named here. Condition: none. -/
namespace Go.Proofs.YtapciiffpnociacGreat
open Go Go.RowKit
section
variable {Γ : Ctx} {k : Nat → Prop} {L : Sl} {H : Hp} {K : Next'} {ops : List Oper} {rest : List Oper} {a : Act} {w : World} {e : Env} {t t' ty : TypeId} {x y : Operand}
end
section
variable {Γ : Ctx} {k : Nat} {L : Sl} {H : Hp} {K : Next'} {ops : List Oper} {rest : List Oper} {t t' ty : TypeId} {x y : Operand} {q : Bool}
theorem nat_sub_1 (a:Nat):((a + 1:Nat):Int) - 1=(a:Int):=by omega
theorem hv_set {α:Type} {f:α→List D} {l:List α} {j o:Nat} {u v:α} {new:List D} (h:spliceD (f u) o new=f v):(l.map f).set j (spliceD (f u) o new)=(l.set j v).map f:=by rw [h,List.map_set]
theorem hv_drop {α:Type} {f:α→List D} {l:List α} {n:Int} {j N:Nat} (hn:n=(j:Int)):(((l.map f).take ((N:Int)).toNat).drop n.toNat)=((l.take N).drop j).map f:=by subst hn;simp
theorem hv_take {α:Type} {f:α→List D} {l:List α} {n:Int} {j:Nat} (hn:n=(j:Int)):(((l.map f).take n.toNat).drop (0:Int).toNat)=(l.take j).map f:=by subst hn;simp
theorem ds_stP {te tb:TypeId} {pos:String} {af:Array Edge} {g:Option (Nat × Bool)} {i j es o:Nat} {xs ys:List (List D)} {s:SV} {ds new:List D} {H':Hp} (hx:opSV L x = .prow i j es o) (hH:Hp.get H i=some (.row tb es xs)) (hds:xs[j]? = some ds)
  (hy:opSV L y=s) (hd:dcells s=some new) (hys:xs.set j (spliceD ds o new)=ys) (hH':setF H i (.row tb es ys) some=some H') (hyo:opOkB y=true) (hkn:(tiGet Γ.τ te).sh.known=true) (hn:Nat.beq new.length (tiGet Γ.τ te).cells=true) (hle:Nat.ble (o + new.length) es=true)
  (hw:wantedSV ops L g=some true) (hk:DS false Γ ops rest K k L H'):DS false Γ ops (⟨none,.store te x y,ty,pos,af,g⟩::rest) K k L H:=by
 have hj:j < xs.length:=(List.getElem?_eq_some_iff.1 hds).1
 have he:=(List.getElem?_eq_some_iff.1 hds).2
 subst hys
 rw [← he] at hH'
 rw [setF_eq] at hH'
 cases hH'
 exact dl_op hw (op_storeP hx hH hj hy hyo hd hkn hn hle) hk
theorem ds_slD {d es:Nat} {xs ys:List (List D)} {lo hi:Option Operand} {n m':Int} {pos:String} {af:Array Edge} {g:Option (Nat × Bool)} (hx:opSV L x = .d (.slice es xs)) (ht:(tiGet Γ.τ t).sh = .slice t') (hc:(tiGet Γ.τ t').cells=es) (hkn:(tiGet Γ.τ t').sh.known=true)
  (hl:lowC (lo.map (opSV L))=some n) (hh:highC xs.length (hi.map (opSV L))=some m') (h0:0≤n∧n≤m'∧m'≤xs.length) (hys:(xs.take m'.toNat).drop n.toNat=ys) (hw:wantedSV ops L g=some true) (hd:Nat.blt d Γ.n=true)
  (hk:DS q Γ ops rest K k ((d,.d (.slice es ys))::L) H):DS q Γ ops (⟨some d,.slice t x lo hi none,ty,pos,af,g⟩::rest) K k L H:=by
 subst hys
 exact ds_ev (ev_sliceD ht hc hkn hx hl hh h0.1 h0.2.1 h0.2.2) hw hd hk
theorem ds_mk (ys:List (List D)) {d n:Nat} {te:TypeId} {pos:String} {af:Array Edge} {g:Option (Nat × Bool)} {x y:Operand} {m':Int} {v0:Value} {x0:D} (hx:opSV L x = .d (.int .i64 m')) (hy:opSV L y = .d (.int .i64 m')) (hn:m' = (n:Int)) (ht:(tiGet Γ.τ t).sh = .slice te)
  (hkn:(tiGet Γ.τ te).sh.known=true) (hes:(tiGet Γ.τ te).cells=1) (hzero:(tiGet Γ.τ te).zero=[v0]) (hx0:cSV v0 = .d x0) (hzok:zeroOk (tiGet Γ.τ te).zero=true) (hroom:(tiGet Γ.τ te).bytes * n≤281474976710656) (hmax:n≤maxLen) (hys:List.replicate n [x0]=ys)
  (hw:wantedSV ops L g=some true) (hd:Nat.blt d Γ.n=true) (hk:DS false Γ ops rest K (k + 1) ((d,.row k)::L) ((k,.row te 1 ys)::H)):DS false Γ ops (⟨some d,.makeSlice t x y,ty,pos,af,g⟩::rest) K k L H:=by
 subst hys
 exact dl_op hw ((op_mk (lo_not k) ht hkn hes hzero hx0 hzok hx hy hn hroom hmax hd).cast (with1_lo k)) hk
def sealSV (i es:Nat) (xs:List (List D)):SV→SV
 | .row j=>match Nat.beq j i with|true=>.d (.slice es xs)|false=>.row j
 | s=>s
def sealL (i es:Nat) (xs:List (List D)):List SV→List SV
 | []=>[]
 | s::l=>sealSV i es xs s::sealL i es xs l
def scalB:SV→Bool
 | .d (.int _ _)=>true
 | .d (.bool _)=>true
 | .d (.str _)=>true
 | .tup []=>true
 | _=>false
theorem scal_rel {X Y:Nat→Prop} {e e':Env} {w w':World} {s:SV} {v:Value} (h:scalB s=true) (hr:Rel X e w s v):Rel Y e' w' s v:=by
 cases s with
 | d x =>
  cases x with
  | slice=>cases h
  | ptr=>cases h
  | _=>cases hr <;> constructor <;> assumption
 | tup ss =>
  cases ss with
  | nil=>obtain⟨vs,h1,h2⟩:=hr;cases vs with|nil=>exact⟨[],h1,trivial⟩|cons=>exact h2.elim
  | cons=>cases h
 | _=>cases h
theorem dl_callS {f:FuncId} {xs:List Operand} {ts:Array TypeId} {ty:TypeId} {pos:String} {af:Array Edge} {g:Option (Nat × Bool)} {d i es:Nat} {te:TypeId} {ds:List (List D)} {args:List SV} {R:SV→Prop} (hw:wantedSV ops L g=some true)
  (hH:Hp.get H i=some (.row te es ds)) (ha:sealL i es ds (opsL L xs)=args) (hc:FnP Γ.dr Γ.P Γ.τ Γ.τok f args R) (hok:opsOk xs=true) (hlow:SV.lowL 0 args=true) (hd:Nat.blt d Γ.n=true) (hs:∀ r,R r→scalB r=true)
  (hk:∀ r,R r→DL Γ ops rest K k ((d,r)::L) H) :
  DL Γ ops (⟨some d,.call { callee:=.value (.func f),args:=xs.toArray,argTypes:=ts },ty,pos,af,g⟩::rest) K k L H:=by
 refine dl_run hw fun e a w m=>?_
 obtain⟨m2,hX⟩:=m.del i
 have key:∀ (ss:List SV) (vs:List Value),RelL (Γ.X e H) e w ss vs→RelL (Γ.X e (Hp.del H i)) e w (sealL i es ds ss) vs:=by
  intro ss
  induction ss with
  | nil=>intro vs h;cases vs <;> exact h
  | cons s ss ih =>
   intro vs h
   cases vs with
   | nil=>exact h.elim
   | cons v vs =>
    refine⟨?_,ih vs h.2⟩
    have hk:Rel (Γ.X e (Hp.del H i)) e w s v:=Rel.keep (Nat.le_refl _) (fun _ _ _=>rfl) (fun b _ h=>hX b h) _ _ h.1
    unfold sealSV
    split
    ·rename_i j
     cases hb:Nat.beq j i with
     | true =>
      have:=Nat.eq_of_beq_eq_true hb
      subst this
      rw [show v=e.η j from h.1.2.1]
      exact row_data m hH
     | false=>exact hk
    ·exact hk
 unfold Oper.wp
 rw [run_callOp hc.1]
 rw [Oper.upon_enter]
 refine (hc.use (τ:=Γ.τ) (τok:=Γ.τok) (Γ:=Γ) m2 hlow _ (ha▸key _ _ (opsL_rel m xs hok))).mono ?_
 rintro en w' ⟨r,v,hR,rfl,hb,hlr,hrel⟩
 exact⟨k,_,H,e,(m.below hb).put (Nat.le_of_ble_eq_true hd) (scal_rel (hs r hR) hrel),hk r hR⟩
theorem ds_callS (i:Nat) {f:FuncId} {xs:List Operand} {ts:Array TypeId} {ty:TypeId} {pos:String} {af:Array Edge} {g:Option (Nat × Bool)} {d es:Nat} {te:TypeId} {ds:List (List D)} {args:List SV} {R:SV→Prop} (hc:FnP Γ.dr Γ.P Γ.τ Γ.τok f args R)
  (hH:Hp.get H i=some (.row te es ds)) (ha:sealL i es ds (opsL L xs)=args) (hs:∀ r,R r→scalB r=true) (hw:wantedSV ops L g=some true) (hok:opsOk xs=true) (hlow:SV.lowL 0 args=true) (hd:Nat.blt d Γ.n=true)
  (hk:∀ r,R r→DS false Γ ops rest K k ((d,r)::L) H):DS false Γ ops (⟨some d,.call { callee:=.value (.func f),args:=xs.toArray,argTypes:=ts },ty,pos,af,g⟩::rest) K k L H :=
 dl_callS hw hH ha hc hok hlow hd hs hk
theorem dw_lenA (t j:Nat) {c:Code} {Q:Post} {es:Nat} {ss:List SV} {xs:List (List D)} (h:L.get t = .agg ss) (hj:ss[j]? = some (.d (.slice es xs))) (hk:xs.length≤9223372036854775807→DW Γ c Q k L H):DW Γ c Q k L H:=by
 intro e a w m
 have hr:=m.slot t
 rw [h] at hr
 obtain⟨vs,_,h2⟩:=hr
 obtain⟨v,_,h3⟩:=RelL.get _ _ h2 j _ hj
 obtain⟨ao,cap,_,h4,h5,_⟩:=RepC.slice_inv h3
 exact hk (by unfold maxLen at h5;omega) e a w m
theorem dw_stop (id:Nat) {c y:Code} {Q:Post} (h:DW Γ (.seq (.block id c) y) Q k L H):DW Γ (.seq (.block id c) y) Q k L H:=h
theorem dw_stopR (id:Nat) {ops:Array Oper} {b:Bool} {x z:Code} {Q:Post} (h:DW Γ (.seq (.seq (.region id ops b) x) z) Q k L H):DW Γ (.seq (.seq (.region id ops b) x) z) Q k L H:=h
theorem dw_stopS (id:Nat) {ops:Array Oper} {b:Bool} {x:Code} {Q:Post} (h:DW Γ (.seq (.region id ops b) x) Q k L H):DW Γ (.seq (.region id ops b) x) Q k L H:=h
theorem dw_cut {ι:Type} {c y:Code} {Q:Post} (I:ι→St) (pre:ι→Prop) (hx:DW Γ c (thenD (fun k' L' H'=>∃ i,pre i∧Ent Γ k' L' H' (I i).k (I i).L (I i).H) Q) k L H) (hy:∀ i,pre i→DW Γ y Q (I i).k (I i).L (I i).H):DW Γ (.seq c y) Q k L H:=by
 intro e a w m
 refine wpIn_seq (wpIn_mono (hx e a w m) ?_)
 rintro ex a' w' (⟨k',L',H',e',m',hq⟩|hf)
 ·cases ex with
  | normal =>
   obtain⟨i,hp,he⟩:=hq
   obtain⟨e2,m2⟩:=he e' a' w' m'
   exact hy i hp e2 a' w' m2
  | _=>exact .inl ⟨k',L',H',e',m',hq⟩
 ·obtain⟨v,k',e',rfl,r⟩:=hf
  exact .inr ⟨v,k',e',rfl,r⟩
theorem ent_trans {k2 k3:Nat} {L2 L3:Sl} {H2 H3:Hp} (h:Ent Γ k L H k2 L2 H2) (g:Ent Γ k2 L2 H2 k3 L3 H3):Ent Γ k L H k3 L3 H3:=fun e a w m =>
 let ⟨e2,m2⟩:=h e a w m
 g e2 a w m2
end
end Go.Proofs.YtapciiffpnociacGreat

/- The document's HasFact and SetOf. Condition: none. -/
namespace Go.Proofs.YtapciiffpnociacGreat
open Go Go.RowKit
attribute [local irreducible] DW DS DL DQ Ev FnOk FnP thenD inBlockD DT
set_option maxHeartbeats 8000000 in
theorem hasFact_fn (l:List Fct) (f:Fct):Fn 19 [.d (.slice 2 (l.map encFct)),elFct f] (fun r=>r = .d (.bool (hasF l f))):=by
 refine fnp_enter' _ Tryz.func19 rfl rfl (by kernel_rfl) ?_
 intro O w0 E0 β0
 have la:(l.map encFct).length=l.length:=List.length_map _
 refine dw_len (t:=0) rfl (fun hk=>?_)
 unfold hasF
 repeat' (first|refine z0 ?_|apply ds_nil|apply dw_seq2|refine z16 ?_|apply dw_block|apply thenD_n|refine z1 ?_|fail)
 refine ds_loop (ι:=Nat) (fun i=>⟨1,[(0,.d (.slice 2 (l.map encFct))),(3,.loc 0 0),(4,.d (.bool false)),(5,.d (.int .i64 i))],[(0,.blk 48 [.d (.int .i64 f.pred),.d (.slice 1 (f.args.map encI))])]⟩)
  (fun i=>i≤l.length∧(l.any fun x=>decide (ordF x f=0))=((l.drop i).any fun x=>decide (ordF x f=0))) (fun i=>l.length - i) 0 ⟨Nat.zero_le _,rfl⟩ (ent_ren id ⟨rfl,rfl,rfl,rfl,trivial⟩ ⟨rfl,trivial⟩ rfl rfl rfl rfl rfl rfl) ?_
 rintro i ⟨g1,g2⟩
 by_cases hi:i < l.length
 ·have w:=orderOf_fn l[i] f
  rw [List.drop_eq_getElem_cons hi,List.any_cons] at g2
  generalize ordF l[i] f=q at w g2
  repeat' (first|refine z0 ?_|apply ds_nil|refine z5 ?_|refine z10 ?_|apply dw_seq2|refine z16 ?_|refine z20 ?_|apply dw_block|apply dw_skip|apply dw_exit|apply dw_ret|apply thenD_n|apply thenD_e|apply thenD_r|apply inB_n|apply inB_r|refine z17 ?_|refine z22 ?_ (hc:=by apply w)|(refine z23 ?_ ?_ <;> intro hg)|fail)
  all_goals first
   | (exfalso;omega)
   | (refine ret_b rfl ?_;rw [g2];simp_all;done)
   | exact⟨i + 1,⟨by omega,by rw [g2];simp_all⟩,ent_ren id ⟨rfl,rfl,rfl,rfl,trivial⟩ ⟨rfl,trivial⟩ rfl rfl rfl rfl rfl rfl,by show l.length - (i + 1) < l.length - i;omega⟩
 ·rw [List.drop_of_length_le (by omega)] at g2
  repeat' (first|refine z0 ?_|apply ds_nil|refine z5 ?_|apply dw_seq2|refine z16 ?_|refine z20 ?_|apply dw_block|apply dw_skip|apply dw_exit|apply dw_ret|apply thenD_n|apply thenD_e|refine z17 ?_|(refine z23 ?_ ?_ <;> intro hg)|fail)
  all_goals first
   | (exfalso;omega)
   | exact ret_b rfl g2.symm
set_option maxHeartbeats 8000000 in
theorem setOf_fn (l:List Fct) (hl:l.length≤4398046511104):Fn 29 [.d (.slice 2 (l.map encFct))] (fun r=>r = .d (.slice 2 ((setF' l).map encFct))):=by
 refine fnp_enter' _ Tryz.func29 rfl rfl (by kernel_rfl) ?_
 intro O w0 E0 β0
 have la:(l.map encFct).length=l.length:=List.length_map _
 repeat' (first|refine z0 ?_|apply ds_nil|apply dw_seq2|refine z16 ?_|apply dw_block|apply thenD_n)
 refine dw_ent (ent_nilrow (t:=3) 48 2 rfl) ?_
 refine ds_loop (ι:=Nat × List Fct) (fun x=>⟨1,[(0,.d (.slice 2 (l.map encFct))),(3,.row 0),(4,.d (.int .i64 x.1))],[(0,.row 48 2 (x.2.map encFct))]⟩)
  (fun x=>x.1≤l.length∧x.2=(l.take x.1).foldl insF []) (fun x=>l.length - x.1) (0,[]) ⟨Nat.zero_le _,rfl⟩ (ent_ren id ⟨rfl,rfl,rfl,trivial⟩ ⟨rfl,trivial⟩ rfl rfl rfl rfl rfl rfl) ?_
 rintro⟨i,o⟩ ⟨g1,g2⟩
 dsimp only at g1 g2 ⊢
 have lo:(o.map encFct).length=o.length:=List.length_map _
 have hol:o.length≤i:=by
  have:=setF_len (l.take i) []
  rw [← g2] at this
  simp at this
  omega
 by_cases hi:i < l.length
 ·have hstep:=setF_take (l:=l) hi
  rw [← g2] at hstep
  repeat' (first|refine z0 ?_|apply ds_nil|apply dw_seq2|refine z16 ?_|apply dw_block|apply dw_skip|apply dw_exit|apply dw_ret|apply thenD_n|apply thenD_e|refine z17 ?_|(refine z23 ?_ ?_ <;> intro hg)|fail)
  all_goals try (exfalso;omega)
  refine ds_callS 0 (hasFact_fn o l[i]) rfl rfl (by rintro _ rfl;rfl) rfl rfl rfl rfl ?_
  rintro _ rfl
  cases hh:hasF o l[i] with
  | true =>
   have hins:insF o l[i]=o:=by unfold insF;rw [if_pos hh]
   repeat' (first|refine z0 ?_|apply ds_nil|refine z16 ?_|apply dw_exit|refine z18 ?_|apply thenD_n|apply thenD_e|refine z17 ?_|fail)
   exact⟨(i + 1,o),⟨by dsimp only;omega,by dsimp only;rw [hstep,hins]⟩,ent_ren id ⟨rfl,rfl,rfl,trivial⟩ ⟨rfl,trivial⟩ rfl rfl rfl rfl rfl rfl,by show l.length - (i + 1) < l.length - i;omega⟩
  | false =>
   have hins:insF o l[i]=o.take (kFrom o l[i] o.length)++l[i]::o.drop (kFrom o l[i] o.length):=by unfold insF;rw [hh];rfl
   rw [hins] at hstep
   repeat' (first|refine z0 ?_|apply ds_nil|apply dw_seq2|refine z16 ?_|apply dw_block|apply dw_skip|refine z19 ?_|apply thenD_n|refine z4 ?_|refine z2 ?_|fail)
   have hin:o.map encFct++[[D.int .i64 l[i].pred,D.slice 1 (l[i].args.map encI)]]=(o.take o.length++l[i]::o.drop o.length).map encFct:=by
    rw [List.take_of_length_le (Nat.le_refl _),List.drop_of_length_le (Nat.le_refl _),List.map_append];rfl
   rw [hin]
   refine ds_loop (ι:=Nat × List Fct) (fun x=>⟨2,[(0,.d (.slice 2 (l.map encFct))),(3,.row 1),(4,.d (.int .i64 i)),(5,.d (.int .i64 x.1))],[(1,.row 48 2 (x.2.map encFct))]⟩)
    (fun x=>x.1≤o.length∧kFrom o l[i] o.length=kFrom o l[i] x.1∧∃ y,x.2=o.take x.1++y::o.drop x.1) (fun x=>x.1) (o.length,o.take o.length++l[i]::o.drop o.length) ⟨Nat.le_refl _,rfl,_,rfl⟩
    (by rw [lo];exact ent_ren id ⟨rfl,rfl,rfl,rfl,trivial⟩ ⟨rfl,trivial⟩ rfl rfl rfl rfl rfl rfl) ?_
   rintro⟨k,o'⟩ ⟨e1,e2,y,e3⟩
   dsimp only at e1 e2 e3 ⊢
   have lo':(o'.map encFct).length=o'.length:=List.length_map _
   have ho':o'.length=o.length + 1:=by rw [e3];simp;omega
   cases k with
   | zero =>
    repeat' (first|refine z0 ?_|apply ds_nil|(apply ds_stP;exact rfl;exact rfl;(apply hv_get;(omega));exact rfl;exact rfl;(exact hv_set rfl);exact rfl;exact rfl;exact rfl;exact rfl;exact rfl;exact rfl)|refine z5 ?_|refine z14 ?_|refine z10 ?_|apply dw_seq2|refine z16 ?_|refine z20 ?_|apply dw_exit|refine z19 ?_|apply thenD_n|apply thenD_e|apply inB_n|refine z17 ?_|fail)
    all_goals try (exfalso;omega)
    refine⟨(i + 1,o'.set 0 l[i]),⟨by dsimp only;omega,?_⟩,ent_ren (fun _=>1) ⟨rfl,rfl,rfl,trivial⟩ ⟨rfl,trivial⟩ rfl rfl rfl rfl rfl rfl,by show l.length - (i + 1) < l.length - i;omega⟩
    dsimp only
    rw [hstep,e2,e3,shift_end e1]
    rfl
   | succ k =>
    have hk:o'[k]'(by omega)=o[k]'(by omega):=by
     have:=shift_get (l:=o) (y:=y) (k:=k) (by omega)
     rw [← e3,List.getElem?_eq_getElem (by omega)] at this
     injection this
    have w:=orderOf_fn (o'[k]'(by omega)) l[i]
    rw [kFrom_succ (by omega),← hk] at e2
    repeat' (first|refine z0 ?_|apply ds_nil|(apply ds_stP;exact rfl;exact rfl;(apply hv_get;(omega));exact rfl;exact rfl;(exact hv_set rfl);exact rfl;exact rfl;exact rfl;exact rfl;exact rfl;exact rfl)|refine z5 ?_|refine z14 ?_|refine z10 ?_|apply dw_seq2|refine z16 ?_|refine z20 ?_|apply dw_block|apply dw_skip|apply dw_exit|refine z19 ?_|apply thenD_n|apply thenD_e|apply inB_n|refine z17 ?_|refine z22 ?_ (hc:=by apply w)|(refine z23 ?_ ?_ <;> intro hg)|((fail_if_success (apply dt_known;exact rfl));apply dt_guardP;exact rfl;exact rfl;exact rfl;all_goals intro hg))
    all_goals try (exfalso;omega)
    ·rw [if_pos (by assumption)] at e2
     simp only [nat_sub_1]
     refine⟨(k,o'.set (k + 1) (o'[k]'(by omega))),⟨by dsimp only;omega,e2,o'[k]'(by omega),?_⟩,ent_ren id ⟨rfl,rfl,rfl,rfl,trivial⟩ ⟨rfl,trivial⟩ rfl rfl rfl rfl rfl rfl,by show k < k + 1;omega⟩
     have h5:=shift_step (l:=o) (y:=y) (k:=k) (by omega)
     rw [← e3] at h5
     dsimp only
     rw [hk]
     exact h5
    ·rw [if_neg (by assumption)] at e2
     refine⟨(i + 1,o'.set (k + 1) l[i]),⟨by dsimp only;omega,?_⟩,ent_ren (fun _=>1) ⟨rfl,rfl,rfl,trivial⟩ ⟨rfl,trivial⟩ rfl rfl rfl rfl rfl rfl,by show l.length - (i + 1) < l.length - i;omega⟩
     dsimp only
     rw [hstep,e2,e3,shift_end e1]
 ·repeat' (first|refine z0 ?_|apply ds_nil|apply dw_seq2|refine z16 ?_|apply dw_block|apply dw_skip|apply dw_exit|apply thenD_n|apply thenD_e|refine z17 ?_|(refine z23 ?_ ?_ <;> intro hg)|fail)
  all_goals try (exfalso;omega)
  refine dw_ent (ent_seal 2 rfl rfl rfl) ?_
  repeat' (apply dw_ret)
  have:o=setF' l:=by rw [g2,List.take_of_length_le (by omega)];rfl
  rw [← this]
  exact⟨.inl rfl,_,rfl,rfl,rfl⟩
end Go.Proofs.YtapciiffpnociacGreat

/- Plain words on programs, their rules, what is wrong with them; bound variables: no program is in sight. Condition: none. -/
namespace Go.Proofs.YtapciiffpnociacGreat
structure Trm where
 var:Int
 n:Int
structure Ltl where
 kind:Int
 op:Int
 pred:Int
 terms:List Trm
structure Rul where
 pred:Int
 terms:List Trm
 fold:Int
 body:List Ltl
 vars:Int
structure Prg where
 arity:List Int
 names:List ByteArray
 rules:List Rul
def firstL {α:Type} (f:α→Int):List α→Int
 | []=>0
 | x::l=>if f x≠0 then f x else firstL f l
theorem firstL_step {α:Type} {f:α→Int} {l:List α} {i:Nat} (hi:i < l.length):firstL f (l.drop i)=if f l[i]≠0 then f l[i] else firstL f (l.drop (i + 1)):=by
 rw [List.drop_eq_getElem_cons hi];rfl
theorem firstL_end {α:Type} {f:α→Int} {l:List α} {i:Nat} (hi:l.length≤i):firstL f (l.drop i)=0:=by
 rw [List.drop_of_length_le hi];rfl
def firstI (f:Nat→Int):Nat→Nat→Int
 | _,0=>0
 | i,k + 1=>if f i≠0 then f i else firstI f (i + 1) k
theorem firstI_step {f:Nat→Int} {n i:Nat} (h:i < n):firstI f i (n - i)=if f i≠0 then f i else firstI f (i + 1) (n - (i + 1)):=by
 rw [show n - i=(n - (i + 1)) + 1 by omega];rfl
theorem firstI_end {f:Nat→Int} {n i:Nat} (h:n≤i):firstI f i (n - i)=0:=by
 rw [show n - i=0 by omega];rfl
def termE (vars:Int) (t:Trm):Int:=if inR t.var (-1) (vars - 1)=false then 5 else if numB t.n=false∨(0≤t.var∧t.n≠0) then 3 else 0
def termsE (vars:Int) (l:List Trm):Int:=firstL (termE vars) l
def opB (kind n:Int):Bool:=if kind=3 then inR n 1 4 else if kind=4 then inR n 5 7 else decide (n=0)
def litE (arity:List Int) (vars:Int) (l:Ltl):Int :=
 if inR l.kind 1 4=false then 7
 else if opB l.kind l.op=false then 3
 else if l.kind=1∨l.kind=2 then
  if inR l.pred 0 ((arity.length:Int) - 1)=false then 5
  else if (l.terms.length:Int)≠arity.getD l.pred.toNat 0 then 1
  else termsE vars l.terms
 else if l.pred≠0∨(l.terms.length:Int)≠l.kind - 1 then 1
 else termsE vars l.terms
def isT (bs:List Bool) (t:Trm):Bool:=decide (t.var < 0) || bs.getD t.var.toNat false
def setT (bs:List Bool) (t:Trm):List Bool:=if t.var < 0 then bs else bs.set t.var.toNat true
def firesB (bs:List Bool) (l:Ltl):Bool:=decide (l.kind=1) || (decide (l.kind=4) && (l.terms.take 2).all (isT bs))
def litTs (l:Ltl):List Trm:=if l.kind=1 then l.terms else l.terms.drop 2
def bLit (bs:List Bool) (l:Ltl):List Bool:=if firesB bs l then (litTs l).foldl setT bs else bs
def bRound (body:List Ltl) (bs:List Bool):List Bool:=body.foldl bLit bs
def bIter (body:List Ltl):Nat→List Bool→List Bool
 | 0,bs=>bs
 | n + 1,bs=>bIter body n (bRound body bs)
def boundL (r:Rul):List Bool:=bIter r.body (r.body.length + 1) (List.replicate r.vars.toNat false)
def safeB (r:Rul):Bool:=(boundL r).all id
def ruleE (arity:List Int) (r:Rul):Int :=
 if inR r.pred 0 ((arity.length:Int) - 1)=false then 5
 else if (r.terms.length:Int)≠arity.getD r.pred.toNat 0 then 1
 else if inR r.vars 0 8=false then 3
 else if termsE r.vars r.terms≠0 then termsE r.vars r.terms
 else if inR r.fold 0 4=false then 7
 else if r.fold≠0∧(r.terms.length=0∨r.body.length=0) then 1
 else if 4 < r.body.length then 2
 else if firstL (litE arity r.vars) r.body≠0 then firstL (litE arity r.vars) r.body
 else if safeB r=false then 4
 else 0
def nameE (nameB:ByteArray→Bool) (p:Prg) (i:Nat):Int :=
 if inR (p.arity.getD i 0) 0 3=false then 3
 else if nameB (p.names.getD i ⟨#[]⟩)=false then 1
 else if (p.names.take i).any (fun s=>decide (s=p.names.getD i ⟨#[]⟩)) then 6
 else 0
def progE (nameB:ByteArray→Bool) (p:Prg):Int :=
 if 10 < p.arity.length∨12 < p.rules.length then 2
 else if p.names.length≠p.arity.length then 1
 else if firstI (nameE nameB p) 0 p.names.length≠0 then firstI (nameE nameB p) 0 p.names.length
 else firstL (ruleE p.arity) p.rules
theorem setT_len (bs:List Bool) (t:Trm):(setT bs t).length=bs.length:=by unfold setT;split <;> simp
theorem setTs_len:∀ (l:List Trm) (bs:List Bool),(l.foldl setT bs).length=bs.length
 | [],_=>rfl
 | t::l,bs=>by rw [List.foldl_cons,setTs_len l,setT_len]
theorem bLit_len (bs:List Bool) (l:Ltl):(bLit bs l).length=bs.length:=by unfold bLit;split;exact setTs_len _ _;rfl
theorem bRound_len:∀ (body:List Ltl) (bs:List Bool),(bRound body bs).length=bs.length
 | [],_=>rfl
 | l::body,bs=>by
  have:=bRound_len body (bLit bs l)
  rw [bLit_len] at this
  exact this
theorem bIter_len (body:List Ltl):∀ (n:Nat) (bs:List Bool),(bIter body n bs).length=bs.length
 | 0,_=>rfl
 | n + 1,bs=>by rw [bIter,bIter_len body n,bRound_len]
def leB (a b:List Bool):Prop:=a.length=b.length∧∀ i,a.getD i false=true→b.getD i false=true
theorem leB.refl (a:List Bool):leB a a:=⟨rfl,fun _ h=>h⟩
theorem leB.trans {a b c:List Bool} (h:leB a b) (g:leB b c):leB a c:=⟨h.1.trans g.1,fun i hi=>g.2 i (h.2 i hi)⟩
theorem setT_le (bs:List Bool) (t:Trm):leB bs (setT bs t):=by
 refine⟨(setT_len _ _).symm,fun i h=>?_⟩
 unfold setT
 split
 ·exact h
 ·simp only [List.getD,List.getElem?_set] at h ⊢
  split
  ·rename_i hi
   rw [hi]
   by_cases hl:i < bs.length
   ·simp [hl]
   ·rw [List.getElem?_eq_none (by omega)] at h;cases h
  ·exact h
theorem setTs_le:∀ (l:List Trm) (bs:List Bool),leB bs (l.foldl setT bs)
 | [],bs=>leB.refl bs
 | t::l,bs=>(setT_le bs t).trans (setTs_le l _)
theorem bLit_le (bs:List Bool) (l:Ltl):leB bs (bLit bs l):=by unfold bLit;split;exact setTs_le _ _;exact leB.refl _
theorem bRound_le:∀ (body:List Ltl) (bs:List Bool),leB bs (bRound body bs)
 | [],bs=>leB.refl bs
 | l::body,bs=>(bLit_le bs l).trans (bRound_le body _)
theorem isT_mono {a b:List Bool} (h:leB a b) {t:Trm} (ht:isT a t=true):isT b t=true:=by
 unfold isT at ht ⊢
 rw [Bool.or_eq_true] at ht ⊢
 exact ht.imp id (h.2 _)
theorem fires_mono {a b:List Bool} (h:leB a b) {l:Ltl} (hl:firesB a l=true):firesB b l=true:=by
 unfold firesB at hl ⊢
 simp only [Bool.or_eq_true,Bool.and_eq_true,List.all_eq_true] at hl ⊢
 exact hl.imp id fun⟨g1,g2⟩=>⟨g1,fun t ht=>isT_mono h (g2 t ht)⟩
theorem setT_same {bs:List Bool} {t:Trm} (h:isT bs t=true):setT bs t=bs:=by
 unfold isT at h
 unfold setT
 split
 ·rfl
 ·rename_i hn
  rw [decide_eq_false hn,Bool.false_or] at h
  simp only [List.getD] at h
  cases hg:bs[t.var.toNat]? with
  | none=>rw [hg] at h;cases h
  | some b =>
   rw [hg] at h
   simp only [Option.getD_some] at h
   subst h
   have hlt:=(List.getElem?_eq_some_iff.1 hg).1
   refine List.ext_getElem? fun i=>?_
   rw [List.getElem?_set]
   split
   ·rename_i hi;subst hi;exact hg.symm
   ·rfl
theorem setTs_same:∀ {l:List Trm} {bs:List Bool},(∀ t∈l,isT bs t=true)→l.foldl setT bs=bs
 | [],_,_=>rfl
 | t::l,bs,h=>by
  rw [List.foldl_cons,setT_same (h t (List.mem_cons_self ..))]
  exact setTs_same fun x hx=>h x (List.mem_cons_of_mem _ hx)
def okT (v:Nat) (t:Trm):Prop:=t.var < (v:Int)
theorem setT_is {bs:List Bool} {t:Trm} (h:okT bs.length t):isT (setT bs t) t=true:=by
 unfold isT setT
 unfold okT at h
 split
 ·rename_i hn;rw [decide_eq_true hn];rfl
 ·rename_i hn
  rw [decide_eq_false hn,Bool.false_or]
  simp only [List.getD,List.getElem?_set]
  have:t.var.toNat < bs.length:=by omega
  simp [this]
theorem setTs_is:∀ {l:List Trm} {bs:List Bool},(∀ t∈l,okT bs.length t)→∀ t∈l,isT (l.foldl setT bs) t=true
 | [],_,_,t,ht=>by simp at ht
 | x::l,bs,h,t,ht=>by
  rw [List.foldl_cons]
  rcases List.mem_cons.1 ht with rfl|ht
  ·exact isT_mono (setTs_le l _) (setT_is (h t (List.mem_cons_self ..)))
  ·exact setTs_is (bs:=setT bs x) (fun y hy=>by rw [setT_len];exact h y (List.mem_cons_of_mem _ hy)) t ht
theorem bLit_same {bs:List Bool} {l:Ltl} (h:firesB bs l=true→∀ t∈litTs l,isT bs t=true):bLit bs l=bs:=by
 unfold bLit
 split
 ·rename_i hf;exact setTs_same (h hf)
 ·rfl
theorem bRound_same:∀ {body:List Ltl} {bs:List Bool},(∀ l∈body,firesB bs l=true→∀ t∈litTs l,isT bs t=true)→bRound body bs=bs
 | [],_,_=>rfl
 | l::body,bs,h=>by
  show bRound body (bLit bs l)=bs
  rw [bLit_same (h l (List.mem_cons_self ..))]
  exact bRound_same fun x hx=>h x (List.mem_cons_of_mem _ hx)
theorem bRound_done:∀ {body:List Ltl} {bs:List Bool},(∀ l∈body,∀ t∈litTs l,okT bs.length t)→∀ l∈body,firesB bs l=true→∀ t∈litTs l,isT (bRound body bs) t=true
 | [],_,_,l,hl,_,_,_=>by simp at hl
 | x::body,bs,hok,l,hl,hf,t,ht=>by
  show isT (bRound body (bLit bs x)) t=true
  rcases List.mem_cons.1 hl with rfl|hl
  ·refine isT_mono (bRound_le body _) ?_
   unfold bLit
   rw [if_pos hf]
   exact setTs_is (hok l (List.mem_cons_self ..)) t ht
  ·exact bRound_done (bs:=bLit bs x) (fun y hy z hz=>by rw [bLit_len];exact hok y (List.mem_cons_of_mem _ hy) z hz) l hl (fires_mono (bLit_le bs x) hf) t ht
def nFire (body:List Ltl) (bs:List Bool):Nat:=(body.filter (firesB bs)).length
theorem nFire_mono {a b:List Bool} (h:leB a b):∀ (body:List Ltl),nFire body a≤nFire body b
 | []=>Nat.le_refl _
 | l::body=>by
  have ih:=nFire_mono h body
  unfold nFire at ih ⊢
  rw [List.filter_cons,List.filter_cons]
  cases ha:firesB a l with
  | true=>rw [fires_mono h ha];simpa using ih
  | false =>
   cases hb:firesB b l with
   | true=>simp;omega
   | false=>simpa using ih
theorem nFire_same {a b:List Bool} (h:leB a b):∀ {body:List Ltl},nFire body b≤nFire body a→∀ l∈body,firesB b l=true→firesB a l=true
 | [],_,l,hl,_=>by simp at hl
 | x::body,hn,l,hl,hf=>by
  have ih:=nFire_mono h body
  have ihs:=@nFire_same a b h body
  unfold nFire at hn ih ihs
  rw [List.filter_cons,List.filter_cons] at hn
  rcases List.mem_cons.1 hl with rfl|hl
  ·cases ha:firesB a l with
   | true=>rfl
   | false=>rw [hf,ha] at hn;simp at hn;omega
  ·refine ihs ?_ l hl hf
   cases ha:firesB a x with
   | true=>rw [ha,fires_mono h ha] at hn;simpa using hn
   | false =>
    cases hb:firesB b x with
    | true=>rw [ha,hb] at hn;simp at hn;omega
    | false=>rw [ha,hb] at hn;simpa using hn
theorem bIter_succ (body:List Ltl):∀ (n:Nat) (bs:List Bool),bIter body (n + 1) bs=bRound body (bIter body n bs)
 | 0,_=>rfl
 | n + 1,bs=>by rw [bIter,bIter_succ body n];rfl
theorem bIter_rest {body:List Ltl} {bs:List Bool} (hok:∀ l∈body,∀ t∈litTs l,okT bs.length t):∀ n,bRound body (bIter body n bs)=bIter body n bs∨n + 1≤nFire body (bIter body n bs)
 | 0=>by
  by_cases h:nFire body bs=0
  ·left
   refine bRound_same fun l hl hf=>?_
   have:l∈body.filter (firesB bs):=List.mem_filter.2 ⟨hl,hf⟩
   unfold nFire at h
   rw [List.eq_nil_of_length_eq_zero h] at this
   simp at this
  ·right;show 1≤nFire body bs;omega
 | n + 1=>by
  rcases bIter_rest hok n with h|h
  ·left;rw [bIter_succ,h,h]
  ·have hle:=bRound_le body (bIter body n bs)
   have hm:=nFire_mono hle body
   by_cases hn:nFire body (bRound body (bIter body n bs))≤nFire body (bIter body n bs)
   ·left
    rw [bIter_succ]
    refine bRound_same fun l hl hf=>?_
    exact bRound_done (fun x hx t ht=>by rw [bIter_len];exact hok x hx t ht) l hl (nFire_same hle hn l hl hf)
   ·right;rw [bIter_succ];omega
theorem bRound_rest {body:List Ltl} {bs:List Bool} (hok:∀ l∈body,∀ t∈litTs l,okT bs.length t):bRound body (bIter body body.length bs)=bIter body body.length bs:=by
 rcases bIter_rest hok body.length with h|h
 ·exact h
 ·have:=List.length_filter_le (firesB (bIter body body.length bs)) body
  unfold nFire at h
  omega
theorem bIter_fix {body:List Ltl} {bs:List Bool} (h:bRound body bs=bs):∀ n,bIter body n bs=bs
 | 0=>rfl
 | n + 1=>by rw [bIter,h,bIter_fix h n]
theorem bIter_add (body:List Ltl):∀ (m n:Nat) (bs:List Bool),bIter body (m + n) bs=bIter body n (bIter body m bs)
 | 0,n,bs=>by rw [Nat.zero_add];rfl
 | m + 1,n,bs=>by rw [show m + 1 + n=(m + n) + 1 by omega,bIter,bIter,bIter_add body m n]
theorem rest_is {r:Rul} (hok:∀ l∈r.body,∀ t∈litTs l,okT r.vars.toNat t) {m:Nat} (h:bRound r.body (bIter r.body m (List.replicate r.vars.toNat false))=bIter r.body m (List.replicate r.vars.toNat false)):bIter r.body m (List.replicate r.vars.toNat false)=boundL r:=by
 have h2:=bRound_rest (body:=r.body) (bs:=List.replicate r.vars.toNat false) (by rw [List.length_replicate];exact hok)
 unfold boundL
 rw [bIter_succ,h2]
 rcases Nat.le_total m r.body.length with hm|hm
 ·obtain⟨d,hd⟩:=Nat.exists_eq_add_of_le hm
  rw [hd,bIter_add,bIter_fix h]
 ·obtain⟨d,hd⟩:=Nat.exists_eq_add_of_le hm
  rw [hd,bIter_add,bIter_fix h2]
end Go.Proofs.YtapciiffpnociacGreat

/- How programs lie in the program's values. Condition: none. -/
namespace Go.Proofs.YtapciiffpnociacGreat
open Go Go.RowKit
attribute [local irreducible] DW DS DL DQ Ev FnOk FnP thenD inBlockD DT
def encBl (b:Bool):List D:=[.bool b]
def encT (s:ByteArray):List D:=[.str s]
def encTrm (t:Trm):List D:=[.int .i64 t.var,.int .i64 t.n]
def encLtl (l:Ltl):List D:=[.int .i64 l.kind,.int .i64 l.op,.int .i64 l.pred,.slice 2 (l.terms.map encTrm)]
def encRul (r:Rul):List D:=[.int .i64 r.pred,.slice 2 (r.terms.map encTrm),.int .i64 r.fold,.slice 4 (r.body.map encLtl),.int .i64 r.vars]
abbrev elTrm (t:Trm):SV:=.agg [.d (.int .i64 t.var),.d (.int .i64 t.n)]
abbrev elLtl (l:Ltl):SV:=.agg [.d (.int .i64 l.kind),.d (.int .i64 l.op),.d (.int .i64 l.pred),.d (.slice 2 (l.terms.map encTrm))]
abbrev elRul (r:Rul):SV:=.agg [.d (.int .i64 r.pred),.d (.slice 2 (r.terms.map encTrm)),.d (.int .i64 r.fold),.d (.slice 4 (r.body.map encLtl)),.d (.int .i64 r.vars)]
abbrev elPrg (p:Prg):SV:=.agg [.d (.slice 1 (p.arity.map encI)),.d (.slice 1 (p.names.map encT)),.d (.slice 5 (p.rules.map encRul))]
set_option maxHeartbeats 8000000 in
theorem swithin_fn (n a b:Int):Fn 112 [.d (.int .i64 n),.d (.int .i64 a),.d (.int .i64 b)] (fun r=>r = .d (.bool (inR n a b))):=by
 refine fnp_enter' _ Tryz.func112 rfl rfl (by kernel_rfl) ?_
 intro O w0 E0 β0
 unfold inR
 repeat' (first|refine z0 ?_|refine z12 ?_|apply ds_nil|apply dw_seq2|refine z16 ?_|apply dw_ret|apply thenD_n|((fail_if_success (apply ds_known;exact rfl));apply ds_guardP;exact rfl;exact rfl;exact rfl;all_goals intro hg))
 all_goals exact ret_b rfl (by simp_all <;> omega)
set_option maxHeartbeats 8000000 in
theorem snumber_fn (n:Int):Fn 115 [.d (.int .i64 n)] (fun r=>r = .d (.bool (numB n))):=by
 refine fnp_enter' _ Tryz.func115 rfl rfl (by kernel_rfl) ?_
 intro O w0 E0 β0
 unfold numB
 repeat' (first|refine z0 ?_|apply ds_nil|apply dw_seq2|refine z16 ?_|apply dw_ret|apply thenD_n|refine z21 ?_ (hc:=by apply swithin_fn)|fail)
 exact ret_b rfl rfl
set_option maxHeartbeats 8000000 in
theorem op_fn (kind n:Int):Fn 184 [.d (.int .i64 kind),.d (.int .i64 n)] (fun r=>r = .d (.bool (opB kind n))):=by
 refine fnp_enter' _ Tryz.func184 rfl rfl (by kernel_rfl) ?_
 intro O w0 E0 β0
 unfold opB
 repeat' (first|refine z0 ?_|apply ds_nil|apply dw_seq2|refine z16 ?_|apply dw_block|apply dw_skip|apply dw_ret|apply thenD_n|apply thenD_r|apply inB_n|apply inB_r|refine z21 ?_ (hc:=by apply swithin_fn)|(refine z23 ?_ ?_ <;> intro hg)|fail)
 all_goals exact ret_b rfl (by simp_all <;> omega)
set_option maxHeartbeats 8000000 in
theorem terms_fn (l:List Trm) (vars:Int) (h0:0≤vars) (h8:vars≤8):Fn 156 [.d (.slice 2 (l.map encTrm)),.d (.int .i64 vars)] (fun r=>r = .d (.int .i64 (termsE vars l))):=by
 refine fnp_enter' _ Tryz.func156 rfl rfl (by kernel_rfl) ?_
 intro O w0 E0 β0
 have la:(l.map encTrm).length=l.length:=List.length_map _
 unfold termsE
 repeat' (first|refine z0 ?_|apply ds_nil|apply dw_seq2|refine z16 ?_|apply dw_block|apply thenD_n)
 refine dw_len (t:=7) rfl (fun hk=>?_)
 refine ds_loop (ι:=Nat) (fun i=>⟨0,[(1,.d (.int .i64 vars)),(4,.d (.int .i64 0)),(7,.d (.slice 2 (l.map encTrm))),(8,.d (.int .i64 (l.map encTrm).length)),(9,.d (.int .i64 i))],[]⟩)
  (fun i=>i≤l.length∧firstL (termE vars) l=firstL (termE vars) (l.drop i)) (fun i=>l.length - i) 0 ⟨Nat.zero_le _,rfl⟩ (ent_ren id ⟨rfl,rfl,rfl,rfl,rfl,trivial⟩ trivial rfl rfl rfl rfl rfl rfl) ?_
 rintro i ⟨g1,g2⟩
 by_cases hi:i < l.length
 ·rw [firstL_step hi,show termE vars l[i]=if inR l[i].var (-1) (vars - 1)=false then 5 else if numB l[i].n=false∨(0≤l[i].var∧l[i].n≠0) then 3 else 0 from rfl] at g2
  repeat' (first|refine z0 ?_|refine z12 ?_|apply ds_nil|apply dw_seq2|refine z16 ?_|apply dw_block|apply dw_skip|apply dw_exit|apply dw_ret|refine z18 ?_|refine z19 ?_|apply thenD_n|apply thenD_e|apply thenD_r|apply inB_n|apply inB_r|refine z17 ?_|refine z21 ?_ (hc:=by apply swithin_fn)|refine z21 ?_ (hc:=by apply snumber_fn)|refine z1 ?_|refine z3 ?_|(refine z23 ?_ ?_ <;> intro hg)|(apply dw_cond;exact rfl;all_goals intro hg)|((fail_if_success (apply ds_known;exact rfl));apply ds_guardP;exact rfl;exact rfl;exact rfl;all_goals intro hg)|((fail_if_success (apply ds_known;exact rfl));apply ds_guardB;exact rfl;exact rfl;exact rfl;all_goals intro hg))
  all_goals first
   | exact absurd hg (by omega)
   | exact ret_i rfl (by rw [g2];simp_all <;> omega)
   | exact⟨i + 1,⟨by omega,by rw [g2];simp_all <;> omega⟩,ent_ren id ⟨rfl,rfl,rfl,rfl,rfl,trivial⟩ trivial rfl rfl rfl rfl rfl rfl,by show l.length - (i + 1) < l.length - i;omega⟩
 ·rw [firstL_end (by omega)] at g2
  repeat' (first|refine z0 ?_|refine z12 ?_|apply ds_nil|apply dw_seq2|refine z16 ?_|apply dw_block|apply dw_skip|apply dw_exit|apply dw_ret|refine z18 ?_|refine z19 ?_|apply thenD_n|apply thenD_e|apply thenD_r|apply inB_n|apply inB_r|refine z17 ?_|refine z21 ?_ (hc:=by apply swithin_fn)|refine z21 ?_ (hc:=by apply snumber_fn)|refine z1 ?_|refine z3 ?_|(refine z23 ?_ ?_ <;> intro hg)|(apply dw_cond;exact rfl;all_goals intro hg)|((fail_if_success (apply ds_known;exact rfl));apply ds_guardP;exact rfl;exact rfl;exact rfl;all_goals intro hg)|((fail_if_success (apply ds_known;exact rfl));apply ds_guardB;exact rfl;exact rfl;exact rfl;all_goals intro hg))
  all_goals first
   | exact absurd hg (by omega)
   | exact ret_i rfl g2.symm
end Go.Proofs.YtapciiffpnociacGreat

/- A plain logic over the walk: slices held against nil; the empty literal as an own row. No program is named here. Condition: none. -/
namespace Go.Proofs.YtapciiffpnociacGreat
open Go Go.RowKit
section
variable {Γ : Ctx} {k : Nat} {L : Sl} {H : Hp} {K : Next'} {ops : List Oper} {rest : List Oper} {t t' ty : TypeId} {x y : Operand}
theorem ds_bs0 {d te:TypeId} {pos:String} {af:Array Edge} {g:Option (Nat × Bool)} {es:Nat} (ht:(tiGet Γ.τ t).sh = .slice te) (hkn:(tiGet Γ.τ te).sh.known=true) (hes:(tiGet Γ.τ te).cells=es) (hpos:Nat.blt 0 es=true) (hz:zeroOk (tiGet Γ.τ te).zero=true) (hzl:Nat.beq (tiGet Γ.τ te).zero.length (tiGet Γ.τ te).cells=true) (hd:Nat.blt d Γ.n=true) (hw:wantedSV ops L g=some true)
  (hk:DS false Γ ops rest K (k + 1) ((d,.row k)::L) ((k,.row te es [])::H)):DS false Γ ops (⟨some d,.buildSlice t 0 #[],ty,pos,af,g⟩::rest) K k L H :=
 dl_op hw ((op_bs0 (lo_not k) ht hkn hes hpos hz hzl hd).cast (with1_lo k)) hk
theorem ds_eqnil {d te:TypeId} {pos:String} {af:Array Edge} {g:Option (Nat × Bool)} {es:Nat} {xs:List (List D)} (hx:opSV L x = .d (.slice es xs)) (hy:opSV L y = .nils) (ht:(tiGet Γ.τ t).sh = .slice te) (hd:Nat.blt d Γ.n=true) (hw:wantedSV ops L g=some true)
  (h1:xs=[]→DS false Γ ops rest K k ((d,.d (.bool true))::L) H) (h2:DS false Γ ops rest K k ((d,.d (.bool false))::L) H):DS false Γ ops (⟨some d,.binOp .eql t x y t',ty,pos,af,g⟩::rest) K k L H:=by
 refine dl_run hw fun e a w m=>?_
 obtain⟨ao,cap,hv,_,_,hnone⟩:=(evT m hx (cSV_slice · _ _)).slice_inv
 have hvy:a.eval y = .slice none 0 0:=by
  have hok:opOk y:=by
   cases y with
   | const v=>simp only [opSV] at hy;unfold cSV at hy;split at hy <;> simp_all [opOk,cOk]
   | _=>trivial
  have:=m.op y hok
  rw [hy] at this;exact this
 have hrun:(execOp a.eval ⟨some d,.binOp .eql t x y t',ty,pos,af,g⟩).run Γ.P w = .ok (.value (.bool ao.isNone)) w:=by
  simp [execOp,hv,hvy,eqGuard,Lib.run_eql_slice_nil w t te ao xs.length cap 0 0 (Ctx.slice ht)]
 unfold Oper.wp
 rw [hrun]
 cases ao with
 | none=>exact⟨k,_,H,e,m.put (s:=.d (.bool true)) (v:=.bool true) (Nat.le_of_ble_eq_true hd) .bool,h1 (hnone rfl)⟩
 | some ad=>exact⟨k,_,H,e,m.put (s:=.d (.bool false)) (v:=.bool false) (Nat.le_of_ble_eq_true hd) .bool,h2⟩
end
end Go.Proofs.YtapciiffpnociacGreat

/- Copies of lists. Condition: none. -/
namespace Go.Proofs.YtapciiffpnociacGreat
open Go Go.RowKit
attribute [local irreducible] DW DS DL DQ Ev FnOk FnP thenD inBlockD DT
set_option maxHeartbeats 8000000 in
theorem cloneI_fn (l:List (Int)) (hl:l.length≤17592186044416):Fn 81 [.d (.slice 1 (l.map encI))] (fun r=>r = .d (.slice 1 (l.map encI))):=by
 refine fnp_enter' _ Tryz.func81 rfl rfl (by kernel_rfl) ?_
 intro O w0 E0 β0
 have la:(l.map encI).length=l.length:=List.length_map _
 repeat' (first|refine z0 ?_|apply ds_nil|apply dw_seq2|refine z16 ?_|apply thenD_n)
 refine ds_eqnil rfl rfl rfl rfl rfl (fun h=>?_) ?_
 ·have h0:l=[]:=List.map_eq_nil_iff.1 h
  subst h0
  repeat' (first|refine z0 ?_|apply ds_nil|apply dw_seq2|refine z16 ?_|refine z18 ?_|apply thenD_n)
  refine dw_ent (ent_nild 2 1 rfl) ?_
  repeat' (first|apply dw_ret|apply thenD_r)
  exact⟨.inl rfl,_,rfl,rfl,rfl⟩
 ·repeat' (first|(apply ds_bs0;exact rfl;exact rfl;exact rfl;exact rfl;exact rfl;exact rfl;exact rfl;exact rfl)|(first|refine z0 ?_|apply ds_nil|apply dw_seq2|refine z16 ?_|apply dw_skip|refine z19 ?_|apply thenD_n|refine z2 ?_|fail))
  refine dw_ent (ent_seal 2 rfl rfl rfl) ?_
  repeat' (apply dw_ret)
  exact⟨.inl rfl,_,rfl,rfl,rfl⟩
end Go.Proofs.YtapciiffpnociacGreat

/- relation's small calls. Condition: none. -/
namespace Go.Proofs.YtapciiffpnociacGreat
open Go Go.RowKit
attribute [local irreducible] DW DS DL DQ Ev FnOk FnP thenD inBlockD DT
set_option maxHeartbeats 8000000 in
theorem rsame_fn (a b:Fct):Fn 135 [elFct a,elFct b] (fun r=>r = .d (.bool (decide (ordF a b=0)))):=by
 refine fnp_enter' _ Tryz.func135 rfl rfl (by kernel_rfl) ?_
 intro O w0 E0 β0
 have w:=orderF_fn a b
 repeat' (first|refine z0 ?_|apply ds_nil|apply dw_seq2|refine z16 ?_|apply dw_ret|apply thenD_n|refine z21 ?_ (hc:=by apply w)|refine z1 ?_|fail)
 exact ret_b rfl rfl
set_option maxHeartbeats 8000000 in
theorem setAny_fn (a:Fct):Fn 92 [elFct a] (fun r=>r = .d (.bool true)):=by
 refine fnp_enter' _ Tryz.func92 rfl rfl (by kernel_rfl) ?_
 intro O w0 E0 β0
 repeat' (first|refine z0 ?_|apply ds_nil|apply dw_seq2|refine z16 ?_|apply dw_ret|apply thenD_n|refine z1 ?_|fail)
 exact ret_b rfl rfl
set_option maxHeartbeats 8000000 in
theorem own_fn (a:Fct) (h:a.args.length≤17592186044416):Fn 117 [elFct a] (fun r=>r=elFct a):=by
 refine fnp_enter' _ Tryz.func117 rfl rfl (by kernel_rfl) ?_
 intro O w0 E0 β0
 have w:=cloneI_fn a.args h
 repeat' (first|apply ds_nil|refine z5 ?_|refine z6 ?_|refine z10 ?_|apply dw_seq2|refine z16 ?_|refine z20 ?_|apply dw_ret|apply thenD_n|refine z22 ?_ (hc:=by apply w)|refine z1 ?_|fail)
 exact⟨.inl rfl,_,rfl,rfl,rfl⟩
end Go.Proofs.YtapciiffpnociacGreat
