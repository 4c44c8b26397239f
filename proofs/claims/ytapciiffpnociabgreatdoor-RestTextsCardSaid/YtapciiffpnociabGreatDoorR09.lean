/- Several texts in one: TokU TokV TokW TokX TokY TokZ TokA TokB TokC TokD ShJ TokJ GxCell GxElm WirP ScoP LstP WirE ScoE ScoA. Condition: none. -/
import Derived.Test.YtapciiffpnociabGreatDoorR08
import Derived.Shelf.Strings.OnBuilder
import Derived.Ground.Names2Prog
import Derived.Ground.SlgnProg
import Derived.Test.YtapciiffpnociabGreatDoorProg
import Derived.Laws.MakeOwn
import Derived.Laws.OwnMore
import Derived.Test.YtapciiffpnociabGreatDoorR01
namespace Go.Proofs.YtapciiffpnociabGreatDoor
open Go Go.RowKit
attribute [local irreducible] DW DS DL DQ Ev FnOk FnP thenD inBlockD DT
def encScan (r:List Tok × Int × Int):SV:=.tup [.d (encToks r.1),.d (.int .i64 r.2.1),.d (.int .i64 r.2.2)]
theorem scanS_big (s:ByteArray) (h:5000 < s.size):scanS s=([],0,2):=by unfold scanS;rw [if_pos h]
theorem scanS_ok (s:ByteArray) (h:¬ 5000 < s.size) (l:List Tok) (e:scanAt s false 0 = .ok l):scanS s=(l,0,0):=by unfold scanS;rw [if_neg h,e]
theorem scanS_err (s:ByteArray) (h:¬ 5000 < s.size) (p e:Int) (he:scanAt s false 0 = .error (p,e)):scanS s=([],p,e):=by unfold scanS;rw [if_neg h,he]
def scanPre (s:ByteArray) (x:List Tok × Bool × Nat):Prop :=
 x.2.2≤s.size∧x.1.length≤x.2.2∧scanAt s false 0=(scanAt s x.2.1 x.2.2).map (x.1++·)
theorem i37 (c:UInt8):((c.toNat:Int)=37)=(c=37):=u8i c 37
theorem i32 (c:UInt8):((c.toNat:Int)=32)=(c=32):=u8i c 32
theorem i9 (c:UInt8):((c.toNat:Int)=9)=(c=9):=u8i c 9
theorem i10 (c:UInt8):((c.toNat:Int)=10)=(c=10):=u8i c 10
theorem note_step (s:ByteArray) (note:Bool) (i:Nat) (h:i < s.size) (hn:note=true∨(s[i].toNat:Int)=37):scanAt s note i=scanAt s (decide ((s[i].toNat:Int)≠10)) (i + 1):=by
 rw [scanAt_note s note i h (by rw [i37] at hn;rcases hn with hn|hn <;> simp [hn])]
 congr 1
 rw [Bool.eq_iff_iff]
 simp only [ne_eq,i10]
 simp
theorem blank_step (s:ByteArray) (note:Bool) (i:Nat) (h:i < s.size) (hn:note=false) (h1:¬ (s[i].toNat:Int)=37) (h2:(s[i].toNat:Int)=32∨(s[i].toNat:Int)=9∨(s[i].toNat:Int)=10):scanAt s note i=scanAt s note (i + 1):=by
 subst hn
 rw [i37] at h1
 rw [i32,i9,i10] at h2
 exact scanAt_blank s i h (by simpa using h1) (by simpa [or_assoc] using h2)
theorem tok_step (s:ByteArray) (note:Bool) (i:Nat) (h:i < s.size) (hn:note=false) (h1:¬ (s[i].toNat:Int)=37) (h2:¬ (s[i].toNat:Int)=32) (h3:¬ (s[i].toNat:Int)=9) (h4:¬ (s[i].toNat:Int)=10) (q:Int × Nat) (hq:tokAt (s.data.toList.drop i)=q) :
  scanAt s note i=if tokErr q.1 q.2 s[i]=0 then (scanAt s note (i + q.2)).map (Tok.mk q.1 i (s.extract i (i + q.2))::·) else .error (i,tokErr q.1 q.2 s[i]):=by
 subst hn
 subst hq
 rw [i37] at h1
 rw [i32] at h2
 rw [i9] at h3
 rw [i10] at h4
 have e1:(s[i] == 37)=false:=by simpa using h1
 have e2:(s[i] == 32 || s[i] == 9 || s[i] == 10)=false:=by simp [h2,h3,h4]
 split
 ·rename_i he
  exact scanAt_tok s i h e1 e2 he
 ·rename_i he
  exact scanAt_err s i h e1 e2 he
theorem map_map (x:Except (Int × Int) (List Tok)) (f g:List Tok→List Tok):(x.map f).map g=x.map fun l=>g (f l):=by cases x <;> rfl
theorem ext0 (s:ByteArray) (i n:Nat) (h:i < s.size) (h0:0 < (s.extract i (i + n)).size):(s.extract i (i + n))[0]=s[i]:=by
 simp [ByteArray.getElem_eq_getElem_data,ByteArray.data_extract]
theorem ext0i (s:ByteArray) (i n:Nat) (h:i < s.size) (hn:1≤n) (hb:i + n≤s.size):(((s.extract i (i + n))[0]'(by rw [ByteArray.size_extract];omega)).toNat:Int)=(s[i].toNat:Int):=by rw [ext0 s i n h]
theorem tokErr_int (kind:Int) (n:Nat) (c:UInt8):tokErr kind n c=if kind=0 then 1 else if ((kind=1∨kind=2)∧(12:Int) < n)∨(kind=3∧(7:Int) < n) then 2 else if kind=3∧(1:Int) < n∧(c.toNat:Int)=48 then 1 else 0:=by
 simp only [natc_lt12,natc_lt7,natc_lt1,u48]
 exact tokErr_eq kind n c
set_option maxHeartbeats 2000000 in
set_option maxHeartbeats 8000000 in
theorem scanOf_fn (s:ByteArray):Fn 32 [.d (.str s)] (fun r=>r=encScan (scanS s)):=by
 refine fnp_enter' _ Tryz.func32 rfl rfl (by kernel_rfl) ?_
 intro O w0 E0 β0
 repeat' (first|refine z0 ?_|apply ds_nil|apply dw_seq2|refine z16 ?_|apply thenD_n)
 refine dw_condP rfl (fun hbig=>?_) (fun hbig=>?_)
 ·repeat' (first|refine z0 ?_|apply ds_nil|apply dw_seq2|refine z16 ?_|apply thenD_n)
  refine dw_nild 2 3 rfl ?_
  repeat' (first|apply dw_ret|apply thenD_r)
  exact ret_3 rfl (by rw [scanS_big s (by omega)];exact⟨rfl,rfl,rfl⟩)
 ·repeat' (first|refine z0 ?_|apply ds_nil|apply dw_seq2|refine z16 ?_|apply dw_block|apply dw_skip|apply thenD_n)
  refine dw_nilrow (t:=5) 43 3 rfl ?_
  refine ds_loop (ι:=List Tok × Bool × Nat) (fun x=>⟨1,[(0,.d (.str s)),(5,.row 0),(6,.d (.bool x.2.1)),(7,.d (.int .i64 x.2.2))],[(0,.row 43 3 (x.1.map encTok))]⟩)
   (scanPre s) (fun x=>s.size - x.2.2) ([],false,0) ⟨Nat.zero_le _,Nat.le_refl _,by cases scanAt s false 0 <;> rfl⟩
   (ent_ren id ⟨rfl,rfl,rfl,rfl,trivial⟩ ⟨rfl,trivial⟩ rfl rfl rfl rfl rfl rfl) ?_
  rintro⟨toks,note,i⟩ ⟨h1,h2,h3⟩
  dsimp only at h1 h2 h3 ⊢
  repeat' (first|refine z0 ?_|apply ds_nil|apply dw_seq2|refine z16 ?_|apply thenD_n)
  refine dw_condP rfl (fun hlt=>?_) (fun hlt=>?_)
  ·have hlt':i < s.size:=by omega
   repeat' (first|refine z0 ?_|refine z12 ?_|apply ds_nil|apply dw_seq2|refine z16 ?_|apply dw_block|apply dw_skip|apply dw_exit|refine z18 ?_|apply thenD_n|apply thenD_e|refine z17 ?_|(refine z23 ?_ ?_ <;> intro hg)|((fail_if_success (apply ds_known;exact rfl));apply ds_guardP;exact rfl;exact rfl;exact rfl;all_goals intro hg)|((fail_if_success (apply ds_known;exact rfl));apply ds_guardB;exact rfl;exact rfl;exact rfl;all_goals intro hg))
   all_goals first
    | (refine⟨(toks,decide ((s[i].toNat:Int)≠10),i + 1),⟨?_,?_,?_⟩,ent_ren id ⟨rfl,rfl,rfl,rfl,trivial⟩ ⟨rfl,trivial⟩ rfl rfl rfl rfl rfl rfl,?_⟩
       ·show i + 1≤s.size;omega
       ·show toks.length≤i + 1;omega
       ·show scanAt s false 0=_;rw [h3,note_step s note i hlt' (by simp_all)]
       ·show s.size - (i + 1) < s.size - i;omega)
    | (refine⟨(toks,note,i + 1),⟨?_,?_,?_⟩,ent_ren id ⟨rfl,rfl,rfl,rfl,trivial⟩ ⟨rfl,trivial⟩ rfl rfl rfl rfl rfl rfl,?_⟩
       ·show i + 1≤s.size;omega
       ·show toks.length≤i + 1;omega
       ·show scanAt s false 0=_;rw [h3,blank_step s note i hlt' (by assumption) (by assumption) (by simp_all)]
       ·show s.size - (i + 1) < s.size - i;omega)
    | skip
   have hT:=tokenAt_fn s i hlt' (by omega)
   have hS:=tok_step s note i hlt' ‹_› ‹_› ‹_› ‹_› ‹_› _ rfl
   have hle:=tokAt_le (s.data.toList.drop i)
   have hpo:=tokAt_pos (s.data.toList.drop i)
   rw [List.length_drop,show s.data.toList.length=s.size by simp] at hle
   generalize tokAt (s.data.toList.drop i)=q at hT hS hle hpo
   obtain⟨kind,n⟩:=q
   dsimp only at hT hS hle hpo
   have hez:(s.extract i (i + n)).size=n:=by rw [ByteArray.size_extract];omega
   rw [hS] at h3
   have hbad:∀ e,tokErr kind n s[i]=e→e≠0→scanS s=([],(i:Int),e):=fun e h h0=>scanS_err s (by omega) _ _ (by rw [h3,if_neg (by rw [h];exact h0),h];rfl)
   refine ds_call rfl rfl hT rfl rfl rfl ?_
   rintro _ rfl
   repeat' (first|refine z0 ?_|refine z12 ?_|apply ds_nil|apply dw_seq2|refine z16 ?_|apply dw_skip|refine z18 ?_|refine z19 ?_|apply thenD_n|refine z4 ?_|(refine z23 ?_ ?_ <;> intro hg)|((fail_if_success (apply ds_known;exact rfl));apply ds_guardP;exact rfl;exact rfl;exact rfl;all_goals intro hg))
   all_goals first
    | (exfalso;omega)
    | (refine dw_nild 2 3 rfl ?_
       apply dw_ret
       repeat' (first|apply thenD_r|apply inB_r)
       refine ret_3 rfl ?_
       first
        | (rw [hbad 1 (by rw [tokErr_int];repeat' split;all_goals first|omega|(have hx:=ext0i s i n hlt' (by omega) (by omega);omega)) (by decide)];exact⟨rfl,rfl,rfl⟩)
        | (rw [hbad 2 (by rw [tokErr_int];repeat' split;all_goals first|omega|(have hx:=ext0i s i n hlt' (by omega) (by omega);omega)) (by decide)];exact⟨rfl,rfl,rfl⟩))
    | skip
   all_goals
    have hk0:tokErr kind n s[i]=0:=by rw [tokErr_int];repeat' split;all_goals first|omega|(have hx:=ext0i s i n hlt' (by omega) (by omega);omega)
    have hn1:=hpo ‹_›
    rw [if_pos hk0] at h3
    apply ds_of_dl
    refine dl_append_row (te:=43) (es:=3) rfl rfl rfl rfl rfl rfl rfl rfl rfl rfl ?_ ?_ ?_
    ·show _ * 32≤_
     rw [List.length_map]
     show (_ + 1) * 32≤_
     omega
    ·rw [List.length_map]
     show _ + 1≤_
     exact Nat.le_trans (show _≤5001 by omega) (by decide)
    apply dl_of_ds
    repeat' (first|refine z0 ?_|apply ds_nil|refine z16 ?_|apply thenD_n|apply inB_n)
    refine⟨(toks++[⟨kind,i,s.extract i (i + n)⟩],note,i + n),⟨?_,?_,?_⟩,?_,?_⟩
    ·show i + n≤s.size;omega
    ·show (toks++[_]).length≤i + n
     rw [List.length_append]
     show _ + 1≤_
     omega
    ·show scanAt s false 0=_
     rw [h3,map_map]
     simp only [List.append_assoc,List.singleton_append]
    ·dsimp only
     rw [List.map_append]
     exact ent_ren (fun _=>1) ⟨rfl,rfl,rfl,rfl,trivial⟩ ⟨rfl,trivial⟩ rfl rfl rfl rfl rfl rfl
    ·show s.size - (i + n) < s.size - i;omega
  ·repeat' (first|refine z0 ?_|apply ds_nil|apply dw_seq2|refine z16 ?_|apply dw_exit|apply thenD_n|apply thenD_e|refine z17 ?_|fail)
   refine dw_seal 2 rfl rfl ?_
   repeat' (apply dw_ret)
   refine ret_3 rfl ?_
   rw [scanS_ok s (by omega) toks (by rw [h3,scanAt_end s note i (by omega)];exact congrArg Except.ok (List.append_nil _))]
   exact⟨rfl,rfl,rfl⟩
theorem small_eq (c:UInt8):smallB c=(decide ((97:Int)≤c.toNat) && decide ((c.toNat:Int)≤122)):=by unfold smallB;rfl
theorem great_eq (c:UInt8):greatB c=(decide ((65:Int)≤c.toNat) && decide ((c.toNat:Int)≤90)):=by unfold greatB;rfl
theorem digit_eq (c:UInt8):digitB c=(decide ((48:Int)≤c.toNat) && decide ((c.toNat:Int)≤57)):=by unfold digitB;rfl
set_option maxHeartbeats 8000000 in
theorem small_fn (c:UInt8):Fn 71 [.d (.int .u8 (c.toNat:Int))] (fun r=>r = .d (.bool (smallB c))):=by
 refine fnp_enter' _ Tryz.func71 rfl rfl (by kernel_rfl) ?_
 intro O w0 E0 β0
 repeat' (first|refine z0 ?_|refine z12 ?_|apply ds_nil|apply dw_seq2|refine z16 ?_|apply dw_ret|apply thenD_n|((fail_if_success (apply ds_known;exact rfl));apply ds_guardP;exact rfl;exact rfl;exact rfl;all_goals intro hg))
 all_goals exact ret_b rfl (by rw [small_eq];first|(simp_all;done)|(simp_all;omega))
set_option maxHeartbeats 8000000 in
theorem great_fn (c:UInt8):Fn 72 [.d (.int .u8 (c.toNat:Int))] (fun r=>r = .d (.bool (greatB c))):=by
 refine fnp_enter' _ Tryz.func72 rfl rfl (by kernel_rfl) ?_
 intro O w0 E0 β0
 repeat' (first|refine z0 ?_|refine z12 ?_|apply ds_nil|apply dw_seq2|refine z16 ?_|apply dw_ret|apply thenD_n|((fail_if_success (apply ds_known;exact rfl));apply ds_guardP;exact rfl;exact rfl;exact rfl;all_goals intro hg))
 all_goals exact ret_b rfl (by rw [great_eq];first|(simp_all;done)|(simp_all;omega))
set_option maxHeartbeats 8000000 in
theorem digit_fn (c:UInt8):Fn 75 [.d (.int .u8 (c.toNat:Int))] (fun r=>r = .d (.bool (digitB c))):=by
 refine fnp_enter' _ Tryz.func75 rfl rfl (by kernel_rfl) ?_
 intro O w0 E0 β0
 repeat' (first|refine z0 ?_|refine z12 ?_|apply ds_nil|apply dw_seq2|refine z16 ?_|apply dw_ret|apply thenD_n|((fail_if_success (apply ds_known;exact rfl));apply ds_guardP;exact rfl;exact rfl;exact rfl;all_goals intro hg))
 all_goals exact ret_b rfl (by rw [digit_eq];first|(simp_all;done)|(simp_all;omega))
set_option maxHeartbeats 8000000 in
theorem alnum_fn (c:UInt8):Fn 74 [.d (.int .u8 (c.toNat:Int))] (fun r=>r = .d (.bool (alnumB c))):=by
 refine fnp_enter' _ Tryz.func74 rfl rfl (by kernel_rfl) ?_
 intro O w0 E0 β0
 repeat' (first|refine z0 ?_|refine z12 ?_|apply ds_nil|apply dw_seq2|refine z16 ?_|apply dw_ret|apply thenD_n|refine z21 ?_ (hc:=by apply small_fn)|refine z21 ?_ (hc:=by apply great_fn)|refine z21 ?_ (hc:=by apply digit_fn)|((fail_if_success (apply ds_known;exact rfl));apply ds_guardB;exact rfl;exact rfl;exact rfl;all_goals intro hg))
 all_goals exact ret_b rfl (by unfold alnumB letterB;simp_all)
abbrev FnS (f:FuncId) (args:List SV) (J k:Nat) (H:Hp) (R:Nat→SV→Hp→Prop):Prop:=FnOk false Tryz.prog tab tab_ok f args J k H R
abbrev scH (s:ByteArray) (i:Nat):Hp:=[(0,.blk 87 [.d (.str s),.d (.int .i64 i)])]
set_option maxHeartbeats 8000000 in
theorem sign_fn (s:ByteArray) (i:Nat):FnS 70 [.loc 0 0] 1 1 (scH s i) (fun k2 r H2=>k2=1∧r = .d (.int .u8 (if h:i < s.size then (s[i].toNat:Int) else 0))∧H2=scH s i):=by
 refine fn_enter _ Tryz.func70 rfl rfl (by kernel_rfl) ?_
 intro O w0 E0 β0
 repeat' (first|refine z0 ?_|apply ds_nil|refine z5 ?_|refine z10 ?_|apply dw_seq2|refine z16 ?_|refine z20 ?_|apply dw_skip|apply dw_ret|apply thenD_n|apply thenD_r|(refine z23 ?_ ?_ <;> intro hg)|fail)
 ·refine⟨.inl rfl,_,rfl,rfl,?_,rfl⟩
  rw [dif_pos (by omega)];rfl
 ·refine⟨.inl rfl,_,rfl,rfl,?_,rfl⟩
  rw [dif_neg (by omega)];rfl
theorem note_at (s:ByteArray) (j:Nat) (h:j < s.size) (h1:(s[j].toNat:Int)=37):scanAt s false j=scanAt s true j:=by
 rw [note_step s false j h (.inr h1),note_step s true j h (.inl rfl)]
theorem note_in (s:ByteArray) (j:Nat) (h:j < s.size) (h1:¬ (s[j].toNat:Int)=10):scanAt s true j=scanAt s true (j + 1):=by
 rw [note_step s true j h (.inl rfl),decide_eq_true h1]
theorem note_out (s:ByteArray) (j:Nat) (h:∀ h:j < s.size,(s[j].toNat:Int)=10):scanAt s true j=scanAt s false j:=by
 by_cases hj:j < s.size
 ·have h10:=h hj
  rw [note_step s true j hj (.inl rfl),decide_eq_false (by rw [h10];simp),blank_step s false j hj rfl (by omega) (by omega)]
 ·rw [scanAt_end s true j (by omega),scanAt_end s false j (by omega)]
set_option maxHeartbeats 8000000 in
theorem skip_fn (s:ByteArray) (i:Nat) (hi:i≤s.size) (hs:s.size≤5000):FnS 44 [.loc 0 0] 1 1 (scH s i)
  (fun k2 r H2=>k2=1∧r = .tup []∧∃ j:Nat,i≤j∧j≤s.size∧scanAt s false i=scanAt s false j∧(∀ h:j < s.size,¬ (s[j].toNat:Int)=37∧¬ (s[j].toNat:Int)=32∧¬ (s[j].toNat:Int)=9∧¬ (s[j].toNat:Int)=10)∧H2=scH s j):=by
 refine fn_enter _ Tryz.func44 rfl rfl (by kernel_rfl) ?_
 intro O w0 E0 β0
 repeat' (apply dw_block)
 refine ds_loop (ι:=Nat) (fun j=>⟨1,[(0,.loc 0 0)],scH s j⟩) (fun j=>i≤j∧j≤s.size∧scanAt s false i=scanAt s false j) (fun j=>s.size - j) i ⟨Nat.le_refl _,hi,rfl⟩
  (ent_ren id ⟨rfl,trivial⟩ ⟨rfl,trivial⟩ rfl rfl rfl rfl rfl rfl) ?_
 rintro j ⟨h1,h2,h3⟩
 repeat' (first|refine z0 ?_|apply ds_nil|refine z5 ?_|refine z10 ?_|apply dw_seq2|refine z16 ?_|refine z20 ?_|apply dw_block|apply dw_skip|apply dw_exit|apply dw_ret|apply thenD_n|apply thenD_e|apply thenD_r|apply inB_n|apply inB_r|refine z17 ?_|refine z3 ?_|(refine z23 ?_ ?_ <;> intro hg)|fail)
 all_goals first
  | (exfalso;omega)
  | (refine⟨j + 1,⟨by omega,by omega,h3.trans (blank_step s false j (by omega) rfl (by omega) (by omega))⟩,ent_ren id ⟨rfl,trivial⟩ ⟨rfl,trivial⟩ rfl rfl rfl rfl rfl rfl,by omega⟩)
  | (refine⟨.inl rfl,_,rfl,rfl,rfl,j,h1,h2,h3,?_,rfl⟩
     intro hj
     refine⟨?_,?_,?_,?_⟩ <;> omega)
  | (refine⟨.inr rfl,_,rfl,rfl,rfl,j,h1,h2,h3,?_,rfl⟩
     intro hj
     refine⟨?_,?_,?_,?_⟩ <;> omega)
  | skip
 all_goals
  refine ds_loop (ι:=Nat) (fun m=>⟨1,[(0,.loc 0 0)],scH s m⟩) (fun m=>j≤m∧m≤s.size∧scanAt s false i=scanAt s true m) (fun m=>s.size - m) j
   ⟨Nat.le_refl _,h2,h3.trans (note_at s j (by omega) (by omega))⟩ (ent_ren id ⟨rfl,trivial⟩ ⟨rfl,trivial⟩ rfl rfl rfl rfl rfl rfl) ?_
  rintro m ⟨g1,g2,g3⟩
  repeat' (first|refine z0 ?_|apply ds_nil|refine z5 ?_|refine z14 ?_|refine z10 ?_|apply dw_seq2|refine z16 ?_|refine z20 ?_|apply dw_block|apply dw_skip|apply dw_exit|refine z19 ?_|apply thenD_n|apply thenD_e|apply inB_n|refine z17 ?_|refine z3 ?_|(refine z23 ?_ ?_ <;> intro hg)|((fail_if_success (apply dt_known;exact rfl));apply dt_guardP;exact rfl;exact rfl;exact rfl;all_goals intro hg))
  all_goals first
   | (refine⟨m + 1,⟨by omega,by omega,g3.trans (note_in s m (by omega) (by omega))⟩,ent_ren id ⟨rfl,trivial⟩ ⟨rfl,trivial⟩ rfl rfl rfl rfl rfl rfl,by omega⟩)
   | (have hne:m≠j:=by
       intro e
       subst e
       omega
      refine⟨m,⟨by omega,g2,g3.trans (note_out s m (by intro h;omega))⟩,ent_ren id ⟨rfl,trivial⟩ ⟨rfl,trivial⟩ rfl rfl rfl rfl rfl rfl,by omega⟩)
set_option maxHeartbeats 8000000 in
theorem run_fn (s:ByteArray) (i:Nat) (hi:i≤s.size) (hs:s.size≤5000) (f:FuncId) (p:UInt8→Bool) (hp:∀ c:UInt8,Fn f [.d (.int .u8 (c.toNat:Int))] (fun r=>r = .d (.bool (p c)))) :
  FnS 73 [.loc 0 0,.fn f []] 1 1 (scH s i)
   (fun k2 r H2=>k2=1∧r = .d (.str (s.extract i (i + takeW p (s.data.toList.drop i))))∧H2=scH s (i + takeW p (s.data.toList.drop i))):=by
 refine fn_enter _ Tryz.func73 rfl rfl (by kernel_rfl) ?_
 intro O w0 E0 β0
 repeat' (first|refine z0 ?_|apply ds_nil|apply dw_seq2|refine z16 ?_|apply dw_block|apply thenD_n)
 have hl0:s.data.toList.length=s.size:=by simp
 refine ds_loop (ι:=Nat) (fun j=>⟨1,[(0,.loc 0 0),(1,.fn f []),(5,.d (.int .i64 i))],scH s j⟩) (fun j=>i≤j∧j≤s.size∧i + takeW p (s.data.toList.drop i)=j + takeW p (s.data.toList.drop j)) (fun j=>s.size - j) i ⟨Nat.le_refl _,hi,rfl⟩
  (ent_ren id ⟨rfl,rfl,rfl,trivial⟩ ⟨rfl,trivial⟩ rfl rfl rfl rfl rfl rfl) ?_
 rintro j ⟨h1,h2,h3⟩
 have hstep:=fun h hq=>takeW_step p s.data.toList j h hq
 have hstop:=fun h hq=>takeW_stop p s.data.toList j h hq
 have hend:=takeW_end p s.data.toList j
 repeat' (first|refine z5 ?_|refine z14 ?_|refine z10 ?_|apply dw_seq2|refine z20 ?_|apply dw_exit|apply dw_ret|refine z19 ?_|apply thenD_n|apply thenD_e|refine z17 ?_|((fail_if_success (apply dt_known;exact rfl));apply dt_guardP;exact rfl;exact rfl;exact rfl;all_goals intro hg))
 all_goals first
  | (refine dt_callV rfl rfl rfl rfl (hp _) rfl rfl rfl rfl ⟨_,rfl⟩ ?_;rintro _ rfl)
  | (exact absurd hg (by decide))
  | skip
 repeat' (first|refine z0 ?_|apply ds_nil|refine z5 ?_|refine z10 ?_|apply dw_seq2|refine z16 ?_|refine z20 ?_|apply dw_block|apply dw_skip|apply dw_exit|apply dw_ret|apply thenD_n|apply thenD_e|apply inB_n|refine z17 ?_|refine z3 ?_|(apply dw_cond;exact rfl;all_goals intro hg))
 all_goals first
  | (have hj:i + takeW p (s.data.toList.drop i)=j:=by have:=hend (by omega);omega
     rw [hj]
     exact⟨.inl rfl,_,rfl,rfl,rfl,rfl⟩)
  | (have hq:=hstep (by omega) (by rw [byteAt _ _ (by omega)];first|assumption|simp_all)
     refine⟨j + 1,⟨by omega,by omega,by omega⟩,ent_ren id ⟨rfl,rfl,rfl,trivial⟩ ⟨rfl,trivial⟩ rfl rfl rfl rfl rfl rfl,by omega⟩)
  | (have hq:=hstop (by omega) (by rw [byteAt _ _ (by omega)];first|assumption|simp_all)
     have hj:i + takeW p (s.data.toList.drop i)=j:=by omega
     rw [hj]
     exact⟨.inl rfl,_,rfl,rfl,rfl,rfl⟩)
def pairL:D:=.slice 1 [[.str ⟨#[58,45]⟩],[.str ⟨#[60,61]⟩],[.str ⟨#[33,61]⟩]]
set_option maxHeartbeats 8000000 in
theorem pairs_fn:Fn 77 [] (fun r=>r = .d pairL):=by
 refine fnp_enter' _ Tryz.func77 rfl rfl (by kernel_rfl) ?_
 intro O w0 E0 β0
 repeat' (first|refine z0 ?_|apply ds_nil|apply dw_seq2|refine z16 ?_|apply dw_ret|apply thenD_n|refine z4 ?_|fail)
 exact⟨.inl rfl,_,rfl,rfl,rfl⟩
def hasPre (s t:ByteArray):Bool:=decide (t.size≤s.size) && decide (s.extract 0 t.size=t)
set_option maxHeartbeats 8000000 in
theorem hasPrefix0_fn (s t:ByteArray):Fn 102 [.d (.str s),.d (.str t)] (fun r=>r = .d (.bool (hasPre s t))):=by
 refine fnp_enter' _ Tryz.func102 rfl rfl (by kernel_rfl) ?_
 intro O w0 E0 β0
 repeat' (first|refine z0 ?_|refine z12 ?_|apply ds_nil|apply dw_seq2|refine z16 ?_|apply dw_ret|apply thenD_n|((fail_if_success (apply ds_known;exact rfl));apply ds_guardP;exact rfl;exact rfl;exact rfl;all_goals intro hg))
 all_goals exact ret_b rfl (by
  unfold hasPre
  first
   | (have h:t.size≤s.size:=by omega
      simp [h];done)
   | (have h:¬ t.size≤s.size:=by omega
      simp [h];done))
set_option maxHeartbeats 8000000 in
theorem hasPrefix_fn (s t:ByteArray):Fn 79 [.d (.str s),.d (.str t)] (fun r=>r = .d (.bool (hasPre s t))):=by
 refine fnp_enter' _ Tryz.func79 rfl rfl (by kernel_rfl) ?_
 intro O w0 E0 β0
 repeat' (first|refine z0 ?_|apply ds_nil|apply dw_seq2|refine z16 ?_|apply dw_ret|apply thenD_n|refine z21 ?_ (hc:=by apply hasPrefix0_fn)|fail)
 all_goals exact ret_b rfl rfl
abbrev scH2 (s:ByteArray) (i:Nat):Hp:=[(0,.blk 87 [.d (.str s),.d (.int .i64 i)]),(1,.blk 85 [.loc 0 0])]
set_option maxHeartbeats 8000000 in
theorem begins_fn (s:ByteArray) (i:Nat) (hi:i≤s.size) (t:ByteArray) :
  FnS 78 [.d (.str t),.loc 1 0] 2 2 (scH2 s i) (fun k2 r H2=>k2=2∧r = .d (.bool (hasPre (s.extract i s.size) t))∧H2=scH2 s i):=by
 refine fn_enter _ Tryz.func78 rfl rfl (by kernel_rfl) ?_
 intro O w0 E0 β0
 repeat' (first|refine z0 ?_|apply ds_nil|refine z5 ?_|refine z10 ?_|apply dw_seq2|refine z16 ?_|refine z20 ?_|apply dw_ret|apply thenD_n|refine z22 ?_ (hc:=by apply hasPrefix_fn)|fail)
 exact⟨.inl rfl,_,rfl,rfl,rfl,rfl⟩
def pairT:List ByteArray:=[⟨#[58,45]⟩,⟨#[60,61]⟩,⟨#[33,61]⟩]
def pairAt (r:ByteArray):Int:=if hasPre r ⟨#[58,45]⟩ then 0 else if hasPre r ⟨#[60,61]⟩ then 1 else if hasPre r ⟨#[33,61]⟩ then 2 else -1
theorem pairAt_hit (r:ByteArray) (j:Nat) (hj:j < pairT.length) (h2:∀ m (_:m < j) (hm3:m < pairT.length),hasPre r pairT[m]=false) (h:hasPre r pairT[j]=true):pairAt r=j:=by
 have hj3:j < 3:=hj
 unfold pairAt
 match j,hj3 with
 | 0,_=>rw [if_pos (show hasPre r ⟨#[58,45]⟩=true from h)];rfl
 | 1,_=>rw [if_neg (by rw [show hasPre r ⟨#[58,45]⟩=false from h2 0 (by omega) (by decide)];decide),if_pos (show hasPre r ⟨#[60,61]⟩=true from h)];rfl
 | 2,_=>rw [if_neg (by rw [show hasPre r ⟨#[58,45]⟩=false from h2 0 (by omega) (by decide)];decide),if_neg (by rw [show hasPre r ⟨#[60,61]⟩=false from h2 1 (by omega) (by decide)];decide),if_pos (show hasPre r ⟨#[33,61]⟩=true from h)];rfl
theorem pairAt_none (r:ByteArray) (h2:∀ m (_:m < 3) (hm3:m < pairT.length),hasPre r pairT[m]=false):pairAt r = -1:=by
 unfold pairAt
 rw [if_neg (by rw [show hasPre r ⟨#[58,45]⟩=false from h2 0 (by omega) (by decide)];decide),if_neg (by rw [show hasPre r ⟨#[60,61]⟩=false from h2 1 (by omega) (by decide)];decide),if_neg (by rw [show hasPre r ⟨#[33,61]⟩=false from h2 2 (by omega) (by decide)];decide)]
set_option maxHeartbeats 8000000 in
theorem indexFunc_fn (s:ByteArray) (i:Nat) (hi:i≤s.size) :
  FnS 101 [.d (.slice 1 (pairT.map fun t=>[.str t])),.fn 78 [.loc 1 0]] 2 2 (scH2 s i) (fun _ r H2=>r = .d (.int .i64 (pairAt (s.extract i s.size)))∧H2=scH2 s i):=by
 refine fn_enter _ Tryz.func101 rfl rfl (by kernel_rfl) ?_
 intro O w0 E0 β0
 repeat' (first|refine z0 ?_|apply ds_nil|apply dw_seq2|refine z16 ?_|apply dw_block|apply thenD_n)
 refine ds_loop (ι:=Nat) (fun j=>⟨2,[(0,.d (.slice 1 (pairT.map fun t=>[.str t]))),(1,.fn 78 [.loc 1 0]),(7,.d (.int .i64 3)),(8,.d (.int .i64 j))],scH2 s i⟩)
  (fun j=>j≤3∧∀ m (hm:m < j) (hm3:m < pairT.length),hasPre (s.extract i s.size) pairT[m]=false) (fun j=>3 - j) 0 ⟨by omega,fun m hm=>absurd hm (by omega)⟩
  (ent_ren id ⟨rfl,rfl,rfl,rfl,trivial⟩ ⟨rfl,rfl,trivial⟩ rfl rfl rfl rfl rfl rfl) ?_
 rintro j ⟨h1,h2⟩
 repeat' (first|refine z0 ?_|apply ds_nil|apply dw_seq2|refine z16 ?_|apply thenD_n)
 have hp3:pairT.length=3:=rfl
 refine dw_condP rfl (fun hlt=>?_) (fun hlt=>?_)
 ·repeat' (first|refine z0 ?_|apply ds_nil|apply dw_seq2|refine z16 ?_|apply dw_block|apply dw_skip|apply thenD_n)
  have hj:j < pairT.length:=by omega
  refine ds_callVO id (begins_fn s i hi pairT[j]) rfl rfl rfl rfl rfl rfl ⟨rfl,rfl,trivial⟩ rfl rfl rfl rfl rfl rfl ?_ ?_
  ·rintro k2 r H2 ⟨rfl,rfl,rfl⟩
   exact⟨rfl,rfl⟩
  rintro k2 r H2 ⟨rfl,rfl,rfl⟩
  repeat' (first|apply ds_nil|apply thenD_n)
  refine dw_cond rfl (fun hh=>?_) (fun hh=>?_)
  ·repeat' (first|refine z0 ?_|apply ds_nil|apply dw_seq2|refine z16 ?_|apply dw_ret|apply thenD_n|apply thenD_r|apply inB_r)
   refine⟨.inl rfl,_,rfl,?_⟩
   rw [pairAt_hit _ j hj h2 hh]
   exact⟨rfl,rfl⟩
  ·repeat' (first|refine z0 ?_|apply ds_nil|refine z16 ?_|apply dw_skip|apply thenD_n|apply inB_n)
   refine⟨j + 1,⟨by omega,fun m hm hm3=>?_⟩,ent_ren id ⟨rfl,rfl,rfl,rfl,trivial⟩ ⟨rfl,rfl,trivial⟩ rfl rfl rfl rfl rfl rfl,by omega⟩
   by_cases e:m=j
   ·subst e;exact hh
   ·exact h2 m (by omega) hm3
 ·repeat' (first|refine z0 ?_|apply ds_nil|apply dw_seq2|refine z16 ?_|apply dw_exit|apply dw_ret|apply thenD_n|apply thenD_e|refine z17 ?_|fail)
  refine⟨.inl rfl,_,rfl,?_,rfl⟩
  rw [pairAt_none _ (fun m hm hm3=>h2 m (by omega) hm3)]
  rfl
set_option maxHeartbeats 8000000 in
theorem containsFunc_fn (s:ByteArray) (i:Nat) (hi:i≤s.size) :
  FnS 76 [.d (.slice 1 (pairT.map fun t=>[.str t])),.fn 78 [.loc 1 0]] 2 2 (scH2 s i) (fun _ r H2=>r = .d (.bool (decide (pairAt (s.extract i s.size) ≥ 0)))∧H2=scH2 s i):=by
 refine fn_enter _ Tryz.func76 rfl rfl (by kernel_rfl) ?_
 intro O w0 E0 β0
 repeat' (first|refine z0 ?_|apply ds_nil|apply dw_seq2|refine z16 ?_|apply thenD_n)
 refine ds_callO id (indexFunc_fn s i hi) rfl rfl rfl rfl ⟨rfl,rfl,trivial⟩ rfl rfl rfl rfl rfl rfl ?_ ?_
 ·rintro k2 r H2 ⟨rfl,rfl⟩
  exact⟨rfl,rfl⟩
 rintro k2 r H2 ⟨rfl,rfl⟩
 repeat' (first|refine z0 ?_|apply ds_nil|apply dw_ret|apply thenD_n)
 exact⟨.inl rfl,_,rfl,rfl,rfl⟩
set_option maxHeartbeats 8000000 in
theorem indexByte0_fn (s:ByteArray) (c:UInt8):Fn 103 [.d (.str s),.d (.int .u8 (c.toNat:Int))] (fun r=>r = .d (.int .i64 (firstIdx s ((c.toNat:Int).toNat.toUInt8)))):=by
 refine fnp_enter' _ Tryz.func103 rfl rfl (by kernel_rfl) ?_
 intro O w0 E0 β0
 repeat' (first|refine z0 ?_|apply ds_nil|apply dw_seq2|refine z16 ?_|apply thenD_n)
 refine ds_ev (ev_indexByte Tryz.func113 rfl rfl rfl rfl rfl rfl rfl) rfl rfl ?_
 repeat' (first|refine z0 ?_|apply ds_nil|apply dw_ret|apply thenD_n)
 exact ret_i rfl rfl
set_option maxHeartbeats 8000000 in
theorem indexByte_fn (s:ByteArray) (c:UInt8):Fn 80 [.d (.str s),.d (.int .u8 (c.toNat:Int))] (fun r=>r = .d (.int .i64 (firstIdx s ((c.toNat:Int).toNat.toUInt8)))):=by
 refine fnp_enter' _ Tryz.func80 rfl rfl (by kernel_rfl) ?_
 intro O w0 E0 β0
 repeat' (first|refine z0 ?_|apply ds_nil|apply dw_seq2|refine z16 ?_|apply dw_ret|apply thenD_n|refine z21 ?_ (hc:=by apply indexByte0_fn)|fail)
 exact ret_i rfl rfl
section
variable (s : ByteArray) (i : Nat) (hi : i < s.size)
include hi
theorem drop_cons:s.data.toList.drop i=s[i]::s.data.toList.drop (i + 1):=by
 have hl0:s.data.toList.length=s.size:=by simp
 rw [List.drop_eq_getElem_cons (by omega),byteAt]
theorem takeW_one (p:UInt8→Bool) (h:p s[i]=true):takeW p (s.data.toList.drop i)=1 + takeW p (s.data.toList.drop (i + 1)):=by
 have:=takeW_step p s.data.toList i (by simpa using hi) (by rw [byteAt _ _ hi];exact h)
 omega
theorem tok_letter (h:letterB s[i]=true):tokAt (s.data.toList.drop i)=(if smallB s[i] then 1 else 2,takeW alnumB (s.data.toList.drop i)):=by
 rw [takeW_one s i hi alnumB (by unfold alnumB;rw [h];rfl),drop_cons s i hi,tokAt_cons,if_pos h]
theorem tok_digit (h:letterB s[i]=false) (hd:digitB s[i]=true):tokAt (s.data.toList.drop i)=(3,takeW digitB (s.data.toList.drop i)):=by
 rw [takeW_one s i hi digitB hd,drop_cons s i hi,tokAt_cons,if_neg (by rw [h];exact Bool.false_ne_true),if_pos hd]
theorem tok_sign (h:letterB s[i]=false) (hd:digitB s[i]=false):tokAt (s.data.toList.drop i)=if pairB (s[i]::s.data.toList.drop (i + 1)) then (4,2) else if signs.contains s[i] then (4,1) else (0,0):=by
 rw [drop_cons s i hi,tokAt_cons,if_neg (by rw [h];exact Bool.false_ne_true),if_neg (by rw [hd];exact Bool.false_ne_true)]
omit hi in
theorem ext_ext (k:Nat) (h:i + k≤s.size):(s.extract i s.size).extract 0 k=s.extract i (i + k):=by
 rw [ByteArray.extract_extract]
 congr 1
 omega
theorem pair_at:decide (pairAt (s.extract i s.size) ≥ 0)=pairB (s[i]::s.data.toList.drop (i + 1)):=by
 have hsz:(s.extract i s.size).size=s.size - i:=by rw [ByteArray.size_extract];omega
 by_cases h2:i + 1 < s.size
 ·rw [pair_ext s i h2]
  have hp:∀ t:ByteArray,t.size=2→hasPre (s.extract i s.size) t=decide (s.extract i (i + 2)=t):=by
   intro t ht
   unfold hasPre
   rw [ht,hsz,ext_ext s i 2 (by omega),decide_eq_true (by omega),Bool.true_and]
  unfold pairAt
  rw [hp _ rfl,hp _ rfl,hp _ rfl]
  by_cases a:s.extract i (i + 2)=⟨#[58,45]⟩
  ·simp [a]
  ·by_cases b:s.extract i (i + 2)=⟨#[60,61]⟩
   ·simp [b]
   ·by_cases c:s.extract i (i + 2)=⟨#[33,61]⟩
    ·simp [c]
    ·simp [a,b,c]
 ·have hp:∀ t:ByteArray,t.size=2→hasPre (s.extract i s.size) t=false:=by
   intro t ht
   unfold hasPre
   rw [ht,hsz,decide_eq_false (by omega),Bool.false_and]
  have hl:s.data.toList.drop (i + 1)=[]:=List.drop_eq_nil_of_le (by simp;omega)
  unfold pairAt
  rw [hp _ rfl,hp _ rfl,hp _ rfl,hl]
  simp [pairB]
theorem pair_room (h:pairAt (s.extract i s.size) ≥ 0):i + 2≤s.size:=by
 have hq:=pair_at s i hi
 rw [decide_eq_true h] at hq
 rcases Nat.lt_or_ge (i + 1) s.size with h2|h2
 ·omega
 ·have hl:s.data.toList.drop (i + 1)=[]:=List.drop_eq_nil_of_le (by simp;omega)
  rw [hl] at hq
  simp [pairB] at hq
end
theorem idx_signs (c:UInt8):decide ((0:Int)≤firstIdx ⟨#[40,41,44,46,60,61,43,45,42]⟩ c)=signs.contains c:=by
 have key:∀ n:Fin 256,decide ((0:Int)≤firstIdx ⟨#[40,41,44,46,60,61,43,45,42]⟩ (UInt8.ofNat n.1))=signs.contains (UInt8.ofNat n.1):=by decide +kernel
 have:=key ⟨c.toNat,c.toNat_lt⟩
 simpa using this
theorem signs_low (c:UInt8) (h:signs.contains c=true):(c.toNat:Int) < 128:=by
 have key:∀ n:Fin 256,signs.contains (UInt8.ofNat n.1)=true→(n.1:Int) < 128:=by decide +kernel
 exact key ⟨c.toNat,c.toNat_lt⟩ (by simpa using h)
theorem use1 {A C G:Prop} (c:A→C) (a:A) (k:C→G):G:=k (c a)
theorem use2 {A B C G:Prop} (c:A→B→C) (a:A) (b:B) (k:C→G):G:=k (c a b)
theorem use3 {A B E C G:Prop} (c:A→B→E→C) (a:A) (b:B) (e:E) (k:C→G):G:=k (c a b e)
theorem errL (kd:Int) (n:Nat) (c:UInt8) (h:kd=1∨kd=2):tokErr kd n c=if 12 < n then 2 else 0:=by
 unfold tokErr
 rcases h with rfl|rfl <;> simp
theorem errD (n:Nat) (c:UInt8):tokErr 3 n c=if 7 < n then 2 else if 1 < n∧(c.toNat:Int)=48 then 1 else 0:=by
 rw [tokErr_int]
 simp only [if_false,true_and,Int.reduceEq,or_self,false_and,false_or]
 by_cases h1:7 < n
 ·rw [if_pos h1,if_pos (by omega)]
 ·rw [if_neg h1,if_neg (by omega)]
  by_cases h2:1 < n∧(c.toNat:Int)=48
  ·rw [if_pos h2,if_pos (by omega)]
  ·rw [if_neg h2,if_neg (by omega)]
theorem errP (n:Nat) (c:UInt8):tokErr 4 n c=0:=by
 unfold tokErr
 simp
theorem small_great {c:UInt8} (h:smallB c=true):greatB c=false:=by
 unfold smallB at h
 unfold greatB
 simp at h ⊢
 omega
def tokenR (s:ByteArray) (i:Nat) (hi:i < s.size) (r:SV) (H2:Hp):Prop :=
 ∃ (kd e:Int) (tx:ByteArray) (j:Nat),r = .tup [.agg [.d (.int .i64 kd),.d (.int .i64 i),.d (.str tx)],.d (.int .i64 e)]∧H2=scH s j∧e=tokErr (tokAt (s.data.toList.drop i)).1 (tokAt (s.data.toList.drop i)).2 s[i] ∧
  (e=0→kd=(tokAt (s.data.toList.drop i)).1∧tx=s.extract i (i + (tokAt (s.data.toList.drop i)).2)∧j=i + (tokAt (s.data.toList.drop i)).2)
set_option maxHeartbeats 8000000 in
theorem token_fn (s:ByteArray) (i:Nat) (hi:i < s.size) (hs:s.size≤5000) :
  FnS 45 [.loc 0 0] 1 1 (scH s i) (fun _ r H2=>tokenR s i hi r H2):=by
 refine fn_enterF _ Tryz.func45 rfl rfl (by kernel_rfl) ?_
 intro O w0 E0 β0
 repeat' (first|refine z0 ?_|apply ds_nil|apply dw_seq2|refine z16 ?_|apply thenD_n|refine z1 ?_|refine z3 ?_|fail)
 (refine ds_callF id (sign_fn s i) rfl rfl rfl rfl ⟨rfl,trivial⟩ rfl rfl rfl rfl rfl rfl ?_ ?_)
 ·rintro k2 r H2 ⟨rfl,rfl,rfl⟩
  exact⟨rfl,rfl⟩
 rintro k2 r H2 ⟨rfl,rfl,rfl⟩
 rw [dif_pos hi]
 change DS _ _ _ _ _ _ _ _
 have hl0:s.data.toList.length=s.size:=by simp
 have hla:=takeW_le alnumB (s.data.toList.drop i)
 have hld:=takeW_le digitB (s.data.toList.drop i)
 rw [List.length_drop,hl0] at hla hld
 have hea:(s.extract i (i + takeW alnumB (s.data.toList.drop i))).size=takeW alnumB (s.data.toList.drop i):=by rw [ByteArray.size_extract];omega
 have hed:(s.extract i (i + takeW digitB (s.data.toList.drop i))).size=takeW digitB (s.data.toList.drop i):=by rw [ByteArray.size_extract];omega
 have cS:smallB s[i]=true→(tokAt (s.data.toList.drop i)).1=1∧(tokAt (s.data.toList.drop i)).2=takeW alnumB (s.data.toList.drop i):=by
  intro h
  rw [tok_letter s i hi (by unfold letterB;simp [h]),if_pos h]
  exact⟨rfl,rfl⟩
 have cG:smallB s[i]=false→greatB s[i]=true→(tokAt (s.data.toList.drop i)).1=2∧(tokAt (s.data.toList.drop i)).2=takeW alnumB (s.data.toList.drop i):=by
  intro h h2
  rw [tok_letter s i hi (by unfold letterB;simp [h2]),if_neg (by rw [h];exact Bool.false_ne_true)]
  exact⟨rfl,rfl⟩
 have cD:smallB s[i]=false→greatB s[i]=false→digitB s[i]=true→(tokAt (s.data.toList.drop i)).1=3∧(tokAt (s.data.toList.drop i)).2=takeW digitB (s.data.toList.drop i):=by
  intro h h2 h3
  rw [tok_digit s i hi (by unfold letterB;simp [h,h2]) h3]
  exact⟨rfl,rfl⟩
 have cN:smallB s[i]=false→greatB s[i]=false→digitB s[i]=false→tokAt (s.data.toList.drop i)=if pairAt (s.extract i s.size) ≥ 0 then (4,2) else if signs.contains s[i] then (4,1) else (0,0):=by
  intro h h2 h3
  rw [tok_sign s i hi (by unfold letterB;simp [h,h2]) h3,← pair_at s i hi]
  by_cases hp:pairAt (s.extract i s.size) ≥ 0
  ·rw [if_pos hp,if_pos (by simpa using hp)]
  ·rw [if_neg hp,if_neg (by simpa using hp)]
 have cX:smallB s[i]=true→greatB s[i]=true→False:=fun h h2=>by rw [small_great h] at h2;cases h2
 have cY:greatB s[i]=true→greatB s[i]=false→False:=fun h h2=>by rw [h] at h2;cases h2
 have hroom:=pair_room s i hi
 clear hl0
 repeat' (first|refine z0 ?_|refine z12 ?_|apply ds_nil|apply dw_seq2|refine z16 ?_|apply dw_block|apply dw_skip|refine z18 ?_|apply thenD_n|refine z21 ?_ (hc:=by apply small_fn)|refine z21 ?_ (hc:=by apply great_fn)|refine z21 ?_ (hc:=by apply digit_fn)|refine z3 ?_|(apply dw_cond;exact rfl;all_goals intro hg)|((fail_if_success (apply ds_known;exact rfl));apply ds_guardB;exact rfl;exact rfl;exact rfl;all_goals intro hg))
 all_goals first
  | ((refine ds_callF id (run_fn s i (by omega) hs _ alnumB alnum_fn) rfl rfl rfl rfl ⟨rfl,trivial⟩ rfl rfl rfl rfl rfl rfl ?_ ?_)
     ·rintro k2 r H2 ⟨rfl,rfl,rfl⟩
      exact⟨rfl,rfl⟩
     rintro k2 r H2 ⟨rfl,rfl,rfl⟩
     change DS _ _ _ _ _ _ _ _)
  | ((refine ds_callF id (run_fn s i (by omega) hs _ digitB digit_fn) rfl rfl rfl rfl ⟨rfl,trivial⟩ rfl rfl rfl rfl rfl rfl ?_ ?_)
     ·rintro k2 r H2 ⟨rfl,rfl,rfl⟩
      exact⟨rfl,rfl⟩
     rintro k2 r H2 ⟨rfl,rfl,rfl⟩
     change DS _ _ _ _ _ _ _ _)
  | skip
 repeat' (first|refine z0 ?_|refine z12 ?_|apply ds_nil|apply dw_seq2|refine z16 ?_|apply dw_skip|apply dw_ret|refine z19 ?_|apply thenD_n|apply thenD_r|apply inB_n|apply inB_r|refine z21 ?_ (hc:=by apply pairs_fn)|refine z3 ?_|(refine z23 ?_ ?_ <;> intro hg)|((fail_if_success (apply ds_known;exact rfl));apply ds_guardP;exact rfl;exact rfl;exact rfl;all_goals intro hg))
 all_goals first
  | (refine use2 cX ?_ ?_ False.elim;assumption;assumption)
  | (refine use2 cY ?_ ?_ False.elim;assumption;assumption)
  | (refine use1 cS ?_ ?_;assumption;rintro⟨t1,t2⟩
     refine⟨.inl rfl,_,rfl,1,scH s _,⟨rfl,trivial⟩,rfl,rfl,rfl,rfl,_,_,_,_,rfl,rfl,?_,?_⟩
     ·rw [t1,t2,errL _ _ _ (.inl rfl)]
      first|rw [if_pos (by omega)]|rw [if_neg (by omega)]
     ·intro he
      first|exact absurd he (by decide)|(rw [t1,t2];exact⟨rfl,rfl,rfl⟩))
  | (refine use2 cG ?_ ?_ ?_;assumption;assumption;rintro⟨t1,t2⟩
     refine⟨.inl rfl,_,rfl,1,scH s _,⟨rfl,trivial⟩,rfl,rfl,rfl,rfl,_,_,_,_,rfl,rfl,?_,?_⟩
     ·rw [t1,t2,errL _ _ _ (.inr rfl)]
      first|rw [if_pos (by omega)]|rw [if_neg (by omega)]
     ·intro he
      first|exact absurd he (by decide)|(rw [t1,t2];exact⟨rfl,rfl,rfl⟩))
  | (refine use3 cD ?_ ?_ ?_ ?_;assumption;assumption;assumption;rintro⟨t1,t2⟩
     refine⟨.inl rfl,_,rfl,1,scH s _,⟨rfl,trivial⟩,rfl,rfl,rfl,rfl,_,_,_,_,rfl,rfl,?_,?_⟩
     ·rw [t1,t2,errD]
      first|rw [if_pos (by omega)]|rw [if_neg (by omega),if_pos (by omega)]|rw [if_neg (by omega),if_neg (by omega)]
     ·intro he
      first|exact absurd he (by decide)|(rw [t1,t2];exact⟨rfl,rfl,rfl⟩))
  | skip
 have hT:=cN ‹_› ‹_› ‹_›
 (refine ds_callF id (containsFunc_fn s i (by omega)) rfl rfl rfl rfl ⟨rfl,rfl,trivial⟩ rfl rfl rfl rfl rfl rfl ?_ ?_)
 ·rintro k2 r H2 ⟨rfl,rfl⟩
  exact⟨rfl,rfl⟩
 rintro k2 r H2 ⟨rfl,rfl⟩
 change DS _ _ _ _ _ _ _ _
 repeat' (first|refine z0 ?_|apply ds_nil|apply thenD_n)
 refine dw_condP rfl (fun hp=>?_) (fun hp=>?_)
 ·have hr:=hroom hp
  rw [if_pos hp] at hT
  repeat' (first|refine z0 ?_|apply ds_nil|refine z5 ?_|refine z6 ?_|refine z10 ?_|apply dw_seq2|refine z16 ?_|refine z20 ?_|apply dw_ret|apply thenD_n|apply inB_n|refine z3 ?_|fail)
  refine⟨.inl rfl,_,rfl,1,scH s _,⟨rfl,trivial⟩,rfl,rfl,rfl,rfl,_,_,_,_,rfl,rfl,?_,?_⟩
  ·rw [hT,errP]
  ·intro he
   rw [hT]
   exact⟨rfl,rfl,rfl⟩
 ·rw [if_neg hp] at hT
  repeat' (first|refine z0 ?_|apply ds_nil|apply dw_seq2|refine z16 ?_|apply thenD_n|refine z21 ?_ (hc:=by apply indexByte_fn)|fail)
  have hidx:=idx_signs s[i]
  have hu:((s[i].toNat:Int).toNat.toUInt8)=s[i]:=by simp
  refine dw_condP rfl (fun hq=>?_) (fun hq=>?_)
  ·rw [hu] at hq
   rw [decide_eq_true (by exact hq)] at hidx
   have hlow:=signs_low s[i] hidx.symm
   have hlow0:(0:Int)≤(s[i].toNat:Int):=by omega
   rw [if_pos hidx.symm] at hT
   have hone:(⟨#[s[i]]⟩:ByteArray)=s.extract i (i + 1):=by
    apply ByteArray.ext
    simp only [ByteArray.data_extract]
    apply Array.toList_inj.1
    rw [Array.toList_extract,List.extract_eq_take_drop,show i + 1 - i=1 by omega,drop_cons s i hi]
    rfl
   repeat' (first|refine z0 ?_|apply ds_nil|apply dw_seq2|refine z16 ?_|apply dw_ret|apply thenD_n|apply inB_n|refine z3 ?_|fail)
   refine⟨.inl rfl,_,rfl,1,scH s _,⟨rfl,trivial⟩,rfl,rfl,rfl,rfl,_,_,_,_,rfl,rfl,?_,?_⟩
   ·rw [hT,errP]
   ·intro he
    rw [hT]
    exact⟨rfl,hone,rfl⟩
  ·rw [hu] at hq
   rw [decide_eq_false (by exact hq)] at hidx
   rw [if_neg (by rw [← hidx];exact Bool.false_ne_true)] at hT
   repeat' (first|refine z0 ?_|apply ds_nil|apply dw_seq2|refine z16 ?_|apply dw_ret|apply thenD_n|apply thenD_r|apply inB_r|refine z3 ?_|fail)
   refine⟨.inl rfl,_,rfl,1,scH s _,⟨rfl,trivial⟩,rfl,rfl,rfl,rfl,_,_,_,_,rfl,rfl,?_,?_⟩
   ·rw [hT]
    unfold tokErr
    simp
   ·intro he
    exact absurd he (by decide)
def scanInv (s:ByteArray) (x:List Tok × Nat):Prop :=
 x.2≤s.size∧x.1.length≤x.2∧scanAt s false 0=(scanAt s false x.2).map (x.1++·) ∧
 ∀ h:x.2 < s.size,¬ (s[x.2].toNat:Int)=37∧¬ (s[x.2].toNat:Int)=32∧¬ (s[x.2].toNat:Int)=9∧¬ (s[x.2].toNat:Int)=10
set_option maxHeartbeats 8000000 in
theorem scan_fn (s:ByteArray):Fn 18 [.d (.str s)] (fun r=>r=encScan (scanS s)):=by
 refine fnp_enter' _ Tryz.func18 rfl rfl (by kernel_rfl) ?_
 intro O w0 E0 β0
 repeat' (first|refine z0 ?_|apply ds_nil|apply dw_seq2|refine z16 ?_|apply thenD_n)
 refine dw_condP rfl (fun hbig=>?_) (fun hbig=>?_)
 ·repeat' (first|refine z0 ?_|apply ds_nil|apply dw_seq2|refine z16 ?_|apply thenD_n)
  refine dw_nild 2 3 rfl ?_
  repeat' (first|apply dw_ret|apply thenD_r)
  exact ret_3 rfl (by rw [scanS_big s (by omega)];exact⟨rfl,rfl,rfl⟩)
 ·repeat' (first|refine z0 ?_|apply ds_nil|apply dw_seq2|refine z16 ?_|apply dw_skip|apply thenD_n|refine z1 ?_|fail)
  (refine ds_callF id (skip_fn s 0 (by omega) (by omega)) rfl rfl rfl rfl ⟨rfl,trivial⟩ rfl rfl rfl rfl rfl rfl ?_ ?_)
  ·rintro k2 r H2 ⟨rfl,rfl,j,_,_,_,_,rfl⟩
   exact⟨rfl,rfl⟩
  rintro k2 r H2 ⟨rfl,rfl,j0,g1,g2,g3,g4,rfl⟩
  change DS _ _ _ _ _ _ _ _
  repeat' (first|apply ds_nil|apply dw_block|apply thenD_n)
  refine dw_nilrow (t:=6) 43 3 rfl ?_
  refine ds_loop (ι:=List Tok × Nat) (fun x=>⟨2,[(0,.d (.str s)),(5,.loc 0 0),(6,.row 1)],[(0,.blk 87 [.d (.str s),.d (.int .i64 x.2)]),(1,.row 43 3 (x.1.map encTok))]⟩)
   (scanInv s) (fun x=>s.size - x.2) ([],j0) ⟨g2,Nat.zero_le _,by rw [g3];cases scanAt s false j0 <;> rfl,g4⟩
   (ent_ren id ⟨rfl,rfl,rfl,trivial⟩ ⟨rfl,rfl,trivial⟩ rfl rfl rfl rfl rfl rfl) ?_
  rintro⟨toks,i⟩ ⟨h1,h2,h3,h4⟩
  dsimp only at h1 h2 h3 h4 ⊢
  repeat' (first|refine z0 ?_|apply ds_nil|apply dw_seq2|refine z16 ?_|apply thenD_n)
  refine dw_condP rfl (fun hlt=>?_) (fun hlt=>?_)
  ·have hlt':i < s.size:=by omega
   have h4':=h4 hlt'
   repeat' (first|refine z0 ?_|apply dw_seq2|refine z16 ?_|apply dw_block|apply dw_skip|apply thenD_n)
   (refine ds_callF id (token_fn s i hlt' (by omega)) rfl rfl rfl rfl ⟨rfl,trivial⟩ rfl rfl rfl rfl rfl rfl ?_ ?_)
   ·rintro k2 r H2 ⟨kd,e,tx,j,rfl,rfl,_,_⟩
    exact⟨rfl,rfl⟩
   rintro k2 r H2 ⟨kd,e,tx,j,rfl,rfl,he,hz⟩
   change DS _ _ _ _ _ _ _ _
   have hS:=tok_step s false i hlt' rfl h4'.1 h4'.2.1 h4'.2.2.1 h4'.2.2.2 _ rfl
   have hle:=tokAt_le (s.data.toList.drop i)
   have hpo:=tokAt_pos (s.data.toList.drop i)
   rw [List.length_drop,show s.data.toList.length=s.size by simp] at hle
   generalize tokAt (s.data.toList.drop i)=q at hS hle hpo he hz
   obtain⟨kind,n⟩:=q
   dsimp only at hS hle hpo he hz
   rw [hS] at h3
   repeat' (first|refine z0 ?_|apply ds_nil|apply dw_seq2|refine z16 ?_|apply thenD_n|refine z1 ?_|refine z3 ?_|fail)
   refine dw_condP rfl (fun hne=>?_) (fun hne=>?_)
   ·repeat' (first|refine z5 ?_|refine z10 ?_|apply dw_seq2|refine z20 ?_|apply thenD_n)
    refine dw_nild 2 3 rfl ?_
    repeat' (first|apply dw_ret|apply thenD_r|apply inB_r)
    refine ret_3 rfl ?_
    have:=scanS_err s (by omega) i e (by rw [h3,if_neg (by rw [← he];exact hne),← he];rfl)
    rw [this]
    exact⟨rfl,rfl,rfl⟩
   ·have he0:e=0:=Decidable.not_not.1 hne
    obtain⟨z1,z2,z3⟩:=hz he0
    rw [if_pos (by rw [← he];exact he0)] at h3
    have hn1:=hpo (by intro hk;rw [hk] at he;unfold tokErr at he;simp at he;omega)
    subst z1;subst z2;subst z3
    repeat' (first|refine z0 ?_|apply ds_nil|refine z16 ?_|apply dw_skip|apply thenD_n|apply inB_n|refine z4 ?_|refine z2 ?_|fail)
    (refine ds_callF id (skip_fn s (i + n) (by omega) (by omega)) rfl rfl rfl rfl ⟨rfl,trivial⟩ rfl rfl rfl rfl rfl rfl ?_ ?_)
    ·rintro k2 r H2 ⟨rfl,rfl,j,_,_,_,_,rfl⟩
     exact⟨rfl,rfl⟩
    rintro k2 r H2 ⟨rfl,rfl,j,q1,q2,q3,q4,rfl⟩
    change DS _ _ _ _ _ _ _ _
    repeat' (first|apply ds_nil|apply thenD_n)
    refine⟨(toks++[⟨kd,i,s.extract i (i + n)⟩],j),⟨?_,?_,?_,q4⟩,?_,?_⟩
    ·exact q2
    ·show (toks++[_]).length≤j
     rw [List.length_append]
     show _ + 1≤_
     omega
    ·show scanAt s false 0=_
     rw [h3,map_map,q3]
     simp only [List.append_assoc,List.singleton_append]
    ·dsimp only
     rw [List.map_append]
     exact ent_ren (fun i=>match i with|0=>0|_=>3) ⟨rfl,rfl,rfl,trivial⟩ ⟨rfl,rfl,trivial⟩ rfl rfl rfl rfl rfl rfl
    ·show s.size - j < s.size - i;omega
  ·repeat' (first|refine z0 ?_|apply ds_nil|apply dw_seq2|refine z16 ?_|apply dw_exit|apply thenD_n|apply thenD_e|refine z17 ?_|fail)
   refine dw_seal 2 rfl rfl ?_
   repeat' (apply dw_ret)
   refine ret_3 rfl ?_
   rw [scanS_ok s (by omega) toks (by rw [h3,scanAt_end s false i (by omega)];exact congrArg Except.ok (List.append_nil _))]
   exact⟨rfl,rfl,rfl⟩
def oneS (kind:Int) (s:ByteArray):Bool:=match scanS s with
 | ([t],_,e)=>decide (e=0) && (decide (t.kind=kind) && decide (t.text=s))
 | _=>false
set_option maxHeartbeats 8000000 in
theorem one_fn (kind:Int) (s:ByteArray):Fn 46 [.d (.int .i64 kind),.d (.str s)] (fun r=>r = .d (.bool (oneS kind s))):=by
 refine fnp_enter' _ Tryz.func46 rfl rfl (by kernel_rfl) ?_
 intro O w0 E0 β0
 have hsc:=scan_fn s
 unfold oneS
 generalize scanS s=q at hsc ⊢
 obtain⟨l,p,e⟩:=q
 unfold encScan encToks at hsc
 dsimp only at hsc
 rcases l with _|⟨t,_|⟨t',l⟩⟩
 ·repeat' (first|refine z0 ?_|refine z12 ?_|apply ds_nil|apply dw_seq2|refine z16 ?_|apply dw_ret|apply thenD_n|refine z21 ?_ (hc:=by apply hsc)|((fail_if_success (apply ds_known;exact rfl));apply ds_guardP;exact rfl;exact rfl;exact rfl;all_goals intro hg))
  all_goals exact ret_b rfl (by simp)
 ·repeat' (first|refine z0 ?_|refine z12 ?_|apply ds_nil|apply dw_seq2|refine z16 ?_|apply dw_ret|apply thenD_n|refine z21 ?_ (hc:=by apply hsc)|((fail_if_success (apply ds_known;exact rfl));apply ds_guardP;exact rfl;exact rfl;exact rfl;all_goals intro hg))
  all_goals exact ret_b rfl (by simp_all)
 ·repeat' (first|refine z0 ?_|refine z12 ?_|apply ds_nil|apply dw_seq2|refine z16 ?_|apply dw_ret|apply thenD_n|refine z21 ?_ (hc:=by apply hsc)|((fail_if_success (apply ds_known;exact rfl));apply ds_guardP;exact rfl;exact rfl;exact rfl;all_goals intro hg))
  all_goals first
   | exact ret_b rfl (by simp_all)
   | (rename_i h;exfalso;revert h;simp;done)
   | (exfalso;simp at *;done)
   | (exfalso;simp at *;omega)
end Go.Proofs.YtapciiffpnociabGreatDoor
namespace Go.Proofs
open Go.Shelf Go.RowKit
def Tryz.lays156_ren:Go.Shelf.Ren:=⟨fun|156=>47|165=>81|166=>21|169=>25|240=>50|241=>104|276=>85|277=>114|n=>n,fun|31=>70|9=>9|3=>3|4=>4|0=>0|20=>20|72=>56|76=>61|70=>53|37=>54|75=>60|127=>96|164=>117|5=>5|80=>66|n=>n,fun|n=>n⟩
theorem Tryz.lays156:Go.Proofs.Lays.n156 Tryz.prog Tryz.lays156_ren:={
 mixed:=by kernel_rfl
 f156:=Tryz.func47.trans (congrArg some (by kernel_rfl))
 f165:=Tryz.func81.trans (congrArg some (by kernel_rfl))
 f166:=Tryz.func21.trans (congrArg some (by kernel_rfl))
 f169:=Tryz.func25.trans (congrArg some (by kernel_rfl))
 f240:=Tryz.func50.trans (congrArg some (by kernel_rfl))
 f241:=Tryz.func104.trans (congrArg some (by kernel_rfl))
 f276:=Tryz.func85.trans (congrArg some (by kernel_rfl))
 f277:=Tryz.func114.trans (congrArg some (by kernel_rfl))
 t0:=Tryz.underlying0
 a0:=Tryz.isAgg0
 z0:=Tryz.sizeOf0
 v0:=Tryz.zeroValue0
 t3:=Tryz.underlying3
 a3:=Tryz.isAgg3
 z3:=Tryz.sizeOf3
 v3:=Tryz.zeroValue3
 t4:=Tryz.underlying4
 a4:=Tryz.isAgg4
 z4:=Tryz.sizeOf4
 v4:=Tryz.zeroValue4
 t9:=Tryz.underlying9
 a9:=Tryz.isAgg9
 z9:=Tryz.sizeOf9
 v9:=Tryz.zeroValue9
 t20:=Tryz.underlying20
 a20:=Tryz.isAgg20
 z20:=Tryz.sizeOf20
 v20:=Tryz.zeroValue20
 t31:=Tryz.underlying70
 a31:=Tryz.isAgg70
 z31:=Tryz.sizeOf70
 v31:=Tryz.zeroValue70
 t37:=Tryz.underlying54
 a37:=Tryz.isAgg54
 z37:=Tryz.sizeOf54
 v37:=Tryz.zeroValue54
 t70:=Tryz.underlying53
 a70:=Tryz.isAgg53
 z70:=Tryz.sizeOf53
 v70:=Tryz.zeroValue53
 t72:=Tryz.underlying56
 a72:=Tryz.isAgg56
 z72:=Tryz.sizeOf56
 v72:=Tryz.zeroValue56
 t75:=Tryz.underlying60
 a75:=Tryz.isAgg60
 z75:=Tryz.sizeOf60
 v75:=Tryz.zeroValue60
 t76:=Tryz.underlying61
 a76:=Tryz.isAgg61
 z76:=Tryz.sizeOf61
 v76:=Tryz.zeroValue61
 t127:=Tryz.underlying96
 a127:=Tryz.isAgg96
 z127:=Tryz.sizeOf96
 v127:=Tryz.zeroValue96
 t164:=Tryz.underlying117
 a164:=Tryz.isAgg117
 z164:=Tryz.sizeOf117
 v164:=Tryz.zeroValue117 }
theorem Tryz.Builder_Extra_156:Builder.Extra Tryz.prog Tryz.lays156_ren:={
 sizeBuilder:=by kernel_rfl
 liesBuilder:=by kernel_rfl
 t5:=Tryz.underlying5
 a5:=Tryz.isAgg5
 z5:=Tryz.sizeOf5
 v5:=Tryz.zeroValue5
 infoByte:=by kernel_rfl
 cellsByte:=by kernel_rfl
 sizeByte:=by kernel_rfl
 neB5:=by decide }
theorem Tryz.strings_Join_none (a:Option Addr) (c:Nat) (sep:ByteArray) (w:World) :
  Calls Tryz.prog 47 #[.slice a 0 c,.string sep] w fun e w'=>e = .returned (.string ⟨#[]⟩)∧w' = w:=Any.strings_Join_none Tryz.lays156 Tryz.Builder_Extra_156 a c sep w
theorem Tryz.strings_Join (bk o c:Nat) (xs:List ByteArray) (sep:ByteArray) (w:World) (hcells:∀ (j:Nat) x,xs[j]? = some x→w.cell? ⟨bk,o + j,none⟩=some (.string x)) (hbk:bk < w.heap.size) (hN:xs.length≤140737488355328) (hcap:xs.length≤c) (hlen:(Lib.join (xs.map (·.data.toList)) sep.data.toList).length≤140737488355328) :
  Calls Tryz.prog 47 #[.slice (some ⟨bk,o,none⟩) xs.length c,.string sep] w fun e w'=>e = .returned (.string ⟨(Lib.join (xs.map (·.data.toList)) sep.data.toList).toArray⟩)∧Below w.heap.size w w':=Any.strings_Join Tryz.lays156 Tryz.Builder_Extra_156 bk o c xs sep w hcells hbk hN hcap hlen
end Go.Proofs
namespace Go.Proofs.YtapciiffpnociabGreatDoor
open Go Go.RowKit
theorem fnp_of_calls {P:Program} {τ:List (Nat × TI)} {τok:TabOk P τ} {f:FuncId} {args:List SV} {R:SV→Prop} (hcall:callable P f=true)
  (h:∀ (X:Nat→Prop) (e:Env) (w:World) (vs:List Value),RelL X e w args vs→Calls P f vs.toArray w fun en w'=>∃ v r,en = .returned v∧R r∧r.low 0=true∧(∀ Y,Rel Y e w' r v)∧Below w.heap.size w w') :
  FnP false P τ τok f args R:=by
 refine⟨hcall,fun O e w vs hH hr=>(h _ e w vs hr).mono ?_⟩
 rintro en w' ⟨v,r,h1,h2,h3,h4,h5⟩
 refine⟨0,r,[],e,v,⟨rfl,h3,h2⟩,h1,?_,h4 _⟩
 exact { top:=hH.top,heap:=(fun p hp=>nomatch hp),ids:=.nil,nodup:=.nil,mine:=(fun b hb=>nomatch hb),os:=h5.os,tape:=h5.tape,output:=h5.output,drawn:=(fun h=>nomatch h),size:=h5.size,block:=(fun b hb _=>h5.block b hb),obound:=hH.obound,tabs:=hH.tabs,jle:=hH.jle,anchor:=hH.anchor }
def joinB (xs:List ByteArray) (sep:ByteArray):ByteArray:=⟨(Lib.join (xs.map (·.data.toList)) sep.data.toList).toArray⟩
def encStrs (xs:List ByteArray):List (List D):=xs.map fun t=>[D.str t]
theorem join_fn (xs:List ByteArray) (sep:ByteArray) (hN:xs.length≤140737488355328) (hlen:(joinB xs sep).size≤140737488355328) :
  Fn 47 [.d (.slice 1 (encStrs xs)),.d (.str sep)] (fun r=>r = .d (.str (joinB xs sep))):=by
 have hlen':(Lib.join (xs.map (·.data.toList)) sep.data.toList).length≤140737488355328:=by simpa [joinB,ByteArray.size] using hlen
 have hmax:(joinB xs sep).size≤maxLen:=Nat.le_trans hlen (by decide)
 refine fnp_of_calls (by kernel_rfl) fun X e w vs hr=>?_
 obtain⟨v1,v2,rfl,h1,h2⟩:∃ v1 v2,vs=[v1,v2]∧Rel X e w (.d (.slice 1 (encStrs xs))) v1∧Rel X e w (.d (.str sep)) v2:=by
  match vs,hr with
  | [v1,v2],⟨h1,h2,_⟩=>exact⟨v1,v2,rfl,h1,h2⟩
 cases h2
 change RepC X w v1 (.slice 1 (encStrs xs)) at h1
 generalize hq:encStrs xs=ys at h1
 cases h1 with
 | nil =>
  have hx:xs=[]:=by simpa [encStrs] using hq
  subst hx
  exact (Tryz.strings_Join_none none 0 sep w).mono fun en w' ⟨h3,h4⟩=>⟨_,_,h3,rfl,rfl,fun _=>.str hmax,h4▸Below.refl _ _⟩
 | zero =>
  have hx:xs=[]:=by simpa [encStrs] using hq
  subst hx
  exact (Tryz.strings_Join_none _ 0 sep w).mono fun en w' ⟨h3,h4⟩=>⟨_,_,h3,rfl,rfl,fun _=>.str hmax,h4▸Below.refl _ _⟩
 | slice c hn hc hm hX hb he hcell hrep hz =>
  rename_i b off n cap
  subst hq
  have hl:(encStrs xs).length=xs.length:=by simp [encStrs]
  rw [hl] at hn
  subst hn
  refine (Tryz.strings_Join b off cap xs sep w ?_ hb hN hc hlen').mono fun en w' ⟨h3,h4⟩=>⟨_,_,h3,rfl,rfl,fun _=>.str hmax,h4⟩
  intro j x hx
  obtain⟨hj,hx⟩:=List.getElem?_eq_some_iff.1 hx
  have hj':j < (encStrs xs).length:=by rw [hl];exact hj
  have hel:(encStrs xs)[j]=[D.str x]:=by simp [encStrs,hx]
  have g1:=hcell j hj' 0 (by rw [hel];exact Nat.one_pos)
  have g2:=hrep j hj' 0 (by rw [hel];exact Nat.one_pos)
  simp only [hel] at g2
  rw [show off + j=off + j * 1 + 0 by omega,g1]
  change RepC X w (c j 0) (.str x) at g2
  generalize c j 0=u at g2
  cases g2
  rfl
end Go.Proofs.YtapciiffpnociabGreatDoor
namespace Go.Proofs.YtapciiffpnociabGreatDoor
open Go Go.RowKit
def KeptR (J:Nat) (R:Nat→SV→Hp→Prop) (_:Nat) (r:SV) (H:Hp):Prop :=
 ∃ (ρ:Nat→Nat) (k2:Nat) (r2:SV) (H2:Hp),r=r2.ren ρ∧KnowsH ρ H H2∧Hp.low k2 H2=true∧distinct (H2.map fun p=>ρ p.1)=true∧distinct (H2.map (·.1))=true∧Nat.ble J k2=true∧anchorOk ρ J=true∧r2.low k2=true∧R k2 r2 H2
theorem fn_enterR {dr:Bool} {P:Program} {τ:List (Nat × TI)} {τok:TabOk P τ} {f:FuncId} {fn:Func} {c:Code} {args:List SV} {J k:Nat} {H:Hp} {R:Nat→SV→Hp→Prop} (N:Nat) (hf:P.funcs[f]? = some fn) (hb:fn.body=some c)
  (hN:args.length + (fn.ntmps - args.length)=N) (hcall:callable P f=true)
  (h:∀ (O:Nat→Prop) (w0:World) (E0:Nat→Prop) (β0:Nat→Nat × Value),DW ⟨P,τ,τok,O,w0,E0,N,J,β0,none,noPan,true,dr⟩ c (RetQ τ fn.results.toList (KeptR J R)) k (enumSl 0 args) H):FnOk dr P τ τok f args J k H R:=by
 have h2:=fn_enter (J:=J) (k:=k) (H:=H) N hf hb hN hcall (R:=KeptR J R) h
 refine⟨h2.1,fun O e w vs hH hr=>(h2.2 O e w vs hH hr).mono ?_⟩
 rintro en w' ⟨k',r,H',e',v,⟨ρ,k2,r2,H2,rfl,hK,hl,hd,hd',hj,ha,hrl,hR⟩,rfl,hH',hrel⟩
 obtain⟨g1,g2⟩:=hH'.ren ρ k2 H2 hK hl hd hd' hj ha
 exact⟨k2,r2,H2,e'.ren ρ k2,v,hR,rfl,g1,Rel.keep (Nat.le_refl _) (fun _ _ _=>rfl) (fun b _ hy=>g2 b hy) _ _ (Rel.ren ρ k2 r2 v hrl hrel)⟩
theorem set_same {α:Type} {l:List α} {i:Nat} {v:α} (h:l[i]? = some v):l.set i v=l:=by
 apply List.ext_getElem?
 intro j
 rw [List.getElem?_set]
 split
 ·rename_i hij
  subst hij
  obtain⟨h1,h2⟩:=List.getElem?_eq_some_iff.1 h
  rw [if_pos h1,h]
 ·rfl
section
variable {Γ : Ctx} {k : Nat} {L : Sl} {H H' : Hp} {Q : Post} {c : Code}
theorem ent_cellrow (i o:Nat) (te:TypeId) (es:Nat) {tb:TypeId} {cs:List SV} (hH:Hp.get H i=some (.blk tb cs)) (hc:cs[o]? = some .nils) (hS:setF ((k,.row te es [])::H) i (.blk tb (cs.set o (.row k))) some=some H'):Ent Γ k L H (k + 1) L H':=by
 rw [setF_eq] at hS
 cases hS
 intro e a w m
 have hη:(e.bindRow k (.slice none 0 0)).η k = .slice none 0 0:=if_pos rfl
 have m2:=(m.new (lo_not k) (hb:=.row te es []) (e':=e.bindRow k (.slice none 0 0)) (w':=w) (fun i=>or_congr (m.top i) Iff.rfl) (e.bindRow_ext _ _ (fun h=>lo_not k ((m.top k).1 h))) (Beld.refl _ _ _)
  (fun b hb=>by simp [HB.owned,hη,Value.ownBlock] at hb) (fun _=>⟨[],by rw [hη];exact World.ownsRow_nil w 0 te es,by simp,by simp,by simp⟩)).cast (with1_lo k)
 have hik:i < k:=(m.top i).1 (m.heap _ (Hp.mem_of hH)).1
 have hH2:Hp.get ((k,.row te es [])::H) i=some (.blk tb cs):=by
  rw [Hp.get_cons,if_neg (by omega)];exact hH
 refine⟨_,m2.turn hH2 (Nat.le_refl _) rfl rfl rfl (fun _=>Nat.le_refl _) (fun _ _ _=>rfl) rfl ?_⟩
 obtain⟨vs,h1,h2,h3⟩:=(m2.heap _ (Hp.mem_of hH2)).2
 refine⟨vs,h1,?_,h3⟩
 obtain⟨v,g1,g2⟩:=RelL.get cs vs h2 o .nils hc
 have g2:v = .slice none 0 0:=g2
 have:=RelL.set cs vs h2 o (.row k) v ⟨(m2.top k).2 (Nat.lt_succ_self k),by rw [hη,g2],by rw [g2];rfl⟩
 rwa [set_same g1] at this
theorem ent_cellseal (i o j:Nat) {es:Nat} {te tb:TypeId} {cs:List SV} {xs:List (List D)} {H1:Hp} (hj:Hp.get H j=some (.row te es xs)) (hD:delF H j some=some H1) (hH:Hp.get H1 i=some (.blk tb cs)) (hc:cs[o]? = some (.row j))
  (hS:setF H1 i (.blk tb (cs.set o (.d (.slice es xs)))) some=some H'):Ent Γ k L H k L H':=by
 rw [delF_eq] at hD
 cases hD
 rw [setF_eq] at hS
 cases hS
 intro e a w m
 obtain⟨m2,_⟩:=m.del j
 have hrow:=row_data m hj
 refine⟨_,m2.turn hH (Nat.le_refl _) rfl rfl rfl (fun _=>Nat.le_refl _) (fun _ _ _=>rfl) rfl ?_⟩
 obtain⟨vs,h1,h2,h3⟩:=(m2.heap _ (Hp.mem_of hH)).2
 refine⟨vs,h1,?_,h3⟩
 obtain⟨v,g1,g2⟩:=RelL.get cs vs h2 o (.row j) hc
 have:=RelL.set cs vs h2 o (.d (.slice es xs)) v (by rw [g2.2.1];exact hrow)
 rwa [set_same g1] at this
theorem ent_cellnil (i o es:Nat) {tb:TypeId} {cs:List SV} (hH:Hp.get H i=some (.blk tb cs)) (hc:cs[o]? = some .nils) (hS:setF H i (.blk tb (cs.set o (.d (.slice es [])))) some=some H'):Ent Γ k L H k L H':=by
 rw [setF_eq] at hS
 cases hS
 intro e a w m
 refine⟨_,m.turn hH (Nat.le_refl _) rfl rfl rfl (fun _=>Nat.le_refl _) (fun _ _ _=>rfl) rfl ?_⟩
 obtain⟨vs,h1,h2,h3⟩:=(m.heap _ (Hp.mem_of hH)).2
 refine⟨vs,h1,?_,h3⟩
 obtain⟨v,g1,g2⟩:=RelL.get cs vs h2 o .nils hc
 have g2:v = .slice none 0 0:=g2
 have:=RelL.set cs vs h2 o (.d (.slice es [])) v (by rw [g2];exact .nil)
 rwa [set_same g1] at this
theorem ent_nilrow {t:Nat} (te:TypeId) (es:Nat) (h:L.get t = .nils):Ent Γ k L H (k + 1) ((t,.row k)::L) ((k,.row te es [])::H):=by
 intro e a w m
 have hη:(e.bindRow k (.slice none 0 0)).η k = .slice none 0 0:=if_pos rfl
 have m2:=(m.new (lo_not k) (hb:=.row te es []) (e':=e.bindRow k (.slice none 0 0)) (w':=w) (fun i=>or_congr (m.top i) Iff.rfl) (e.bindRow_ext _ _ (fun h=>lo_not k ((m.top k).1 h))) (Beld.refl _ _ _)
  (fun b hb=>by simp [HB.owned,hη,Value.ownBlock] at hb) (fun _=>⟨[],by rw [hη];exact World.ownsRow_nil w 0 te es,by simp,by simp,by simp⟩)).cast (with1_lo k)
 refine⟨_,⟨m2.toHeap,m2.defers,m2.len,fun t'=>?_⟩⟩
 rw [Sl.get_cons]
 split
 ·rename_i ht
  subst ht
  have hs:=m.slot t
  rw [h] at hs
  refine⟨.inr rfl,?_⟩
  have hs:a.tmps.getD t undef = .slice none 0 0:=hs
  exact⟨hs.trans hη.symm,by rw [hs];rfl⟩
 ·exact m2.slot t'
theorem ent_seal {i es:Nat} {te:TypeId} {xs:List (List D)} (t:Nat) (hL:L.get t = .row i) (hH:Hp.get H i=some (.row te es xs)) (hD:delF H i some=some H'):Ent Γ k L H k ((t,.d (.slice es xs))::L) H':=by
 rw [delF_eq] at hD
 cases hD
 intro e a w m
 obtain⟨m2,_⟩:=m.del i
 refine⟨e,⟨m2.toHeap,m2.defers,m2.len,fun t'=>?_⟩⟩
 rw [Sl.get_cons]
 split
 ·rename_i ht
  subst ht
  have hs:=m.slot t
  rw [hL] at hs
  rw [hs.2.1]
  exact row_data m hH
 ·exact m2.slot t'
theorem ent_nild (t es:Nat) (hL:L.get t = .nils):Ent Γ k L H k ((t,.d (.slice es []))::L) H:=by
 intro e a w m
 refine⟨e,⟨m.toHeap,m.defers,m.len,fun t'=>?_⟩⟩
 rw [Sl.get_cons]
 split
 ·rename_i ht
  subst ht
  have hs:=m.slot t
  rw [hL] at hs
  rw [hs]
  exact .nil
 ·exact m.slot t'
end
end Go.Proofs.YtapciiffpnociabGreatDoor
namespace Go.Proofs.YtapciiffpnociabGreatDoor
open Go Go.RowKit
section
variable {Γ : Ctx} {k : Nat → Prop} {L : Sl} {H : Hp} {K : Next'} {ops : List Oper} {rest : List Oper} {a : Act} {w : World} {e : Env} {t t' ty : TypeId} {x y : Operand}
end
section
variable {Γ : Ctx} {k : Nat} {L : Sl} {H : Hp} {K : Next'} {ops : List Oper} {rest : List Oper} {t t' ty : TypeId} {x y : Operand} {q : Bool}
theorem nat_sub_1 (a:Nat):((a + 1:Nat):Int) - 1=(a:Int):=by omega
theorem hv_drop {α:Type} {f:α→List D} {l:List α} {n:Int} {j N:Nat} (hn:n=(j:Int)):(((l.map f).take ((N:Int)).toNat).drop n.toNat)=((l.take N).drop j).map f:=by subst hn;simp
theorem hv_take {α:Type} {f:α→List D} {l:List α} {n:Int} {j:Nat} (hn:n=(j:Int)):(((l.map f).take n.toNat).drop (0:Int).toNat)=(l.take j).map f:=by subst hn;simp
theorem ds_slD {d es:Nat} {xs ys:List (List D)} {lo hi:Option Operand} {n m':Int} {pos:String} {af:Array Edge} {g:Option (Nat × Bool)} (hx:opSV L x = .d (.slice es xs)) (ht:(tiGet Γ.τ t).sh = .slice t') (hc:(tiGet Γ.τ t').cells=es) (hkn:(tiGet Γ.τ t').sh.known=true)
  (hl:lowC (lo.map (opSV L))=some n) (hh:highC xs.length (hi.map (opSV L))=some m') (h0:0≤n∧n≤m'∧m'≤xs.length) (hys:(xs.take m'.toNat).drop n.toNat=ys) (hw:wantedSV ops L g=some true) (hd:Nat.blt d Γ.n=true)
  (hk:DS q Γ ops rest K k ((d,.d (.slice es ys))::L) H):DS q Γ ops (⟨some d,.slice t x lo hi none,ty,pos,af,g⟩::rest) K k L H:=by
 subst hys
 exact ds_ev (ev_sliceD ht hc hkn hx hl hh h0.1 h0.2.1 h0.2.2) hw hd hk
theorem dw_lenA (t j:Nat) {c:Code} {Q:Post} {es:Nat} {ss:List SV} {xs:List (List D)} (h:L.get t = .agg ss) (hj:ss[j]? = some (.d (.slice es xs))) (hk:xs.length≤9223372036854775807→DW Γ c Q k L H):DW Γ c Q k L H:=by
 intro e a w m
 have hr:=m.slot t
 rw [h] at hr
 obtain⟨vs,_,h2⟩:=hr
 obtain⟨v,_,h3⟩:=RelL.get _ _ h2 j _ hj
 obtain⟨ao,cap,_,h4,h5,_⟩:=RepC.slice_inv h3
 exact hk (by unfold maxLen at h5;omega) e a w m
theorem dw_stopR (id:Nat) {ops:Array Oper} {b:Bool} {x z:Code} {Q:Post} (h:DW Γ (.seq (.seq (.region id ops b) x) z) Q k L H):DW Γ (.seq (.seq (.region id ops b) x) z) Q k L H:=h
theorem dw_stopS (id:Nat) {ops:Array Oper} {b:Bool} {x:Code} {Q:Post} (h:DW Γ (.seq (.region id ops b) x) Q k L H):DW Γ (.seq (.region id ops b) x) Q k L H:=h
theorem dw_cut {ι:Type} {c y:Code} {Q:Post} (I:ι→St) (pre:ι→Prop) (hx:DW Γ c (thenD (fun k' L' H'=>∃ i,pre i∧Ent Γ k' L' H' (I i).k (I i).L (I i).H) Q) k L H) (hy:∀ i,pre i→DW Γ y Q (I i).k (I i).L (I i).H):DW Γ (.seq c y) Q k L H:=by
 intro e a w m
 refine wpIn_seq (wpIn_mono (hx e a w m) ?_)
 rintro ex a' w' (⟨k',L',H',e',m',hq⟩|hf)
 ·cases ex with
  | normal =>
   obtain⟨i,hp,he⟩:=hq
   obtain⟨e2,m2⟩:=he e' a' w' m'
   exact hy i hp e2 a' w' m2
  | _=>exact .inl ⟨k',L',H',e',m',hq⟩
 ·obtain⟨v,k',L',H',e',rfl,r⟩:=hf
  exact .inr ⟨v,k',L',H',e',rfl,r⟩
theorem ent_trans {k2 k3:Nat} {L2 L3:Sl} {H2 H3:Hp} (h:Ent Γ k L H k2 L2 H2) (g:Ent Γ k2 L2 H2 k3 L3 H3):Ent Γ k L H k3 L3 H3:=fun e a w m =>
 let ⟨e2,m2⟩:=h e a w m
 g e2 a w m2
end
structure UId where
 author:Int
 number:Int
structure Fct where
 pred:Int
 args:List Int
structure Upd where
 id:UId
 parents:List UId
 says:List Fct
 takes:List UId
def cmpI (a b:Int):Int:=if a < b then -1 else if b < a then 1 else 0
def ordL:List Int→List Int→Int
 | [],[]=>0
 | [],_::_=>-1
 | _::_,[]=>1
 | a::l,b::m=>if cmpI a b=0 then ordL l m else cmpI a b
def ordF (a b:Fct):Int:=if cmpI a.pred b.pred=0 then ordL a.args b.args else cmpI a.pred b.pred
def UId.same (a b:UId):Bool:=decide (a.author=b.author) && decide (a.number=b.number)
def putN (n:Nat):Nat→List UInt8
 | 0=>[]
 | k + 1=>UInt8.ofNat n::putN (n / 256) k
def put (n:Int) (k:Nat):List UInt8:=putN (n % 4294967296).toNat k
def sameL {α:Type} (p:α→α→Bool):List α→List α→Bool
 | [],[]=>true
 | x::xs,y::ys=>p x y && sameL p xs ys
 | _,_=>false
def Fct.same (x y:Fct):Bool:=decide (ordF x y=0)
def Upd.same (a b:Upd):Bool:=a.id.same b.id && (sameL UId.same a.parents b.parents && (sameL Fct.same a.says b.says && sameL UId.same a.takes b.takes))
theorem sameL_refl {α:Type} {p:α→α→Bool} (hp:∀ x,p x x=true):∀ l,sameL p l l=true
 | []=>rfl
 | x::l=>by unfold sameL;rw [hp x,sameL_refl hp l];rfl
theorem sameL_drop {α:Type} (p:α→α→Bool) (xs ys:List α) (k:Nat) (h1:k < xs.length) (h2:k < ys.length) :
  sameL p (xs.drop k) (ys.drop k)=(p xs[k] ys[k] && sameL p (xs.drop (k + 1)) (ys.drop (k + 1))):=by
 rw [List.drop_eq_getElem_cons h1,List.drop_eq_getElem_cons h2];rfl
theorem sameL_end {α:Type} (p:α→α→Bool) (xs ys:List α) (k:Nat) (h1:xs.length≤k) (h2:ys.length≤k) :
  sameL p (xs.drop k) (ys.drop k)=true:=by
 rw [List.drop_of_length_le h1,List.drop_of_length_le h2];rfl
theorem sameL_len {α:Type} (p:α→α→Bool):∀ (xs ys:List α),xs.length≠ys.length→sameL p xs ys=false
 | [],[],h=>absurd rfl h
 | [],_::_,_=>rfl
 | _::_,[],_=>rfl
 | x::xs,y::ys,h=>by rw [sameL,sameL_len p xs ys (fun e=>h (by simp [e])),Bool.and_false]
structure Trm where
 var:Int
 n:Int
def isT (bs:List Bool) (t:Trm):Bool:=decide (t.var < 0) || bs.getD t.var.toNat false
def setT (bs:List Bool) (t:Trm):List Bool:=if t.var < 0 then bs else bs.set t.var.toNat true
theorem setT_len (bs:List Bool) (t:Trm):(setT bs t).length=bs.length:=by unfold setT;split <;> simp
def leB (a b:List Bool):Prop:=a.length=b.length∧∀ i,a.getD i false=true→b.getD i false=true
theorem leB.refl (a:List Bool):leB a a:=⟨rfl,fun _ h=>h⟩
theorem leB.trans {a b c:List Bool} (h:leB a b) (g:leB b c):leB a c:=⟨h.1.trans g.1,fun i hi=>g.2 i (h.2 i hi)⟩
theorem setT_same {bs:List Bool} {t:Trm} (h:isT bs t=true):setT bs t=bs:=by
 unfold isT at h
 unfold setT
 split
 ·rfl
 ·rename_i hn
  rw [decide_eq_false hn,Bool.false_or] at h
  simp only [List.getD] at h
  cases hg:bs[t.var.toNat]? with
  | none=>rw [hg] at h;cases h
  | some b =>
   rw [hg] at h
   simp only [Option.getD_some] at h
   subst h
   have hlt:=(List.getElem?_eq_some_iff.1 hg).1
   refine List.ext_getElem? fun i=>?_
   rw [List.getElem?_set]
   split
   ·rename_i hi;subst hi;exact hg.symm
   ·rfl
def okT (v:Nat) (t:Trm):Prop:=t.var < (v:Int)
def idxF {α:Type} (p:α→Bool) (l:List α):Int:=match l.findIdx? p with
 | some i=>i
 | none=>-1
theorem idxF_hit {α:Type} {p:α→Bool} {l:List α} {i:Nat} (h:∀ j (hj:j < l.length),j < i→p l[j]=false) (hi:i < l.length) (hp:p l[i]=true):idxF p l=i:=by
 unfold idxF
 have:l.findIdx? p=some i:=by
  rw [List.findIdx?_eq_some_iff_getElem]
  exact⟨hi,hp,fun j hj=>by simpa using h j (by omega) hj⟩
 rw [this]
theorem idxF_none {α:Type} {p:α→Bool} {l:List α} (h:∀ j (hj:j < l.length),p l[j]=false):idxF p l = -1:=by
 unfold idxF
 have:l.findIdx? p=none:=by
  rw [List.findIdx?_eq_none_iff]
  intro x hx
  obtain⟨i,hi,rfl⟩:=List.mem_iff_getElem.1 hx
  exact h i hi
 rw [this]
theorem idxF_any {α:Type} (p:α→Bool) (l:List α):decide (idxF p l ≥ 0)=l.any p:=by
 unfold idxF
 cases h:l.findIdx? p with
 | none =>
  rw [List.findIdx?_eq_none_iff] at h
  have:l.any p=false:=by
   rw [List.any_eq_false]
   intro x hx
   rw [h x hx];exact Bool.false_ne_true
  rw [this];rfl
 | some i =>
  rw [List.findIdx?_eq_some_iff_getElem] at h
  obtain⟨hi,hp,_⟩:=h
  have:l.any p=true:=List.any_eq_true.2 ⟨l[i],List.getElem_mem hi,hp⟩
  rw [this]
  exact decide_eq_true (by show (0:Int)≤(i:Int);omega)
theorem none_step {α:Type} {p:α→Bool} {l:List α} {i:Nat} (h:∀ j (hj:j < l.length),j < i→p l[j]=false) (hi:i < l.length) (hp:p l[i]=false):∀ j (hj:j < l.length),j < i + 1→p l[j]=false:=by
 intro j hj hlt
 by_cases he:j=i
 ·subst he;exact hp
 ·exact h j hj (by omega)
attribute [local irreducible] DW DS DL DQ Ev FnOk FnP thenD inBlockD DT
def encT (s:ByteArray):List D:=[.str s]

end Go.Proofs.YtapciiffpnociabGreatDoor
