/- Several texts in one: TokU TokV TokW TokX TokY TokZ TokA TokB TokC TokD ScoB ScoC. Condition: none. -/
import Derived.Test.YtapciiffpnociaaGreatP16
namespace Go.Proofs.YtapciiffpnociaaGreat
open Go Go.RowKit
attribute [local irreducible] DW DS DL DQ Ev FnOk FnP em b9 DT
def encScan (r:List Tok × Int × Int):SV:=.tup [.d (encToks r.1),.d (.int .i64 r.2.1),.d (.int .i64 r.2.2)]
theorem scanS_big (s:ByteArray) (h:5000 < s.size):scanS s=([],0,2):=by unfold scanS;rw [if_pos h]
theorem scanS_ok (s:ByteArray) (h:¬ 5000 < s.size) (l:List Tok) (e:ct s false 0 = .ok l):scanS s=(l,0,0):=by unfold scanS;rw [if_neg h,e]
theorem scanS_err (s:ByteArray) (h:¬ 5000 < s.size) (p e:Int) (he:ct s false 0 = .error (p,e)):scanS s=([],p,e):=by unfold scanS;rw [if_neg h,he]
theorem i37 (c:UInt8):((c.toNat:Int)=37)=(c=37):=u8i c 37
theorem i32 (c:UInt8):((c.toNat:Int)=32)=(c=32):=u8i c 32
theorem i9 (c:UInt8):((c.toNat:Int)=9)=(c=9):=u8i c 9
theorem i10 (c:UInt8):((c.toNat:Int)=10)=(c=10):=u8i c 10
theorem note_step (s:ByteArray) (note:Bool) (i:Nat) (h:i < s.size) (hn:note=true∨(s[i].toNat:Int)=37):ct s note i=ct s (decide ((s[i].toNat:Int)≠10)) (i + 1):=by
 rw [scanAt_note s note i h (by rw [i37] at hn;rcases hn with hn|hn <;> simp [hn])]
 congr 1
 rw [Bool.eq_iff_iff]
 simp only [ne_eq,i10]
 simp
theorem blank_step (s:ByteArray) (note:Bool) (i:Nat) (h:i < s.size) (hn:note=false) (h1:¬ (s[i].toNat:Int)=37) (h2:(s[i].toNat:Int)=32∨(s[i].toNat:Int)=9∨(s[i].toNat:Int)=10):ct s note i=ct s note (i + 1):=by
 subst hn
 rw [i37] at h1
 rw [i32,i9,i10] at h2
 exact scanAt_blank s i h (by simpa using h1) (by simpa [or_assoc] using h2)
theorem tok_step (s:ByteArray) (note:Bool) (i:Nat) (h:i < s.size) (hn:note=false) (h1:¬ (s[i].toNat:Int)=37) (h2:¬ (s[i].toNat:Int)=32) (h3:¬ (s[i].toNat:Int)=9) (h4:¬ (s[i].toNat:Int)=10) (q:Int × Nat) (hq:c8 (s.data.toList.drop i)=q) :
  ct s note i=if er q.1 q.2 s[i]=0 then (ct s note (i + q.2)).map (Tok.mk q.1 i (s.extract i (i + q.2))::·) else .error (i,er q.1 q.2 s[i]):=by
 subst hn
 subst hq
 rw [i37] at h1
 rw [i32] at h2
 rw [i9] at h3
 rw [i10] at h4
 have e1:(s[i] == 37)=false:=by simpa using h1
 have e2:(s[i] == 32 || s[i] == 9 || s[i] == 10)=false:=by simp [h2,h3,h4]
 split
 ·rename_i he
  exact scanAt_tok s i h e1 e2 he
 ·rename_i he
  exact scanAt_err s i h e1 e2 he
theorem map_map (x:Except (Int × Int) (List Tok)) (f g:List Tok→List Tok):(x.map f).map g=x.map fun l=>g (f l):=by cases x <;> rfl
theorem tokErr_int (kind:Int) (n:Nat) (c:UInt8):er kind n c=if kind=0 then 1 else if ((kind=1∨kind=2)∧(12:Int) < n)∨(kind=3∧(7:Int) < n) then 2 else if kind=3∧(1:Int) < n∧(c.toNat:Int)=48 then 1 else 0:=by
 simp only [natc_lt12,natc_lt7,natc_lt1,u48]
 exact tokErr_eq kind n c
theorem small_eq (c:UInt8):iu c=(decide ((97:Int)≤c.toNat) && decide ((c.toNat:Int)≤122)):=by unfold iu;rfl
theorem great_eq (c:UInt8):ji c=(decide ((65:Int)≤c.toNat) && decide ((c.toNat:Int)≤90)):=by unfold ji;rfl
theorem digit_eq (c:UInt8):ek c=(decide ((48:Int)≤c.toNat) && decide ((c.toNat:Int)≤57)):=by unfold ek;rfl
set_option maxHeartbeats 8000000 in
theorem small_fn (c:UInt8):Fn 178 [.d (.int .u8 (c.toNat:Int))] (fun r=>r = .d (.bool (iu c))):=by
 refine ak _ Tryz.func178 rfl rfl (by kernel_rfl) ?_
 intro O w0 E0 β0
 repeat' (first|refine z0 ?_|refine z12 ?_|apply ag|apply ae|refine z16 ?_|apply aj|apply aa|((fail_if_success (apply bk;exact rfl));apply bl;exact rfl;exact rfl;exact rfl;all_goals intro hg))
 all_goals exact cm rfl (by rw [small_eq];first|(simp_all;done)|(simp_all;omega))
set_option maxHeartbeats 8000000 in
theorem great_fn (c:UInt8):Fn 179 [.d (.int .u8 (c.toNat:Int))] (fun r=>r = .d (.bool (ji c))):=by
 refine ak _ Tryz.func179 rfl rfl (by kernel_rfl) ?_
 intro O w0 E0 β0
 repeat' (first|refine z0 ?_|refine z12 ?_|apply ag|apply ae|refine z16 ?_|apply aj|apply aa|((fail_if_success (apply bk;exact rfl));apply bl;exact rfl;exact rfl;exact rfl;all_goals intro hg))
 all_goals exact cm rfl (by rw [great_eq];first|(simp_all;done)|(simp_all;omega))
set_option maxHeartbeats 8000000 in
theorem digit_fn (c:UInt8):Fn 182 [.d (.int .u8 (c.toNat:Int))] (fun r=>r = .d (.bool (ek c))):=by
 refine ak _ Tryz.func182 rfl rfl (by kernel_rfl) ?_
 intro O w0 E0 β0
 repeat' (first|refine z0 ?_|refine z12 ?_|apply ag|apply ae|refine z16 ?_|apply aj|apply aa|((fail_if_success (apply bk;exact rfl));apply bl;exact rfl;exact rfl;exact rfl;all_goals intro hg))
 all_goals exact cm rfl (by rw [digit_eq];first|(simp_all;done)|(simp_all;omega))
set_option maxHeartbeats 8000000 in
theorem alnum_fn (c:UInt8):Fn 181 [.d (.int .u8 (c.toNat:Int))] (fun r=>r = .d (.bool (ko c))):=by
 refine ak _ Tryz.func181 rfl rfl (by kernel_rfl) ?_
 intro O w0 E0 β0
 repeat' (first|refine z0 ?_|refine z12 ?_|apply ag|apply ae|refine z16 ?_|apply aj|apply aa|refine z21 ?_ (hc:=by apply small_fn)|refine z21 ?_ (hc:=by apply great_fn)|refine z21 ?_ (hc:=by apply digit_fn)|((fail_if_success (apply bk;exact rfl));apply jr;exact rfl;exact rfl;exact rfl;all_goals intro hg))
 all_goals exact cm rfl (by unfold ko f8;simp_all)
abbrev FnS (f:FuncId) (args:List SV) (J k:Nat) (H:Hp) (R:Nat→SV→Hp→Prop):Prop:=FnOk false Tryz.prog tab cn f args J k H R
abbrev scH (s:ByteArray) (i:Nat):Hp:=[(0,.blk 235 [.d (.str s),.d (.int .i64 i)])]
set_option maxHeartbeats 8000000 in
theorem sign_fn (s:ByteArray) (i:Nat):FnS 177 [.loc 0 0] 1 1 (scH s i) (fun k2 r H2=>k2=1∧r = .d (.int .u8 (if h:i < s.size then (s[i].toNat:Int) else 0))∧H2=scH s i):=by
 refine mb _ Tryz.func177 rfl rfl (by kernel_rfl) ?_
 intro O w0 E0 β0
 repeat' (first|refine z0 ?_|apply ag|refine z5 ?_|refine z10 ?_|apply ae|refine z16 ?_|refine z20 ?_|apply ai|apply aj|apply aa|apply av|(refine z23 ?_ ?_ <;> intro hg)|fail)
 ·refine⟨.inl rfl,_,rfl,rfl,?_,rfl⟩
  rw [dif_pos (by omega)];rfl
 ·refine⟨.inl rfl,_,rfl,rfl,?_,rfl⟩
  rw [dif_neg (by omega)];rfl
theorem note_at (s:ByteArray) (j:Nat) (h:j < s.size) (h1:(s[j].toNat:Int)=37):ct s false j=ct s true j:=by
 rw [note_step s false j h (.inr h1),note_step s true j h (.inl rfl)]
theorem note_in (s:ByteArray) (j:Nat) (h:j < s.size) (h1:¬ (s[j].toNat:Int)=10):ct s true j=ct s true (j + 1):=by
 rw [note_step s true j h (.inl rfl),decide_eq_true h1]
theorem note_out (s:ByteArray) (j:Nat) (h:∀ h:j < s.size,(s[j].toNat:Int)=10):ct s true j=ct s false j:=by
 by_cases hj:j < s.size
 ·have h10:=h hj
  rw [note_step s true j hj (.inl rfl),decide_eq_false (by rw [h10];simp),blank_step s false j hj rfl (by omega) (by omega)]
 ·rw [scanAt_end s true j (by omega),scanAt_end s false j (by omega)]
set_option maxHeartbeats 8000000 in
theorem skip_fn (s:ByteArray) (i:Nat) (hi:i≤s.size) (hs:s.size≤5000):FnS 163 [.loc 0 0] 1 1 (scH s i)
  (fun k2 r H2=>k2=1∧r = .tup []∧∃ j:Nat,i≤j∧j≤s.size∧ct s false i=ct s false j∧(∀ h:j < s.size,¬ (s[j].toNat:Int)=37∧¬ (s[j].toNat:Int)=32∧¬ (s[j].toNat:Int)=9∧¬ (s[j].toNat:Int)=10)∧H2=scH s j):=by
 refine mb _ Tryz.func163 rfl rfl (by kernel_rfl) ?_
 intro O w0 E0 β0
 repeat' (apply ah)
 refine bh (ι:=Nat) (fun j=>⟨1,[(0,.loc 0 0)],scH s j⟩) (fun j=>i≤j∧j≤s.size∧ct s false i=ct s false j) (fun j=>s.size - j) i ⟨Nat.le_refl _,hi,rfl⟩
  (ap id ⟨rfl,trivial⟩ ⟨rfl,trivial⟩ rfl rfl rfl rfl rfl rfl) ?_
 rintro j ⟨h1,h2,h3⟩
 repeat' (first|refine z0 ?_|apply ag|refine z5 ?_|refine z10 ?_|apply ae|refine z16 ?_|refine z20 ?_|apply ah|apply ai|apply au|apply aj|apply aa|apply aq|apply av|apply bg|apply br|refine z17 ?_|refine z3 ?_|(refine z23 ?_ ?_ <;> intro hg)|fail)
 all_goals first
  | (exfalso;omega)
  | (refine⟨j + 1,⟨by omega,by omega,h3.trans (blank_step s false j (by omega) rfl (by omega) (by omega))⟩,ap id ⟨rfl,trivial⟩ ⟨rfl,trivial⟩ rfl rfl rfl rfl rfl rfl,by omega⟩)
  | (refine⟨.inl rfl,_,rfl,rfl,rfl,j,h1,h2,h3,?_,rfl⟩
     intro hj
     refine⟨?_,?_,?_,?_⟩ <;> omega)
  | (refine⟨.inr rfl,_,rfl,rfl,rfl,j,h1,h2,h3,?_,rfl⟩
     intro hj
     refine⟨?_,?_,?_,?_⟩ <;> omega)
  | skip
 all_goals
  refine bh (ι:=Nat) (fun m=>⟨1,[(0,.loc 0 0)],scH s m⟩) (fun m=>j≤m∧m≤s.size∧ct s false i=ct s true m) (fun m=>s.size - m) j
   ⟨Nat.le_refl _,h2,h3.trans (note_at s j (by omega) (by omega))⟩ (ap id ⟨rfl,trivial⟩ ⟨rfl,trivial⟩ rfl rfl rfl rfl rfl rfl) ?_
  rintro m ⟨g1,g2,g3⟩
  repeat' (first|refine z0 ?_|apply ag|refine z5 ?_|refine z14 ?_|refine z10 ?_|apply ae|refine z16 ?_|refine z20 ?_|apply ah|apply ai|apply au|refine z19 ?_|apply aa|apply aq|apply bg|refine z17 ?_|refine z3 ?_|(refine z23 ?_ ?_ <;> intro hg)|((fail_if_success (apply dt_known;exact rfl));apply k5;exact rfl;exact rfl;exact rfl;all_goals intro hg))
  all_goals first
   | (refine⟨m + 1,⟨by omega,by omega,g3.trans (note_in s m (by omega) (by omega))⟩,ap id ⟨rfl,trivial⟩ ⟨rfl,trivial⟩ rfl rfl rfl rfl rfl rfl,by omega⟩)
   | (have hne:m≠j:=by
       intro e
       subst e
       omega
      refine⟨m,⟨by omega,g2,g3.trans (note_out s m (by intro h;omega))⟩,ap id ⟨rfl,trivial⟩ ⟨rfl,trivial⟩ rfl rfl rfl rfl rfl rfl,by omega⟩)
set_option maxHeartbeats 8000000 in
theorem run_fn (s:ByteArray) (i:Nat) (hi:i≤s.size) (hs:s.size≤5000) (f:FuncId) (p:UInt8→Bool) (hp:∀ c:UInt8,Fn f [.d (.int .u8 (c.toNat:Int))] (fun r=>r = .d (.bool (p c)))) :
  FnS 180 [.loc 0 0,.fn f []] 1 1 (scH s i)
   (fun k2 r H2=>k2=1∧r = .d (.str (s.extract i (i + fv p (s.data.toList.drop i))))∧H2=scH s (i + fv p (s.data.toList.drop i))):=by
 refine mb _ Tryz.func180 rfl rfl (by kernel_rfl) ?_
 intro O w0 E0 β0
 repeat' (first|refine z0 ?_|apply ag|apply ae|refine z16 ?_|apply ah|apply aa)
 have hl0:s.data.toList.length=s.size:=by simp
 refine bh (ι:=Nat) (fun j=>⟨1,[(0,.loc 0 0),(1,.fn f []),(5,.d (.int .i64 i))],scH s j⟩) (fun j=>i≤j∧j≤s.size∧i + fv p (s.data.toList.drop i)=j + fv p (s.data.toList.drop j)) (fun j=>s.size - j) i ⟨Nat.le_refl _,hi,rfl⟩
  (ap id ⟨rfl,rfl,rfl,trivial⟩ ⟨rfl,trivial⟩ rfl rfl rfl rfl rfl rfl) ?_
 rintro j ⟨h1,h2,h3⟩
 have hstep:=fun h hq=>takeW_step p s.data.toList j h hq
 have hstop:=fun h hq=>takeW_stop p s.data.toList j h hq
 have hend:=takeW_end p s.data.toList j
 repeat' (first|refine z5 ?_|refine z14 ?_|refine z10 ?_|apply ae|refine z20 ?_|apply au|apply aj|refine z19 ?_|apply aa|apply aq|refine z17 ?_|((fail_if_success (apply dt_known;exact rfl));apply k5;exact rfl;exact rfl;exact rfl;all_goals intro hg))
 all_goals first
  | (refine ik rfl rfl rfl rfl (hp _) rfl rfl rfl rfl ⟨_,rfl⟩ ?_;rintro _ rfl)
  | (exact absurd hg (by decide))
  | skip
 repeat' (first|refine z0 ?_|apply ag|refine z5 ?_|refine z10 ?_|apply ae|refine z16 ?_|refine z20 ?_|apply ah|apply ai|apply au|apply aj|apply aa|apply aq|apply bg|refine z17 ?_|refine z3 ?_|(apply c7;exact rfl;all_goals intro hg))
 all_goals first
  | (have hj:i + fv p (s.data.toList.drop i)=j:=by have:=hend (by omega);omega
     rw [hj]
     exact⟨.inl rfl,_,rfl,rfl,rfl,rfl⟩)
  | (have hq:=hstep (by omega) (by rw [byteAt _ _ (by omega)];first|assumption|simp_all)
     refine⟨j + 1,⟨by omega,by omega,by omega⟩,ap id ⟨rfl,rfl,rfl,trivial⟩ ⟨rfl,trivial⟩ rfl rfl rfl rfl rfl rfl,by omega⟩)
  | (have hq:=hstop (by omega) (by rw [byteAt _ _ (by omega)];first|assumption|simp_all)
     have hj:i + fv p (s.data.toList.drop i)=j:=by omega
     rw [hj]
     exact⟨.inl rfl,_,rfl,rfl,rfl,rfl⟩)
def pairL:D:=.slice 1 [[.str ⟨#[58,45]⟩],[.str ⟨#[60,61]⟩],[.str ⟨#[33,61]⟩]]
set_option maxHeartbeats 8000000 in
theorem pairs_fn:Fn 184 [] (fun r=>r = .d pairL):=by
 refine ak _ Tryz.func184 rfl rfl (by kernel_rfl) ?_
 intro O w0 E0 β0
 repeat' (first|refine z0 ?_|apply ag|apply ae|refine z16 ?_|apply aj|apply aa|refine z4 ?_|fail)
 exact⟨.inl rfl,_,rfl,rfl,rfl⟩
def fi (s t:ByteArray):Bool:=decide (t.size≤s.size) && decide (s.extract 0 t.size=t)
set_option maxHeartbeats 8000000 in
theorem hasPrefix0_fn (s t:ByteArray):Fn 201 [.d (.str s),.d (.str t)] (fun r=>r = .d (.bool (fi s t))):=by
 refine ak _ Tryz.func201 rfl rfl (by kernel_rfl) ?_
 intro O w0 E0 β0
 repeat' (first|refine z0 ?_|refine z12 ?_|apply ag|apply ae|refine z16 ?_|apply aj|apply aa|((fail_if_success (apply bk;exact rfl));apply bl;exact rfl;exact rfl;exact rfl;all_goals intro hg))
 all_goals exact cm rfl (by
  unfold fi
  first
   | (have h:t.size≤s.size:=by omega
      simp [h];done)
   | (have h:¬ t.size≤s.size:=by omega
      simp [h];done))
set_option maxHeartbeats 8000000 in
theorem hasPrefix_fn (s t:ByteArray):Fn 186 [.d (.str s),.d (.str t)] (fun r=>r = .d (.bool (fi s t))):=by
 refine ak _ Tryz.func186 rfl rfl (by kernel_rfl) ?_
 intro O w0 E0 β0
 repeat' (first|refine z0 ?_|apply ag|apply ae|refine z16 ?_|apply aj|apply aa|refine z21 ?_ (hc:=by apply hasPrefix0_fn)|fail)
 all_goals exact cm rfl rfl
abbrev scH2 (s:ByteArray) (i:Nat):Hp:=[(0,.blk 235 [.d (.str s),.d (.int .i64 i)]),(1,.blk 233 [.loc 0 0])]
set_option maxHeartbeats 8000000 in
theorem begins_fn (s:ByteArray) (i:Nat) (hi:i≤s.size) (t:ByteArray) :
  FnS 185 [.d (.str t),.loc 1 0] 2 2 (scH2 s i) (fun k2 r H2=>k2=2∧r = .d (.bool (fi (s.extract i s.size) t))∧H2=scH2 s i):=by
 refine mb _ Tryz.func185 rfl rfl (by kernel_rfl) ?_
 intro O w0 E0 β0
 repeat' (first|refine z0 ?_|apply ag|refine z5 ?_|refine z10 ?_|apply ae|refine z16 ?_|refine z20 ?_|apply aj|apply aa|refine z22 ?_ (hc:=by apply hasPrefix_fn)|fail)
 exact⟨.inl rfl,_,rfl,rfl,rfl,rfl⟩
def pairT:List ByteArray:=[⟨#[58,45]⟩,⟨#[60,61]⟩,⟨#[33,61]⟩]
def pairAt (r:ByteArray):Int:=if fi r ⟨#[58,45]⟩ then 0 else if fi r ⟨#[60,61]⟩ then 1 else if fi r ⟨#[33,61]⟩ then 2 else -1
theorem pairAt_hit (r:ByteArray) (j:Nat) (hj:j < pairT.length) (h2:∀ m (_:m < j) (hm3:m < pairT.length),fi r pairT[m]=false) (h:fi r pairT[j]=true):pairAt r=j:=by
 have hj3:j < 3:=hj
 unfold pairAt
 match j,hj3 with
 | 0,_=>rw [if_pos (show fi r ⟨#[58,45]⟩=true from h)];rfl
 | 1,_=>rw [if_neg (by rw [show fi r ⟨#[58,45]⟩=false from h2 0 (by omega) (by decide)];decide),if_pos (show fi r ⟨#[60,61]⟩=true from h)];rfl
 | 2,_=>rw [if_neg (by rw [show fi r ⟨#[58,45]⟩=false from h2 0 (by omega) (by decide)];decide),if_neg (by rw [show fi r ⟨#[60,61]⟩=false from h2 1 (by omega) (by decide)];decide),if_pos (show fi r ⟨#[33,61]⟩=true from h)];rfl
theorem pairAt_none (r:ByteArray) (h2:∀ m (_:m < 3) (hm3:m < pairT.length),fi r pairT[m]=false):pairAt r = -1:=by
 unfold pairAt
 rw [if_neg (by rw [show fi r ⟨#[58,45]⟩=false from h2 0 (by omega) (by decide)];decide),if_neg (by rw [show fi r ⟨#[60,61]⟩=false from h2 1 (by omega) (by decide)];decide),if_neg (by rw [show fi r ⟨#[33,61]⟩=false from h2 2 (by omega) (by decide)];decide)]
set_option maxHeartbeats 8000000 in
theorem indexFunc_fn (s:ByteArray) (i:Nat) (hi:i≤s.size) :
  FnS 200 [.d (.slice 1 (pairT.map fun t=>[.str t])),.fn 185 [.loc 1 0]] 2 2 (scH2 s i) (fun _ r H2=>r = .d (.int .i64 (pairAt (s.extract i s.size)))∧H2=scH2 s i):=by
 refine mb _ Tryz.func200 rfl rfl (by kernel_rfl) ?_
 intro O w0 E0 β0
 repeat' (first|refine z0 ?_|apply ag|apply ae|refine z16 ?_|apply ah|apply aa)
 refine bh (ι:=Nat) (fun j=>⟨2,[(0,.d (.slice 1 (pairT.map fun t=>[.str t]))),(1,.fn 185 [.loc 1 0]),(7,.d (.int .i64 3)),(8,.d (.int .i64 j))],scH2 s i⟩)
  (fun j=>j≤3∧∀ m (hm:m < j) (hm3:m < pairT.length),fi (s.extract i s.size) pairT[m]=false) (fun j=>3 - j) 0 ⟨by omega,fun m hm=>absurd hm (by omega)⟩
  (ap id ⟨rfl,rfl,rfl,rfl,trivial⟩ ⟨rfl,rfl,trivial⟩ rfl rfl rfl rfl rfl rfl) ?_
 rintro j ⟨h1,h2⟩
 repeat' (first|refine z0 ?_|apply ag|apply ae|refine z16 ?_|apply aa)
 have hp3:pairT.length=3:=rfl
 refine cd rfl (fun hlt=>?_) (fun hlt=>?_)
 ·repeat' (first|refine z0 ?_|apply ag|apply ae|refine z16 ?_|apply ah|apply ai|apply aa)
  have hj:j < pairT.length:=by omega
  refine ds_callVO id (begins_fn s i hi pairT[j]) rfl rfl rfl rfl rfl rfl ⟨rfl,rfl,trivial⟩ rfl rfl rfl rfl rfl rfl ?_ ?_
  ·rintro k2 r H2 ⟨rfl,rfl,rfl⟩
   exact⟨rfl,rfl⟩
  rintro k2 r H2 ⟨rfl,rfl,rfl⟩
  repeat' (first|apply ag|apply aa)
  refine c7 rfl (fun hh=>?_) (fun hh=>?_)
  ·repeat' (first|refine z0 ?_|apply ag|apply ae|refine z16 ?_|apply aj|apply aa|apply av|apply br)
   refine⟨.inl rfl,_,rfl,?_⟩
   rw [pairAt_hit _ j hj h2 hh]
   exact⟨rfl,rfl⟩
  ·repeat' (first|refine z0 ?_|apply ag|refine z16 ?_|apply ai|apply aa|apply bg)
   refine⟨j + 1,⟨by omega,fun m hm hm3=>?_⟩,ap id ⟨rfl,rfl,rfl,rfl,trivial⟩ ⟨rfl,rfl,trivial⟩ rfl rfl rfl rfl rfl rfl,by omega⟩
   by_cases e:m=j
   ·subst e;exact hh
   ·exact h2 m (by omega) hm3
 ·repeat' (first|refine z0 ?_|apply ag|apply ae|refine z16 ?_|apply au|apply aj|apply aa|apply aq|refine z17 ?_|fail)
  refine⟨.inl rfl,_,rfl,?_,rfl⟩
  rw [pairAt_none _ (fun m hm hm3=>h2 m (by omega) hm3)]
  rfl
set_option maxHeartbeats 8000000 in
theorem containsFunc_fn (s:ByteArray) (i:Nat) (hi:i≤s.size) :
  FnS 183 [.d (.slice 1 (pairT.map fun t=>[.str t])),.fn 185 [.loc 1 0]] 2 2 (scH2 s i) (fun _ r H2=>r = .d (.bool (decide (pairAt (s.extract i s.size) ≥ 0)))∧H2=scH2 s i):=by
 refine mb _ Tryz.func183 rfl rfl (by kernel_rfl) ?_
 intro O w0 E0 β0
 repeat' (first|refine z0 ?_|apply ag|apply ae|refine z16 ?_|apply aa)
 refine ds_callO id (indexFunc_fn s i hi) rfl rfl rfl rfl ⟨rfl,rfl,trivial⟩ rfl rfl rfl rfl rfl rfl ?_ ?_
 ·rintro k2 r H2 ⟨rfl,rfl⟩
  exact⟨rfl,rfl⟩
 rintro k2 r H2 ⟨rfl,rfl⟩
 repeat' (first|refine z0 ?_|apply ag|apply aj|apply aa)
 exact⟨.inl rfl,_,rfl,rfl,rfl⟩
set_option maxHeartbeats 8000000 in
theorem indexByte0_fn (s:ByteArray) (c:UInt8):Fn 202 [.d (.str s),.d (.int .u8 (c.toNat:Int))] (fun r=>r = .d (.int .i64 (firstIdx s ((c.toNat:Int).toNat.toUInt8)))):=by
 refine ak _ Tryz.func202 rfl rfl (by kernel_rfl) ?_
 intro O w0 E0 β0
 repeat' (first|refine z0 ?_|apply ag|apply ae|refine z16 ?_|apply aa)
 refine il (ev_indexByte Tryz.func206 rfl rfl rfl rfl rfl rfl rfl) rfl rfl ?_
 repeat' (first|refine z0 ?_|apply ag|apply aj|apply aa)
 exact cg rfl rfl
set_option maxHeartbeats 8000000 in
theorem indexByte_fn (s:ByteArray) (c:UInt8):Fn 187 [.d (.str s),.d (.int .u8 (c.toNat:Int))] (fun r=>r = .d (.int .i64 (firstIdx s ((c.toNat:Int).toNat.toUInt8)))):=by
 refine ak _ Tryz.func187 rfl rfl (by kernel_rfl) ?_
 intro O w0 E0 β0
 repeat' (first|refine z0 ?_|apply ag|apply ae|refine z16 ?_|apply aj|apply aa|refine z21 ?_ (hc:=by apply indexByte0_fn)|fail)
 exact cg rfl rfl
section
variable (s : ByteArray) (i : Nat) (hi : i < s.size)
include hi
theorem drop_cons:s.data.toList.drop i=s[i]::s.data.toList.drop (i + 1):=by
 have hl0:s.data.toList.length=s.size:=by simp
 rw [List.drop_eq_getElem_cons (by omega),byteAt]
theorem takeW_one (p:UInt8→Bool) (h:p s[i]=true):fv p (s.data.toList.drop i)=1 + fv p (s.data.toList.drop (i + 1)):=by
 have:=takeW_step p s.data.toList i (by simpa using hi) (by rw [byteAt _ _ hi];exact h)
 omega
theorem tok_letter (h:f8 s[i]=true):c8 (s.data.toList.drop i)=(if iu s[i] then 1 else 2,fv ko (s.data.toList.drop i)):=by
 rw [takeW_one s i hi ko (by unfold ko;rw [h];rfl),drop_cons s i hi,iq,if_pos h]
theorem tok_digit (h:f8 s[i]=false) (hd:ek s[i]=true):c8 (s.data.toList.drop i)=(3,fv ek (s.data.toList.drop i)):=by
 rw [takeW_one s i hi ek hd,drop_cons s i hi,iq,if_neg (by rw [h];exact Bool.false_ne_true),if_pos hd]
theorem tok_sign (h:f8 s[i]=false) (hd:ek s[i]=false):c8 (s.data.toList.drop i)=if pairB (s[i]::s.data.toList.drop (i + 1)) then (4,2) else if signs.contains s[i] then (4,1) else (0,0):=by
 rw [drop_cons s i hi,iq,if_neg (by rw [h];exact Bool.false_ne_true),if_neg (by rw [hd];exact Bool.false_ne_true)]
omit hi in
theorem ext_ext (k:Nat) (h:i + k≤s.size):(s.extract i s.size).extract 0 k=s.extract i (i + k):=by
 rw [ByteArray.extract_extract]
 congr 1
 omega
theorem pair_at:decide (pairAt (s.extract i s.size) ≥ 0)=pairB (s[i]::s.data.toList.drop (i + 1)):=by
 have hsz:(s.extract i s.size).size=s.size - i:=by rw [ByteArray.size_extract];omega
 by_cases h2:i + 1 < s.size
 ·rw [pair_ext s i h2]
  have hp:∀ t:ByteArray,t.size=2→fi (s.extract i s.size) t=decide (s.extract i (i + 2)=t):=by
   intro t ht
   unfold fi
   rw [ht,hsz,ext_ext s i 2 (by omega),decide_eq_true (by omega),Bool.true_and]
  unfold pairAt
  rw [hp _ rfl,hp _ rfl,hp _ rfl]
  by_cases a:s.extract i (i + 2)=⟨#[58,45]⟩
  ·simp [a]
  ·by_cases b:s.extract i (i + 2)=⟨#[60,61]⟩
   ·simp [b]
   ·by_cases c:s.extract i (i + 2)=⟨#[33,61]⟩
    ·simp [c]
    ·simp [a,b,c]
 ·have hp:∀ t:ByteArray,t.size=2→fi (s.extract i s.size) t=false:=by
   intro t ht
   unfold fi
   rw [ht,hsz,decide_eq_false (by omega),Bool.false_and]
  have hl:s.data.toList.drop (i + 1)=[]:=List.drop_eq_nil_of_le (by simp;omega)
  unfold pairAt
  rw [hp _ rfl,hp _ rfl,hp _ rfl,hl]
  simp [pairB]
theorem pair_room (h:pairAt (s.extract i s.size) ≥ 0):i + 2≤s.size:=by
 have hq:=pair_at s i hi
 rw [decide_eq_true h] at hq
 rcases Nat.lt_or_ge (i + 1) s.size with h2|h2
 ·omega
 ·have hl:s.data.toList.drop (i + 1)=[]:=List.drop_eq_nil_of_le (by simp;omega)
  rw [hl] at hq
  simp [pairB] at hq
end
theorem idx_signs (c:UInt8):decide ((0:Int)≤firstIdx ⟨#[40,41,44,46,60,61,43,45,42]⟩ c)=signs.contains c:=by
 have key:∀ n:Fin 256,decide ((0:Int)≤firstIdx ⟨#[40,41,44,46,60,61,43,45,42]⟩ (UInt8.ofNat n.1))=signs.contains (UInt8.ofNat n.1):=by decide +kernel
 have:=key ⟨c.toNat,c.toNat_lt⟩
 simpa using this
theorem signs_low (c:UInt8) (h:signs.contains c=true):(c.toNat:Int) < 128:=by
 have key:∀ n:Fin 256,signs.contains (UInt8.ofNat n.1)=true→(n.1:Int) < 128:=by decide +kernel
 exact key ⟨c.toNat,c.toNat_lt⟩ (by simpa using h)
theorem use1 {A C G:Prop} (c:A→C) (a:A) (k:C→G):G:=k (c a)
theorem use2 {A B C G:Prop} (c:A→B→C) (a:A) (b:B) (k:C→G):G:=k (c a b)
theorem use3 {A B E C G:Prop} (c:A→B→E→C) (a:A) (b:B) (e:E) (k:C→G):G:=k (c a b e)
theorem errL (kd:Int) (n:Nat) (c:UInt8) (h:kd=1∨kd=2):er kd n c=if 12 < n then 2 else 0:=by
 unfold er
 rcases h with rfl|rfl <;> simp
theorem errD (n:Nat) (c:UInt8):er 3 n c=if 7 < n then 2 else if 1 < n∧(c.toNat:Int)=48 then 1 else 0:=by
 rw [tokErr_int]
 simp only [if_false,true_and,Int.reduceEq,or_self,false_and,false_or]
 by_cases h1:7 < n
 ·rw [if_pos h1,if_pos (by omega)]
 ·rw [if_neg h1,if_neg (by omega)]
  by_cases h2:1 < n∧(c.toNat:Int)=48
  ·rw [if_pos h2,if_pos (by omega)]
  ·rw [if_neg h2,if_neg (by omega)]
theorem errP (n:Nat) (c:UInt8):er 4 n c=0:=by
 unfold er
 simp
theorem small_great {c:UInt8} (h:iu c=true):ji c=false:=by
 unfold iu at h
 unfold ji
 simp at h ⊢
 omega
def tokenR (s:ByteArray) (i:Nat) (hi:i < s.size) (r:SV) (H2:Hp):Prop :=
 ∃ (kd e:Int) (tx:ByteArray) (j:Nat),r = .tup [.agg [.d (.int .i64 kd),.d (.int .i64 i),.d (.str tx)],.d (.int .i64 e)]∧H2=scH s j∧e=er (c8 (s.data.toList.drop i)).1 (c8 (s.data.toList.drop i)).2 s[i] ∧
  (e=0→kd=(c8 (s.data.toList.drop i)).1∧tx=s.extract i (i + (c8 (s.data.toList.drop i)).2)∧j=i + (c8 (s.data.toList.drop i)).2)
set_option maxHeartbeats 8000000 in
theorem token_fn (s:ByteArray) (i:Nat) (hi:i < s.size) (hs:s.size≤5000) :
  FnS 164 [.loc 0 0] 1 1 (scH s i) (fun _ r H2=>tokenR s i hi r H2):=by
 refine fn_enterF _ Tryz.func164 rfl rfl (by kernel_rfl) ?_
 intro O w0 E0 β0
 repeat' (first|refine z0 ?_|apply ag|apply ae|refine z16 ?_|apply aa|refine z1 ?_|refine z3 ?_|fail)
 (refine b8 id (sign_fn s i) rfl rfl rfl rfl ⟨rfl,trivial⟩ rfl rfl rfl rfl rfl rfl ?_ ?_)
 ·rintro k2 r H2 ⟨rfl,rfl,rfl⟩
  exact⟨rfl,rfl⟩
 rintro k2 r H2 ⟨rfl,rfl,rfl⟩
 rw [dif_pos hi]
 change DS _ _ _ _ _ _ _ _
 have hl0:s.data.toList.length=s.size:=by simp
 have hla:=takeW_le ko (s.data.toList.drop i)
 have hld:=takeW_le ek (s.data.toList.drop i)
 rw [List.length_drop,hl0] at hla hld
 have hea:(s.extract i (i + fv ko (s.data.toList.drop i))).size=fv ko (s.data.toList.drop i):=by rw [ByteArray.size_extract];omega
 have hed:(s.extract i (i + fv ek (s.data.toList.drop i))).size=fv ek (s.data.toList.drop i):=by rw [ByteArray.size_extract];omega
 have cS:iu s[i]=true→(c8 (s.data.toList.drop i)).1=1∧(c8 (s.data.toList.drop i)).2=fv ko (s.data.toList.drop i):=by
  intro h
  rw [tok_letter s i hi (by unfold f8;simp [h]),if_pos h]
  exact⟨rfl,rfl⟩
 have cG:iu s[i]=false→ji s[i]=true→(c8 (s.data.toList.drop i)).1=2∧(c8 (s.data.toList.drop i)).2=fv ko (s.data.toList.drop i):=by
  intro h h2
  rw [tok_letter s i hi (by unfold f8;simp [h2]),if_neg (by rw [h];exact Bool.false_ne_true)]
  exact⟨rfl,rfl⟩
 have cD:iu s[i]=false→ji s[i]=false→ek s[i]=true→(c8 (s.data.toList.drop i)).1=3∧(c8 (s.data.toList.drop i)).2=fv ek (s.data.toList.drop i):=by
  intro h h2 h3
  rw [tok_digit s i hi (by unfold f8;simp [h,h2]) h3]
  exact⟨rfl,rfl⟩
 have cN:iu s[i]=false→ji s[i]=false→ek s[i]=false→c8 (s.data.toList.drop i)=if pairAt (s.extract i s.size) ≥ 0 then (4,2) else if signs.contains s[i] then (4,1) else (0,0):=by
  intro h h2 h3
  rw [tok_sign s i hi (by unfold f8;simp [h,h2]) h3,← pair_at s i hi]
  by_cases hp:pairAt (s.extract i s.size) ≥ 0
  ·rw [if_pos hp,if_pos (by simpa using hp)]
  ·rw [if_neg hp,if_neg (by simpa using hp)]
 have cX:iu s[i]=true→ji s[i]=true→False:=fun h h2=>by rw [small_great h] at h2;cases h2
 have cY:ji s[i]=true→ji s[i]=false→False:=fun h h2=>by rw [h] at h2;cases h2
 have hroom:=pair_room s i hi
 clear hl0
 repeat' (first|refine z0 ?_|refine z12 ?_|apply ag|apply ae|refine z16 ?_|apply ah|apply ai|refine z18 ?_|apply aa|refine z21 ?_ (hc:=by apply small_fn)|refine z21 ?_ (hc:=by apply great_fn)|refine z21 ?_ (hc:=by apply digit_fn)|refine z3 ?_|(apply c7;exact rfl;all_goals intro hg)|((fail_if_success (apply bk;exact rfl));apply jr;exact rfl;exact rfl;exact rfl;all_goals intro hg))
 all_goals first
  | ((refine b8 id (run_fn s i (by omega) hs _ ko alnum_fn) rfl rfl rfl rfl ⟨rfl,trivial⟩ rfl rfl rfl rfl rfl rfl ?_ ?_)
     ·rintro k2 r H2 ⟨rfl,rfl,rfl⟩
      exact⟨rfl,rfl⟩
     rintro k2 r H2 ⟨rfl,rfl,rfl⟩
     change DS _ _ _ _ _ _ _ _)
  | ((refine b8 id (run_fn s i (by omega) hs _ ek digit_fn) rfl rfl rfl rfl ⟨rfl,trivial⟩ rfl rfl rfl rfl rfl rfl ?_ ?_)
     ·rintro k2 r H2 ⟨rfl,rfl,rfl⟩
      exact⟨rfl,rfl⟩
     rintro k2 r H2 ⟨rfl,rfl,rfl⟩
     change DS _ _ _ _ _ _ _ _)
  | skip
 repeat' (first|refine z0 ?_|refine z12 ?_|apply ag|apply ae|refine z16 ?_|apply ai|apply aj|refine z19 ?_|apply aa|apply av|apply bg|apply br|refine z21 ?_ (hc:=by apply pairs_fn)|refine z3 ?_|(refine z23 ?_ ?_ <;> intro hg)|((fail_if_success (apply bk;exact rfl));apply bl;exact rfl;exact rfl;exact rfl;all_goals intro hg))
 all_goals first
  | (refine use2 cX ?_ ?_ False.elim;assumption;assumption)
  | (refine use2 cY ?_ ?_ False.elim;assumption;assumption)
  | (refine use1 cS ?_ ?_;assumption;rintro⟨t1,t2⟩
     refine⟨.inl rfl,_,rfl,1,scH s _,⟨rfl,trivial⟩,rfl,rfl,rfl,rfl,_,_,_,_,rfl,rfl,?_,?_⟩
     ·rw [t1,t2,errL _ _ _ (.inl rfl)]
      first|rw [if_pos (by omega)]|rw [if_neg (by omega)]
     ·intro he
      first|exact absurd he (by decide)|(rw [t1,t2];exact⟨rfl,rfl,rfl⟩))
  | (refine use2 cG ?_ ?_ ?_;assumption;assumption;rintro⟨t1,t2⟩
     refine⟨.inl rfl,_,rfl,1,scH s _,⟨rfl,trivial⟩,rfl,rfl,rfl,rfl,_,_,_,_,rfl,rfl,?_,?_⟩
     ·rw [t1,t2,errL _ _ _ (.inr rfl)]
      first|rw [if_pos (by omega)]|rw [if_neg (by omega)]
     ·intro he
      first|exact absurd he (by decide)|(rw [t1,t2];exact⟨rfl,rfl,rfl⟩))
  | (refine use3 cD ?_ ?_ ?_ ?_;assumption;assumption;assumption;rintro⟨t1,t2⟩
     refine⟨.inl rfl,_,rfl,1,scH s _,⟨rfl,trivial⟩,rfl,rfl,rfl,rfl,_,_,_,_,rfl,rfl,?_,?_⟩
     ·rw [t1,t2,errD]
      first|rw [if_pos (by omega)]|rw [if_neg (by omega),if_pos (by omega)]|rw [if_neg (by omega),if_neg (by omega)]
     ·intro he
      first|exact absurd he (by decide)|(rw [t1,t2];exact⟨rfl,rfl,rfl⟩))
  | skip
 have hT:=cN ‹_› ‹_› ‹_›
 (refine b8 id (containsFunc_fn s i (by omega)) rfl rfl rfl rfl ⟨rfl,rfl,trivial⟩ rfl rfl rfl rfl rfl rfl ?_ ?_)
 ·rintro k2 r H2 ⟨rfl,rfl⟩
  exact⟨rfl,rfl⟩
 rintro k2 r H2 ⟨rfl,rfl⟩
 change DS _ _ _ _ _ _ _ _
 repeat' (first|refine z0 ?_|apply ag|apply aa)
 refine cd rfl (fun hp=>?_) (fun hp=>?_)
 ·have hr:=hroom hp
  rw [if_pos hp] at hT
  repeat' (first|refine z0 ?_|apply ag|refine z5 ?_|refine z6 ?_|refine z10 ?_|apply ae|refine z16 ?_|refine z20 ?_|apply aj|apply aa|apply bg|refine z3 ?_|fail)
  refine⟨.inl rfl,_,rfl,1,scH s _,⟨rfl,trivial⟩,rfl,rfl,rfl,rfl,_,_,_,_,rfl,rfl,?_,?_⟩
  ·rw [hT,errP]
  ·intro he
   rw [hT]
   exact⟨rfl,rfl,rfl⟩
 ·rw [if_neg hp] at hT
  repeat' (first|refine z0 ?_|apply ag|apply ae|refine z16 ?_|apply aa|refine z21 ?_ (hc:=by apply indexByte_fn)|fail)
  have hidx:=idx_signs s[i]
  have hu:((s[i].toNat:Int).toNat.toUInt8)=s[i]:=by simp
  refine cd rfl (fun hq=>?_) (fun hq=>?_)
  ·rw [hu] at hq
   rw [decide_eq_true (by exact hq)] at hidx
   have hlow:=signs_low s[i] hidx.symm
   have hlow0:(0:Int)≤(s[i].toNat:Int):=by omega
   rw [if_pos hidx.symm] at hT
   have hone:(⟨#[s[i]]⟩:ByteArray)=s.extract i (i + 1):=by
    apply ByteArray.ext
    simp only [ByteArray.data_extract]
    apply Array.toList_inj.1
    rw [Array.toList_extract,List.extract_eq_take_drop,show i + 1 - i=1 by omega,drop_cons s i hi]
    rfl
   repeat' (first|refine z0 ?_|apply ag|apply ae|refine z16 ?_|apply aj|apply aa|apply bg|refine z3 ?_|fail)
   refine⟨.inl rfl,_,rfl,1,scH s _,⟨rfl,trivial⟩,rfl,rfl,rfl,rfl,_,_,_,_,rfl,rfl,?_,?_⟩
   ·rw [hT,errP]
   ·intro he
    rw [hT]
    exact⟨rfl,hone,rfl⟩
  ·rw [hu] at hq
   rw [decide_eq_false (by exact hq)] at hidx
   rw [if_neg (by rw [← hidx];exact Bool.false_ne_true)] at hT
   repeat' (first|refine z0 ?_|apply ag|apply ae|refine z16 ?_|apply aj|apply aa|apply av|apply br|refine z3 ?_|fail)
   refine⟨.inl rfl,_,rfl,1,scH s _,⟨rfl,trivial⟩,rfl,rfl,rfl,rfl,_,_,_,_,rfl,rfl,?_,?_⟩
   ·rw [hT]
    unfold er
    simp
   ·intro he
    exact absurd he (by decide)
def scanInv (s:ByteArray) (x:List Tok × Nat):Prop :=
 x.2≤s.size∧x.1.length≤x.2∧ct s false 0=(ct s false x.2).map (x.1++·) ∧
 ∀ h:x.2 < s.size,¬ (s[x.2].toNat:Int)=37∧¬ (s[x.2].toNat:Int)=32∧¬ (s[x.2].toNat:Int)=9∧¬ (s[x.2].toNat:Int)=10
set_option maxHeartbeats 8000000 in
theorem scan_fn (s:ByteArray):Fn 150 [.d (.str s)] (fun r=>r=encScan (scanS s)):=by
 refine ak _ Tryz.func150 rfl rfl (by kernel_rfl) ?_
 intro O w0 E0 β0
 repeat' (first|refine z0 ?_|apply ag|apply ae|refine z16 ?_|apply aa)
 refine cd rfl (fun hbig=>?_) (fun hbig=>?_)
 ·repeat' (first|refine z0 ?_|apply ag|apply ae|refine z16 ?_|apply aa)
  refine dw_nild 2 3 rfl ?_
  repeat' (first|apply aj|apply av)
  exact ret_3 rfl (by rw [scanS_big s (by omega)];exact⟨rfl,rfl,rfl⟩)
 ·repeat' (first|refine z0 ?_|apply ag|apply ae|refine z16 ?_|apply ai|apply aa|refine z1 ?_|fail)
  (refine b8 id (skip_fn s 0 (by omega) (by omega)) rfl rfl rfl rfl ⟨rfl,trivial⟩ rfl rfl rfl rfl rfl rfl ?_ ?_)
  ·rintro k2 r H2 ⟨rfl,rfl,j,_,_,_,_,rfl⟩
   exact⟨rfl,rfl⟩
  rintro k2 r H2 ⟨rfl,rfl,j0,g1,g2,g3,g4,rfl⟩
  change DS _ _ _ _ _ _ _ _
  repeat' (first|apply ag|apply ah|apply aa)
  refine dw_nilrow (t:=6) 209 3 rfl ?_
  refine bh (ι:=List Tok × Nat) (fun x=>⟨2,[(0,.d (.str s)),(5,.loc 0 0),(6,.row 1)],[(0,.blk 235 [.d (.str s),.d (.int .i64 x.2)]),(1,.row 209 3 (x.1.map encTok))]⟩)
   (scanInv s) (fun x=>s.size - x.2) ([],j0) ⟨g2,Nat.zero_le _,by rw [g3];cases ct s false j0 <;> rfl,g4⟩
   (ap id ⟨rfl,rfl,rfl,trivial⟩ ⟨rfl,rfl,trivial⟩ rfl rfl rfl rfl rfl rfl) ?_
  rintro⟨toks,i⟩ ⟨h1,h2,h3,h4⟩
  dsimp only at h1 h2 h3 h4 ⊢
  repeat' (first|refine z0 ?_|apply ag|apply ae|refine z16 ?_|apply aa)
  refine cd rfl (fun hlt=>?_) (fun hlt=>?_)
  ·have hlt':i < s.size:=by omega
   have h4':=h4 hlt'
   repeat' (first|refine z0 ?_|apply ae|refine z16 ?_|apply ah|apply ai|apply aa)
   (refine b8 id (token_fn s i hlt' (by omega)) rfl rfl rfl rfl ⟨rfl,trivial⟩ rfl rfl rfl rfl rfl rfl ?_ ?_)
   ·rintro k2 r H2 ⟨kd,e,tx,j,rfl,rfl,_,_⟩
    exact⟨rfl,rfl⟩
   rintro k2 r H2 ⟨kd,e,tx,j,rfl,rfl,he,hz⟩
   change DS _ _ _ _ _ _ _ _
   have hS:=tok_step s false i hlt' rfl h4'.1 h4'.2.1 h4'.2.2.1 h4'.2.2.2 _ rfl
   have hle:=tokAt_le (s.data.toList.drop i)
   have hpo:=tokAt_pos (s.data.toList.drop i)
   rw [List.length_drop,show s.data.toList.length=s.size by simp] at hle
   generalize c8 (s.data.toList.drop i)=q at hS hle hpo he hz
   obtain⟨kind,n⟩:=q
   dsimp only at hS hle hpo he hz
   rw [hS] at h3
   repeat' (first|refine z0 ?_|apply ag|apply ae|refine z16 ?_|apply aa|refine z1 ?_|refine z3 ?_|fail)
   refine cd rfl (fun hne=>?_) (fun hne=>?_)
   ·repeat' (first|refine z5 ?_|refine z10 ?_|apply ae|refine z20 ?_|apply aa)
    refine dw_nild 2 3 rfl ?_
    repeat' (first|apply aj|apply av|apply br)
    refine ret_3 rfl ?_
    have:=scanS_err s (by omega) i e (by rw [h3,if_neg (by rw [← he];exact hne),← he];rfl)
    rw [this]
    exact⟨rfl,rfl,rfl⟩
   ·have he0:e=0:=Decidable.not_not.1 hne
    obtain⟨z1,z2,z3⟩:=hz he0
    rw [if_pos (by rw [← he];exact he0)] at h3
    have hn1:=hpo (by intro hk;rw [hk] at he;unfold er at he;simp at he;omega)
    subst z1;subst z2;subst z3
    repeat' (first|refine z0 ?_|apply ag|refine z16 ?_|apply ai|apply aa|apply bg|refine z4 ?_|refine z2 ?_|fail)
    (refine b8 id (skip_fn s (i + n) (by omega) (by omega)) rfl rfl rfl rfl ⟨rfl,trivial⟩ rfl rfl rfl rfl rfl rfl ?_ ?_)
    ·rintro k2 r H2 ⟨rfl,rfl,j,_,_,_,_,rfl⟩
     exact⟨rfl,rfl⟩
    rintro k2 r H2 ⟨rfl,rfl,j,q1,q2,q3,q4,rfl⟩
    change DS _ _ _ _ _ _ _ _
    repeat' (first|apply ag|apply aa)
    refine⟨(toks++[⟨kd,i,s.extract i (i + n)⟩],j),⟨?_,?_,?_,q4⟩,?_,?_⟩
    ·exact q2
    ·show (toks++[_]).length≤j
     rw [List.length_append]
     show _ + 1≤_
     omega
    ·show ct s false 0=_
     rw [h3,map_map,q3]
     simp only [List.append_assoc,List.singleton_append]
    ·dsimp only
     rw [List.map_append]
     exact ap (fun i=>match i with|0=>0|_=>3) ⟨rfl,rfl,rfl,trivial⟩ ⟨rfl,rfl,trivial⟩ rfl rfl rfl rfl rfl rfl
    ·show s.size - j < s.size - i;omega
  ·repeat' (first|refine z0 ?_|apply ag|apply ae|refine z16 ?_|apply au|apply aa|apply aq|refine z17 ?_|fail)
   refine dw_seal 2 rfl rfl ?_
   repeat' (apply aj)
   refine ret_3 rfl ?_
   rw [scanS_ok s (by omega) toks (by rw [h3,scanAt_end s false i (by omega)];exact congrArg Except.ok (List.append_nil _))]
   exact⟨rfl,rfl,rfl⟩
def oneS (kind:Int) (s:ByteArray):Bool:=match scanS s with
 | ([t],_,e)=>decide (e=0) && (decide (t.kind=kind) && decide (t.text=s))
 | _=>false
set_option maxHeartbeats 8000000 in
theorem one_fn (kind:Int) (s:ByteArray):Fn 138 [.d (.int .i64 kind),.d (.str s)] (fun r=>r = .d (.bool (oneS kind s))):=by
 refine ak _ Tryz.func138 rfl rfl (by kernel_rfl) ?_
 intro O w0 E0 β0
 have hsc:=scan_fn s
 unfold oneS
 generalize scanS s=q at hsc ⊢
 obtain⟨l,p,e⟩:=q
 unfold encScan encToks at hsc
 dsimp only at hsc
 rcases l with _|⟨t,_|⟨t',l⟩⟩
 ·repeat' (first|refine z0 ?_|refine z12 ?_|apply ag|apply ae|refine z16 ?_|apply aj|apply aa|refine z21 ?_ (hc:=by apply hsc)|((fail_if_success (apply bk;exact rfl));apply bl;exact rfl;exact rfl;exact rfl;all_goals intro hg))
  all_goals exact cm rfl (by simp)
 ·repeat' (first|refine z0 ?_|refine z12 ?_|apply ag|apply ae|refine z16 ?_|apply aj|apply aa|refine z21 ?_ (hc:=by apply hsc)|((fail_if_success (apply bk;exact rfl));apply bl;exact rfl;exact rfl;exact rfl;all_goals intro hg))
  all_goals exact cm rfl (by simp_all)
 ·repeat' (first|refine z0 ?_|refine z12 ?_|apply ag|apply ae|refine z16 ?_|apply aj|apply aa|refine z21 ?_ (hc:=by apply hsc)|((fail_if_success (apply bk;exact rfl));apply bl;exact rfl;exact rfl;exact rfl;all_goals intro hg))
  all_goals first
   | exact cm rfl (by simp_all)
   | (rename_i h;exfalso;revert h;simp;done)
   | (exfalso;simp at *;done)
   | (exfalso;simp at *;omega)
def eqS (x y:ByteArray):Bool:=decide (y=x)
def eqB (x y:Bool):Bool:=y == x
abbrev elS (s:ByteArray):SV:=.d (.str s)
abbrev elB (b:Bool):SV:=.d (.bool b)
set_option maxHeartbeats 8000000 in
theorem indexS_fn (y:ByteArray) (l:List (ByteArray)):Fn 116 [.d (.slice 1 (l.map encT)),elS y] (fun r=>r = .d (.int .i64 (idxF (fun x=>eqS x y) l))):=by
 refine ak _ Tryz.func116 rfl rfl (by kernel_rfl) ?_
 intro O w0 E0 β0
 refine cp (t:=0) rfl fun hb=>?_
 repeat' (first|refine z0 ?_|apply ag|apply ae|refine z16 ?_|apply ah|apply aa)
 refine bh (ι:=Nat) (fun i=>⟨0,[(0,.d (.slice 1 (l.map encT))),(1,.d (.str y)),(7,.d (.int .i64 l.length)),(8,.d (.int .i64 i))],[]⟩)
  (fun i=>i≤l.length∧∀ j (hj:j < l.length),j < i→eqS l[j] y=false) (fun i=>l.length - i) 0 ⟨Nat.zero_le _,fun j _ h=>absurd h (Nat.not_lt_zero j)⟩
  (ap id ⟨rfl,rfl,by simp;rfl,rfl,trivial⟩ trivial rfl rfl rfl rfl rfl rfl) ?_
 rintro i ⟨h1,h2⟩
 repeat' (first|refine z0 ?_|apply ag|apply ae|refine z16 ?_|apply aa)
 refine cd rfl (fun h=>?_) (fun h=>?_)
 ·have hi:i < l.length:=by omega
  repeat' (first|refine z0 ?_|apply ag|apply ae|refine z16 ?_|apply ah|apply ai|apply aa)
  refine c7 rfl (fun hb=>?_) (fun hb=>?_)
  ·repeat' (first|refine z0 ?_|apply ag|apply ae|refine z16 ?_|apply aj|apply aa|apply av|apply br)
   exact cg rfl (jh (p:=fun x=>eqS x y) h2 hi (id hb)).symm
  ·repeat' (first|refine z0 ?_|apply ag|refine z16 ?_|apply ai|apply aa|apply bg)
   exact⟨i + 1,⟨hi,i5 (p:=fun x=>eqS x y) h2 hi (id hb)⟩,ap id ⟨rfl,rfl,rfl,rfl,trivial⟩ trivial rfl rfl rfl rfl rfl rfl,by omega⟩
 ·repeat' (first|refine z0 ?_|apply ag|apply ae|refine z16 ?_|apply au|apply aj|apply aa|apply aq|refine z17 ?_|fail)
  exact cg rfl (i6 fun j hj=>h2 j hj (by omega)).symm
set_option maxHeartbeats 8000000 in
theorem indexB_fn (y:Bool) (l:List (Bool)):Fn 118 [.d (.slice 1 (l.map mc)),elB y] (fun r=>r = .d (.int .i64 (idxF (fun x=>eqB x y) l))):=by
 refine ak _ Tryz.func118 rfl rfl (by kernel_rfl) ?_
 intro O w0 E0 β0
 refine cp (t:=0) rfl fun hb=>?_
 repeat' (first|refine z0 ?_|apply ag|apply ae|refine z16 ?_|apply ah|apply aa)
 refine bh (ι:=Nat) (fun i=>⟨0,[(0,.d (.slice 1 (l.map mc))),(1,.d (.bool y)),(7,.d (.int .i64 l.length)),(8,.d (.int .i64 i))],[]⟩)
  (fun i=>i≤l.length∧∀ j (hj:j < l.length),j < i→eqB l[j] y=false) (fun i=>l.length - i) 0 ⟨Nat.zero_le _,fun j _ h=>absurd h (Nat.not_lt_zero j)⟩
  (ap id ⟨rfl,rfl,by simp;rfl,rfl,trivial⟩ trivial rfl rfl rfl rfl rfl rfl) ?_
 rintro i ⟨h1,h2⟩
 repeat' (first|refine z0 ?_|apply ag|apply ae|refine z16 ?_|apply aa)
 refine cd rfl (fun h=>?_) (fun h=>?_)
 ·have hi:i < l.length:=by omega
  repeat' (first|refine z0 ?_|apply ag|apply ae|refine z16 ?_|apply ah|apply ai|apply aa)
  refine c7 rfl (fun hb=>?_) (fun hb=>?_)
  ·repeat' (first|refine z0 ?_|apply ag|apply ae|refine z16 ?_|apply aj|apply aa|apply av|apply br)
   exact cg rfl (jh (p:=fun x=>eqB x y) h2 hi (id hb)).symm
  ·repeat' (first|refine z0 ?_|apply ag|refine z16 ?_|apply ai|apply aa|apply bg)
   exact⟨i + 1,⟨hi,i5 (p:=fun x=>eqB x y) h2 hi (id hb)⟩,ap id ⟨rfl,rfl,rfl,rfl,trivial⟩ trivial rfl rfl rfl rfl rfl rfl,by omega⟩
 ·repeat' (first|refine z0 ?_|apply ag|apply ae|refine z16 ?_|apply au|apply aj|apply aa|apply aq|refine z17 ?_|fail)
  exact cg rfl (i6 fun j hj=>h2 j hj (by omega)).symm
set_option maxHeartbeats 8000000 in
theorem containsS_fn (y:ByteArray) (l:List ByteArray):Fn 84 [.d (.slice 1 (l.map encT)),.d (.str y)] (fun r=>r = .d (.bool (l.any fun x=>eqS x y))):=by
 refine ak _ Tryz.func84 rfl rfl (by kernel_rfl) ?_
 intro O w0 E0 β0
 have hx:=indexS_fn y l
 repeat' (first|refine z0 ?_|apply ag|apply ae|refine z16 ?_|apply aj|apply aa|refine z21 ?_ (hc:=by apply hx)|fail)
 exact cm rfl (idxF_any _ l)
set_option maxHeartbeats 8000000 in
theorem containsB_fn (y:Bool) (l:List Bool):Fn 87 [.d (.slice 1 (l.map mc)),.d (.bool y)] (fun r=>r = .d (.bool (l.any fun x=>eqB x y))):=by
 refine ak _ Tryz.func87 rfl rfl (by kernel_rfl) ?_
 intro O w0 E0 β0
 have hx:=indexB_fn y l
 repeat' (first|refine z0 ?_|apply ag|apply ae|refine z16 ?_|apply aj|apply aa|refine z21 ?_ (hc:=by apply hx)|fail)
 exact cm rfl (idxF_any _ l)
def wordsL:List ByteArray:=[⟨#[110,111,116]⟩,⟨#[99,111,117,110,116]⟩,⟨#[115,117,109]⟩,⟨#[108,101,97,115,116]⟩,⟨#[109,111,115,116]⟩]
def wordB (s:ByteArray):Bool:=wordsL.any fun x=>eqS x s
def nameS (s:ByteArray):Bool:=oneS 1 s && !wordB s
set_option maxHeartbeats 8000000 in
theorem words_fn:Fn 115 [] (fun r=>r = .d (.slice 1 (wordsL.map encT))):=by
 refine ak _ Tryz.func115 rfl rfl (by kernel_rfl) ?_
 intro O w0 E0 β0
 repeat' (first|refine z0 ?_|apply ag|apply ae|refine z16 ?_|apply aj|apply aa|refine z4 ?_|fail)
 exact⟨.inl rfl,_,rfl,rfl,rfl⟩
set_option maxHeartbeats 8000000 in
theorem tokenName_fn (s:ByteArray):Fn 114 [.d (.str s)] (fun r=>r = .d (.bool (oneS 1 s))):=by
 refine ak _ Tryz.func114 rfl rfl (by kernel_rfl) ?_
 intro O w0 E0 β0
 repeat' (first|refine z0 ?_|apply ag|apply ae|refine z16 ?_|apply aj|apply aa|refine z21 ?_ (hc:=by apply one_fn)|fail)
 exact cm rfl rfl
set_option maxHeartbeats 8000000 in
theorem treeName_fn (s:ByteArray):Fn 83 [.d (.str s)] (fun r=>r = .d (.bool (nameS s))):=by
 refine ak _ Tryz.func83 rfl rfl (by kernel_rfl) ?_
 intro O w0 E0 β0
 have h1:=containsS_fn s wordsL
 have h2:=tokenName_fn s
 unfold nameS wordB
 repeat' (first|refine z0 ?_|refine z12 ?_|apply ag|apply ae|refine z16 ?_|apply aj|apply aa|refine z21 ?_ (hc:=by apply h1)|refine z21 ?_ (hc:=by apply h2)|refine z21 ?_ (hc:=by apply words_fn)|((fail_if_success (apply bk;exact rfl));apply jr;exact rfl;exact rfl;exact rfl;all_goals intro hg))
 all_goals exact cm rfl (by simp_all)
set_option maxHeartbeats 8000000 in
theorem preds_fn (p:Prg) (hl:p.names.length=p.arity.length):Fn 40 [jl p] (fun r=>r = .d (.int .i64 (firstI (nameE nameS p) 0 p.names.length))):=by
 refine ak _ Tryz.func40 rfl rfl (by kernel_rfl) ?_
 intro O w0 E0 β0
 have la:(p.arity.map bi).length=p.arity.length:=List.length_map _
 have lb:(p.names.map encT).length=p.names.length:=List.length_map _
 refine dw_lenA 0 1 rfl rfl (fun hk=>?_)
 repeat' (first|refine z0 ?_|apply ag|apply ae|refine z16 ?_|apply ah|apply aa|refine z1 ?_|fail)
 refine bh (ι:=Nat) (fun i=>⟨1,[(1,.loc 0 0),(2,.d (.int .i64 0)),(6,.d (.slice 1 (p.names.map encT))),(7,.d (.int .i64 (p.names.map encT).length)),(8,.d (.int .i64 i))],[(0,.blk 26 [.d (.slice 1 (p.arity.map bi)),.d (.slice 1 (p.names.map encT)),.d (.slice 5 (p.rules.map dx))])]⟩)
  (fun i=>i≤p.names.length∧firstI (nameE nameS p) 0 p.names.length=firstI (nameE nameS p) i (p.names.length - i)) (fun i=>p.names.length - i) 0 ⟨Nat.zero_le _,rfl⟩ (ap id ⟨rfl,rfl,rfl,rfl,rfl,trivial⟩ ⟨rfl,trivial⟩ rfl rfl rfl rfl rfl rfl) ?_
 rintro i ⟨g1,g2⟩
 by_cases hi:i < p.names.length
 ·have ha:p.arity.getD i 0=p.arity[i]'(by omega):=by rw [List.getD,List.getElem?_eq_getElem (by omega)];rfl
  have hn:p.names.getD i ⟨#[]⟩=p.names[i]:=by rw [List.getD,List.getElem?_eq_getElem hi];rfl
  rw [firstI_step hi,show nameE nameS p i=if inR (p.arity.getD i 0) 0 3=false then 3 else if nameS (p.names.getD i ⟨#[]⟩)=false then 1 else if (p.names.take i).any (fun s=>decide (s=p.names.getD i ⟨#[]⟩)) then 6 else 0 from rfl,ha,hn] at g2
  have hc:=containsS_fn p.names[i] (p.names.take i)
  have hq:(p.names.take i).any (fun s=>decide (s=p.names[i]))=(p.names.take i).any (fun x=>eqS x p.names[i]):=by
   congr 1
   funext x
   unfold eqS
   exact decide_eq_decide.2 eq_comm
  rw [hq] at g2
  generalize (p.names.take i).any (fun x=>eqS x p.names[i])=bc at g2 hc
  repeat' (first|(apply ds_slD;exact rfl;exact rfl;exact rfl;exact rfl;exact rfl;exact rfl;(refine⟨?_,?_,?_⟩ <;> (omega));((with_reducible apply hv_take);(exact rfl));exact rfl;exact rfl)|refine z0 ?_|apply ag|apply ae|refine z16 ?_|apply ah|apply ai|apply au|apply aj|apply aa|apply aq|apply av|apply bg|apply br|refine z17 ?_|refine z21 ?_ (hc:=by apply fb)|refine z21 ?_ (hc:=by apply treeName_fn)|refine z21 ?_ (hc:=by apply hc)|(refine z23 ?_ ?_ <;> intro hg)|(apply c7;exact rfl;all_goals intro hg))
  all_goals first
   | exact absurd hg (by omega)
   | exact cg rfl (by rw [g2];simp_all)
   | exact⟨i + 1,⟨by omega,by rw [g2];simp_all⟩,ap id ⟨rfl,rfl,rfl,rfl,rfl,trivial⟩ ⟨rfl,trivial⟩ rfl rfl rfl rfl rfl rfl,by show p.names.length - (i + 1) < p.names.length - i;omega⟩
 ·rw [firstI_end (by omega)] at g2
  repeat' (first|(apply ds_slD;exact rfl;exact rfl;exact rfl;exact rfl;exact rfl;exact rfl;(refine⟨?_,?_,?_⟩ <;> (omega));((with_reducible apply hv_take);(exact rfl));exact rfl;exact rfl)|refine z0 ?_|apply ag|apply ae|refine z16 ?_|apply ah|apply ai|apply au|apply aj|apply aa|apply aq|apply av|apply br|refine z17 ?_|refine z21 ?_ (hc:=by apply fb)|refine z21 ?_ (hc:=by apply treeName_fn)|(refine z23 ?_ ?_ <;> intro hg)|(apply c7;exact rfl;all_goals intro hg))
  all_goals first
   | exact absurd hg (by omega)
   | exact cg rfl g2.symm
abbrev FnW (f:FuncId) (args:List SV) (J k:Nat) (H:Hp) (R:Nat→SV→Hp→Prop):Prop:=FnOk false Tryz.prog tab cn f args J k H R
abbrev bsH (bs:List Bool):Hp:=[(0,.blk 133 [.row 1]),(1,.row 4 1 (bs.map mc))]
theorem isT_pos {bs:List Bool} {t:Trm} (h:t.var < 0):isT bs t=true:=by unfold isT;rw [decide_eq_true h];rfl
theorem isT_neg {bs:List Bool} {t:Trm} (h:¬ t.var < 0) (h2:t.var < (bs.length:Int)):isT bs t=bs[t.var.toNat]'(by omega):=by
 unfold isT
 rw [decide_eq_false h,Bool.false_or,List.getD,List.getElem?_eq_getElem (by omega)];rfl
set_option maxHeartbeats 8000000 in
theorem isFn (bs:List Bool) (t:Trm) (hok:okT bs.length t):FnW 119 [elTrm t,.loc 0 0] 1 2 (bsH bs) (fun k2 res H2=>k2=2∧res = .d (.bool (isT bs t))∧H2=bsH bs):=by
 refine co _ Tryz.func119 rfl rfl (by kernel_rfl) ?_
 intro O w0 E0 β0
 have la:(bs.map mc).length=bs.length:=List.length_map _
 unfold okT at hok
 by_cases hneg:t.var < 0
 ·rw [isT_pos hneg]
  repeat' (first|refine z0 ?_|refine z12 ?_|apply ag|apply ae|refine z16 ?_|apply aj|apply aa|refine z1 ?_|((fail_if_success (apply bk;exact rfl));apply bl;exact rfl;exact rfl;exact rfl;all_goals intro hg))
  ·exact⟨.inl rfl,_,rfl,id,2,.d (.bool true),bsH bs,rfl,⟨rfl,rfl,trivial⟩,rfl,rfl,rfl,rfl,rfl,rfl,rfl,rfl,rfl⟩
  all_goals exact absurd hneg hg
 ·rw [isT_neg hneg hok]
  repeat' (first|refine z0 ?_|refine z12 ?_|apply ag|apply ae|refine z16 ?_|apply aj|apply aa|refine z1 ?_|((fail_if_success (apply bk;exact rfl));apply bl;exact rfl;exact rfl;exact rfl;all_goals intro hg))
  ·exact absurd hg hneg
  all_goals exact⟨.inl rfl,_,rfl,id,2,.d (.bool _),bsH bs,rfl,⟨rfl,rfl,trivial⟩,rfl,rfl,rfl,rfl,rfl,rfl,rfl,rfl,rfl⟩
def Fl (b0 bs:List Bool) (ch:Bool):Prop:=bs.length=b0.length∧bs.count false≤b0.count false∧(ch=false→bs=b0)∧(ch=true→bs.count false < b0.count false)
theorem Fl.refl (b0:List Bool):Fl b0 b0 false:=⟨rfl,Nat.le_refl _,fun _=>rfl,fun h=>by cases h⟩
theorem count_set:∀ {bs:List Bool} {i:Nat} (_:i < bs.length),bs[i]? = some false→(bs.set i true).count false + 1=bs.count false
 | [],_,h,_=>by simp at h
 | b::bs,0,_,hb=>by simp at hb;subst hb;simp
 | b::bs,i + 1,h,hb=>by
  have:=count_set (bs:=bs) (i:=i) (by simpa using h) (by simpa using hb)
  rw [List.set_cons_succ,List.count_cons,List.count_cons]
  omega
theorem setT_count {bs:List Bool} {t:Trm} (hok:okT bs.length t) (h:isT bs t=false):(ki bs t).count false + 1=bs.count false∧¬ t.var < 0:=by
 have hn:¬ t.var < 0:=fun hn=>by rw [isT_pos hn] at h;cases h
 unfold okT at hok
 rw [isT_neg hn hok] at h
 unfold ki
 rw [if_neg hn]
 exact⟨count_set (by omega) (by rw [List.getElem?_eq_getElem (by omega),h]),hn⟩
theorem Fl.step {b0 bs:List Bool} {ch:Bool} {t:Trm} (h:Fl b0 bs ch) (hok:okT bs.length t):Fl b0 (ki bs t) (ch || !isT bs t):=by
 obtain⟨h1,h2,h3,h4⟩:=h
 cases ht:isT bs t with
 | true=>rw [setT_same ht,Bool.not_true,Bool.or_false];exact⟨h1,h2,h3,h4⟩
 | false =>
  obtain⟨g1,_⟩:=setT_count hok ht
  rw [Bool.not_false,Bool.or_true]
  exact⟨by rw [setT_len,h1],by omega,fun h=>by (cases h),fun _=>by omega⟩
abbrev ruleB (r:Rul):HB:=.blk 77 [.d (.int .i64 r.pred),.d (.slice 2 (r.terms.map bw)),.d (.int .i64 r.fold),.d (.slice 4 (r.body.map bt)),.d (.int .i64 r.vars)]
abbrev bndH (r:Rul) (bs:List Bool):Hp:=[(0,ruleB r),(1,.row 4 1 (bs.map mc)),(2,.blk 133 [.row 1])]
abbrev bndL (ch:Bool):Sl:=[(1,.loc 0 0),(2,.nils),(3,.loc 2 0),(4,.fn 119 [.loc 2 0]),(5,.d (.bool ch))]
theorem fires4 {bs:List Bool} {l:Ltl} (k1:¬ l.kind=1) (k4:l.kind=4) (h:l.terms.length=3):cy bs l=(isT bs (l.terms[0]'(by omega)) && isT bs (l.terms[1]'(by omega))):=by
 unfold cy
 rw [decide_eq_false k1,decide_eq_true k4]
 obtain⟨kind,op,pred,terms⟩:=l
 dsimp only at h ⊢
 match terms,h with
 | [a,b,c],_=>simp
theorem litTs_sub {l:Ltl} {t:Trm} (h:t∈dz l):t∈l.terms:=by
 unfold dz at h
 split at h
 ·exact h
 ·exact List.mem_of_mem_drop h
theorem foldl_take {α β:Type} (f:β→α→β) (b:β) {l:List α} {i:Nat} (h:i < l.length):(l.take (i + 1)).foldl f b=f ((l.take i).foldl f b) l[i]:=by
 rw [List.take_succ_eq_append_getElem h,List.foldl_append];rfl
theorem bLits_len:∀ (l:List Ltl) (bs:List Bool),(l.foldl bLit bs).length=bs.length:=bRound_len
set_option maxHeartbeats 8000000 in
theorem bound_fn (r:Rul) (h0:0≤r.vars) (h8:r.vars≤8) (hok:∀ l∈r.body,∀ t∈l.terms,okT r.vars.toNat t) (h3:∀ l∈r.body,l.kind=4→l.terms.length=3) :
  Fn 88 [elRul r] (fun res=>res = .d (.slice 1 ((boundL r).map mc))):=by
 refine ak _ Tryz.func88 rfl rfl (by kernel_rfl) ?_
 intro O w0 E0 β0
 have lb:(r.body.map bt).length=r.body.length:=List.length_map _
 refine dw_lenA 0 3 rfl rfl (fun hk=>?_)
 repeat' (first|refine z0 ?_|apply ag|apply ae|refine z16 ?_|apply aa|refine z1 ?_|fail)
 refine ds_mk ((List.replicate r.vars.toNat false).map mc) rfl rfl (Int.toNat_of_nonneg h0).symm rfl rfl rfl rfl rfl rfl (by show 1 * _≤_;omega) (by unfold maxLen;omega) (by rw [List.map_replicate];rfl) rfl rfl ?_
 repeat' (first|refine z0 ?_|apply ag|apply ae|refine z16 ?_|apply ah|apply aa|refine z1 ?_|refine z3 ?_|fail)
 refine bh (ι:=Bool × List Bool × Nat) (fun x=>⟨3,bndL x.1,bndH r x.2.1⟩)
  (fun x=>x.2.1=fm r.body x.2.2 (List.replicate r.vars.toNat false)∧(x.1=false→gy r.body x.2.1=x.2.1)) (fun x=>2 * x.2.1.count false + (if x.1 then 1 else 0))
  (true,List.replicate r.vars.toNat false,0) ⟨rfl,fun h=>by cases h⟩ (ap id ⟨rfl,rfl,rfl,rfl,rfl,trivial⟩ ⟨rfl,rfl,rfl,trivial⟩ rfl rfl rfl rfl rfl rfl) ?_
 rintro⟨ch,b0,m⟩ ⟨g1,g2⟩
 dsimp only at g1 g2 ⊢
 have hlen:b0.length=r.vars.toNat:=by rw [g1,bIter_len,List.length_replicate]
 cases ch with
 | false =>
  repeat' (first|refine z0 ?_|apply ag|apply ae|refine z16 ?_|apply au|refine z19 ?_|apply aa|apply aq|refine z17 ?_|fail)
  refine ba (dp 2 rfl rfl rfl) ?_
  repeat' (apply aj)
  have hb:b0=boundL r:=by
   rw [g1]
   exact rest_is (fun l hl t ht=>hok l hl t (litTs_sub ht)) (g1▸g2 rfl)
  rw [← hb]
  exact⟨.inl rfl,_,rfl,rfl,rfl⟩
 | true =>
  repeat' (first|refine z0 ?_|apply ag|apply ae|refine z16 ?_|apply ah|apply ai|refine z18 ?_|apply aa)
  refine bh (ι:=Nat × List Bool × Bool) (fun x=>⟨3,(17,.d (.slice 4 (r.body.map bt)))::(18,.d (.int .i64 (r.body.map bt).length))::(19,.d (.int .i64 x.1))::bndL x.2.2,bndH r x.2.1⟩)
   (fun x=>x.1≤r.body.length∧x.2.1=(r.body.take x.1).foldl bLit b0∧Fl b0 x.2.1 x.2.2) (fun x=>r.body.length - x.1)
   (0,b0,false) ⟨Nat.zero_le _,rfl,Fl.refl b0⟩ (ap id ⟨rfl,rfl,rfl,rfl,rfl,rfl,rfl,rfl,trivial⟩ ⟨rfl,rfl,rfl,trivial⟩ rfl rfl rfl rfl rfl rfl) ?_
  rintro⟨i,bs,ch⟩ ⟨f1,f2,f3⟩
  dsimp only at f1 f2 f3 ⊢
  have hbl:bs.length=r.vars.toNat:=by rw [f2,bLits_len,hlen]
  by_cases hi:i < r.body.length
  ·have hlok:=hok r.body[i] (List.getElem_mem hi)
   have h3':=h3 r.body[i] (List.getElem_mem hi)
   have hf:bLit bs r.body[i]=(r.body.take (i + 1)).foldl bLit b0:=by rw [foldl_take bLit b0 hi,← f2]
   repeat' ((fail_if_success (apply dw_stop 4));(first|refine z0 ?_|apply ag|apply ae|refine z16 ?_|apply ah|apply ai|apply au|apply aa|apply aq|apply bg|refine z17 ?_|refine z1 ?_|refine z3 ?_|(refine z23 ?_ ?_ <;> intro hg)|fail))
   ·generalize r.body[i]=l at hlok h3' hf ⊢
    refine dw_cut (ι:=List Trm) (fun ts=>⟨4,(8,.d (.slice 2 (ts.map bw)))::(17,.d (.slice 4 (r.body.map bt)))::(18,.d (.int .i64 (r.body.map bt).length))::(19,.d (.int .i64 i))::bndL ch,bndH r bs⟩) (fun ts=>ts=if cy bs l then dz l else []) ?_ ?_
    ·have ll:(l.terms.map bw).length=l.terms.length:=List.length_map _
     by_cases k1:l.kind=1
     ·repeat' (first|refine z0 ?_|refine z12 ?_|apply ag|apply ae|refine z16 ?_|apply ah|apply ai|refine z19 ?_|apply aa|apply bg|(refine z23 ?_ ?_ <;> intro hg)|((fail_if_success (apply bk;exact rfl));apply bl;exact rfl;exact rfl;exact rfl;all_goals intro hg))
      ·exact⟨l.terms,by unfold cy dz;simp [k1],ap id ⟨rfl,rfl,rfl,rfl,rfl,rfl,rfl,rfl,rfl,trivial⟩ ⟨rfl,rfl,rfl,trivial⟩ rfl rfl rfl rfl rfl rfl⟩
      all_goals (exfalso;omega)
     ·by_cases k4:l.kind=4
      ·have h3l:=h3' k4
       have hlok':∀ t∈l.terms,okT bs.length t:=by rw [hbl];exact hlok
       have hf4:=fires4 (bs:=bs) k1 k4 h3l
       have hl4:dz l=l.terms.drop 2:=by unfold dz;rw [if_neg k1]
       repeat' (first|refine z0 ?_|refine z12 ?_|apply ag|apply ae|refine z16 ?_|apply ah|apply ai|refine z19 ?_|apply aa|apply bg|(refine z23 ?_ ?_ <;> intro hg)|((fail_if_success (apply bk;exact rfl));apply bl;exact rfl;exact rfl;exact rfl;all_goals intro hg))
       all_goals try (exfalso;omega)
       refine ds_callVF (fun j=>match j with|0=>2|_=>1) (isFn bs (l.terms[0]'(by omega)) (hlok' _ (List.getElem_mem _))) rfl rfl rfl rfl rfl rfl ⟨rfl,rfl,trivial⟩ rfl rfl rfl rfl rfl rfl ?_ ?_
       ·rintro k2 res H2 ⟨rfl,rfl,rfl⟩
        exact⟨rfl,rfl⟩
       rintro k2 res H2 ⟨rfl,rfl,rfl⟩
       change DS _ _ _ _ _ _ _ _
       rw [hf4]
       generalize isT bs (l.terms[0]'(by omega))=q0
       cases q0 with
       | false =>
        repeat' (first|refine z0 ?_|refine z12 ?_|apply ag|apply ai|refine z19 ?_|apply aa|apply bg)
        all_goals exact⟨[],rfl,kz (cr 8 2 rfl) (ap (fun j=>match j with|0=>0|1=>5|j=>j) ⟨rfl,rfl,rfl,rfl,rfl,rfl,rfl,rfl,rfl,trivial⟩ ⟨rfl,rfl,rfl,trivial⟩ rfl rfl rfl rfl rfl rfl)⟩
       | true =>
        repeat' refine z0 ?_
        refine ds_callVF (fun j=>match j with|0=>2|_=>5) (isFn bs (l.terms[1]'(by omega)) (hlok' _ (List.getElem_mem _))) rfl rfl rfl rfl rfl rfl ⟨rfl,rfl,trivial⟩ rfl rfl rfl rfl rfl rfl ?_ ?_
        ·rintro k2 res H2 ⟨rfl,rfl,rfl⟩
         exact⟨rfl,rfl⟩
        rintro k2 res H2 ⟨rfl,rfl,rfl⟩
        change DS _ _ _ _ _ _ _ _
        generalize isT bs (l.terms[1]'(by omega))=q1
        cases q1 with
        | false =>
         repeat' (first|refine z0 ?_|apply ag|apply ai|refine z19 ?_|apply aa|apply bg)
         all_goals exact⟨[],rfl,kz (cr 8 2 rfl) (ap (fun j=>match j with|0=>0|1=>7|j=>j) ⟨rfl,rfl,rfl,rfl,rfl,rfl,rfl,rfl,rfl,trivial⟩ ⟨rfl,rfl,rfl,trivial⟩ rfl rfl rfl rfl rfl rfl)⟩
        | true =>
         repeat' (first|(apply ds_slD;exact rfl;exact rfl;exact rfl;exact rfl;exact rfl;exact rfl;(refine⟨?_,?_,?_⟩ <;> (omega));((with_reducible apply hv_drop);(exact dn _));exact rfl;exact rfl)|refine z0 ?_|apply ag|refine z16 ?_|refine z18 ?_|apply aa|apply bg)
         all_goals exact⟨(l.terms.take (l.terms.map bw).length).drop 2,by rw [List.take_of_length_le (by omega),hl4];rfl,ap (fun j=>match j with|0=>0|1=>7|j=>j) ⟨rfl,rfl,rfl,rfl,rfl,rfl,rfl,rfl,rfl,trivial⟩ ⟨rfl,rfl,rfl,trivial⟩ rfl rfl rfl rfl rfl rfl⟩
      ·have hf5:cy bs l=false:=by unfold cy;rw [decide_eq_false k1,decide_eq_false k4];rfl
       repeat' (first|refine z0 ?_|refine z12 ?_|apply ag|apply ae|refine z16 ?_|apply ah|apply ai|refine z19 ?_|apply aa|apply bg|(refine z23 ?_ ?_ <;> intro hg)|((fail_if_success (apply bk;exact rfl));apply bl;exact rfl;exact rfl;exact rfl;all_goals intro hg))
       all_goals first
        | exact absurd hg k1
        | exact absurd hg k4
        | exact⟨[],by rw [hf5];rfl,kz (cr 8 2 rfl) (ap id ⟨rfl,rfl,rfl,rfl,rfl,rfl,rfl,rfl,rfl,trivial⟩ ⟨rfl,rfl,rfl,trivial⟩ rfl rfl rfl rfl rfl rfl)⟩
    ·rintro ts hts
     have hbs:ts.foldl ki bs=(r.body.take (i + 1)).foldl bLit b0:=by
      rw [← hf,hts]
      unfold bLit
      split <;> rfl
     have htok:∀ t∈ts,okT bs.length t:=by
      intro t ht
      rw [hbl]
      rw [hts] at ht
      split at ht
      ·exact hlok t (litTs_sub ht)
      ·simp at ht
     clear hts
     have lt:(ts.map bw).length=ts.length:=List.length_map _
     refine dw_len (t:=8) rfl (fun hkt=>?_)
     repeat' (first|refine z0 ?_|apply ag|apply ae|refine z16 ?_|apply ah|apply aa)
     refine bh (ι:=Nat × List Bool × Bool) (fun x=>⟨4,(52,.d (.slice 2 (ts.map bw)))::(53,.d (.int .i64 (ts.map bw).length))::(54,.d (.int .i64 x.1))::(17,.d (.slice 4 (r.body.map bt)))::(18,.d (.int .i64 (r.body.map bt).length))::(19,.d (.int .i64 i))::bndL x.2.2,bndH r x.2.1⟩)
      (fun x=>x.1≤ts.length∧x.2.1=(ts.take x.1).foldl ki bs∧Fl b0 x.2.1 x.2.2) (fun x=>ts.length - x.1)
      (0,bs,ch) ⟨Nat.zero_le _,rfl,f3⟩ (ap id ⟨rfl,rfl,rfl,rfl,rfl,rfl,rfl,rfl,rfl,rfl,rfl,trivial⟩ ⟨rfl,rfl,rfl,trivial⟩ rfl rfl rfl rfl rfl rfl) ?_
     rintro⟨j,bj,cj⟩ ⟨e1,e2,e3⟩
     dsimp only at e1 e2 e3 ⊢
     have hjl:bj.length=bs.length:=by rw [e2,setTs_len]
     by_cases hj:j < ts.length
     ·repeat' (first|refine z0 ?_|apply ag|apply ae|refine z16 ?_|apply ah|apply ai|apply au|apply aa|apply aq|apply bg|refine z17 ?_|refine z1 ?_|refine z3 ?_|(refine z23 ?_ ?_ <;> intro hg)|fail)
      all_goals try (exfalso;omega)
      have hq:=htok ts[j] (List.getElem_mem hj)
      rw [← hjl] at hq
      have e4:=e3.step hq
      have e5:(ts.take (j + 1)).foldl ki bs=ki bj ts[j]:=by rw [foldl_take ki bs hj,← e2]
      refine ds_callVF (fun j=>match j with|0=>2|_=>1) (isFn bj ts[j] hq) rfl rfl rfl rfl rfl rfl ⟨rfl,rfl,trivial⟩ rfl rfl rfl rfl rfl rfl ?_ ?_
      ·rintro k2 res H2 ⟨rfl,rfl,rfl⟩
       exact⟨rfl,rfl⟩
      rintro k2 res H2 ⟨rfl,rfl,rfl⟩
      change DS _ _ _ _ _ _ _ _
      have lbj:(bj.map mc).length=bj.length:=List.length_map _
      cases hb:isT bj ts[j] with
      | true =>
       rw [hb,Bool.not_true,Bool.or_false,setT_same hb] at e4
       rw [setT_same hb] at e5
       repeat' (first|refine z0 ?_|apply ag|refine z16 ?_|apply ai|refine z19 ?_|apply aa|apply bg)
       exact⟨(j + 1,bj,cj),⟨by omega,e5.symm,e4⟩,ap (fun j=>match j with|0=>0|1=>6|j=>j) ⟨rfl,rfl,rfl,rfl,rfl,rfl,rfl,rfl,rfl,rfl,rfl,trivial⟩ ⟨rfl,rfl,rfl,trivial⟩ rfl rfl rfl rfl rfl rfl,by show ts.length - (j + 1) < ts.length - j;omega⟩
      | false =>
       obtain⟨_,hneg⟩:=setT_count hq hb
       have hset:ki bj ts[j]=bj.set ts[j].var.toNat true:=by unfold ki;rw [if_neg hneg]
       rw [hb,Bool.not_false,Bool.or_true,hset] at e4
       rw [hset] at e5
       unfold okT at hq
       repeat' (first|refine z0 ?_|apply ag|(apply ds_stP;exact rfl;exact rfl;(apply hv_get;(omega));exact rfl;exact rfl;(exact hv_set rfl);exact rfl;exact rfl;exact rfl;exact rfl;exact rfl;exact rfl)|apply ae|refine z16 ?_|refine z18 ?_|apply aa|apply bg)
       exact⟨(j + 1,bj.set ts[j].var.toNat true,true),⟨by omega,e5.symm,e4⟩,ap (fun j=>match j with|0=>0|1=>6|j=>j) ⟨rfl,rfl,rfl,rfl,rfl,rfl,rfl,rfl,rfl,rfl,rfl,trivial⟩ ⟨rfl,rfl,rfl,trivial⟩ rfl rfl rfl rfl rfl rfl,by show ts.length - (j + 1) < ts.length - j;omega⟩
     ·repeat' (first|refine z0 ?_|apply ag|apply ae|refine z16 ?_|apply ah|apply ai|apply au|apply aa|apply aq|apply bg|refine z17 ?_|refine z1 ?_|refine z3 ?_|(refine z23 ?_ ?_ <;> intro hg)|fail)
      all_goals try (exfalso;omega)
      ·refine⟨(i + 1,bj,cj),⟨by omega,?_,e3⟩,ap id ⟨rfl,rfl,rfl,rfl,rfl,rfl,rfl,rfl,trivial⟩ ⟨rfl,rfl,rfl,trivial⟩ rfl rfl rfl rfl rfl rfl,by show r.body.length - (i + 1) < r.body.length - i;omega⟩
       dsimp only
       rw [← hbs,e2,List.take_of_length_le (by omega)]
   ·exfalso;omega
  ·repeat' (first|refine z0 ?_|refine z12 ?_|apply ag|apply ae|refine z16 ?_|apply ah|apply ai|apply au|refine z19 ?_|apply aa|apply aq|apply bg|refine z17 ?_|refine z1 ?_|refine z3 ?_|(refine z23 ?_ ?_ <;> intro hg)|((fail_if_success (apply bk;exact rfl));apply bl;exact rfl;exact rfl;exact rfl;all_goals intro hg))
   all_goals try (exfalso;omega)
   ·refine⟨(ch,bs,m + 1),⟨?_,?_⟩,ap id ⟨rfl,rfl,rfl,rfl,rfl,trivial⟩ ⟨rfl,rfl,rfl,trivial⟩ rfl rfl rfl rfl rfl rfl,?_⟩
    ·dsimp only
     rw [bIter_succ,← g1,f2,List.take_of_length_le (by omega)];rfl
    ·rintro rfl
     have hb:=f3.2.2.1 rfl
     have hr:bs=gy r.body b0:=by rw [f2,List.take_of_length_le (by omega)];rfl
     show gy r.body bs=bs
     rw [hb]
     rw [hb] at hr
     exact hr.symm
    ·show 2 * bs.count false + (if ch=true then 1 else 0) < 2 * b0.count false + (if true=true then 1 else 0)
     have h1:=f3.2.1
     have h2:=f3.2.2.2
     cases ch with
     | false=>simp;omega
     | true=>have:=h2 rfl;simp;omega
end Go.Proofs.YtapciiffpnociaaGreat
