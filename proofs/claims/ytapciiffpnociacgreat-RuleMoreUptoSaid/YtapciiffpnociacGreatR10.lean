/- Several texts in one: TokD ScoB ScoC ScoD ScoF WirA WirB WirC RelP RelA. Condition: none. -/
import Derived.Test.YtapciiffpnociacGreatR09
import Derived.Test.YtapciiffpnociacGreatR08
import Derived.Test.YtapciiffpnociacGreatR07
namespace Go.Proofs.YtapciiffpnociacGreat
open Go Go.RowKit
attribute [local irreducible] DW DS DL DQ Ev FnOk FnP thenD inBlockD DT
def oneS (kind:Int) (s:ByteArray):Bool:=match scanS s with
 | ([t],_,e)=>decide (e=0) && (decide (t.kind=kind) && decide (t.text=s))
 | _=>false
set_option maxHeartbeats 8000000 in
theorem one_fn (kind:Int) (s:ByteArray):Fn 205 [.d (.int .i64 kind),.d (.str s)] (fun r=>r = .d (.bool (oneS kind s))):=by
 refine fnp_enter' _ Tryz.func205 rfl rfl (by kernel_rfl) ?_
 intro O w0 E0 β0
 have hsc:=scan_fn s
 unfold oneS
 generalize scanS s=q at hsc ⊢
 obtain⟨l,p,e⟩:=q
 unfold encScan encToks at hsc
 dsimp only at hsc
 rcases l with _|⟨t,_|⟨t',l⟩⟩
 ·repeat' (first|refine z0 ?_|refine z12 ?_|apply ds_nil|apply dw_seq2|refine z16 ?_|apply dw_ret|apply thenD_n|refine z21 ?_ (hc:=by apply hsc)|((fail_if_success (apply ds_known;exact rfl));apply ds_guardP;exact rfl;exact rfl;exact rfl;all_goals intro hg))
  all_goals exact ret_b rfl (by simp)
 ·repeat' (first|refine z0 ?_|refine z12 ?_|apply ds_nil|apply dw_seq2|refine z16 ?_|apply dw_ret|apply thenD_n|refine z21 ?_ (hc:=by apply hsc)|((fail_if_success (apply ds_known;exact rfl));apply ds_guardP;exact rfl;exact rfl;exact rfl;all_goals intro hg))
  all_goals exact ret_b rfl (by simp_all)
 ·repeat' (first|refine z0 ?_|refine z12 ?_|apply ds_nil|apply dw_seq2|refine z16 ?_|apply dw_ret|apply thenD_n|refine z21 ?_ (hc:=by apply hsc)|((fail_if_success (apply ds_known;exact rfl));apply ds_guardP;exact rfl;exact rfl;exact rfl;all_goals intro hg))
  all_goals first
   | exact ret_b rfl (by simp_all)
   | (rename_i h;exfalso;revert h;simp;done)
   | (exfalso;simp at *;done)
   | (exfalso;simp at *;omega)
def eqS (x y:ByteArray):Bool:=decide (y=x)
def eqB (x y:Bool):Bool:=y == x
abbrev elS (s:ByteArray):SV:=.d (.str s)
abbrev elB (b:Bool):SV:=.d (.bool b)
set_option maxHeartbeats 8000000 in
theorem indexS_fn (y:ByteArray) (l:List (ByteArray)):Fn 183 [.d (.slice 1 (l.map encT)),elS y] (fun r=>r = .d (.int .i64 (idxF (fun x=>eqS x y) l))):=by
 refine fnp_enter' _ Tryz.func183 rfl rfl (by kernel_rfl) ?_
 intro O w0 E0 β0
 refine dw_len_map (t:=0) rfl fun hb=>?_
 repeat' (first|refine z0 ?_|apply ds_nil|apply dw_seq2|refine z16 ?_|apply dw_block|apply thenD_n)
 refine ds_loop (ι:=Nat) (fun i=>⟨0,[(0,.d (.slice 1 (l.map encT))),(1,.d (.str y)),(7,.d (.int .i64 l.length)),(8,.d (.int .i64 i))],[]⟩)
  (fun i=>i≤l.length∧∀ j (hj:j < l.length),j < i→eqS l[j] y=false) (fun i=>l.length - i) 0 ⟨Nat.zero_le _,fun j _ h=>absurd h (Nat.not_lt_zero j)⟩
  (ent_ren id ⟨rfl,rfl,by simp;rfl,rfl,trivial⟩ trivial rfl rfl rfl rfl rfl rfl) ?_
 rintro i ⟨h1,h2⟩
 repeat' (first|refine z0 ?_|apply ds_nil|apply dw_seq2|refine z16 ?_|apply thenD_n)
 refine dw_condP rfl (fun h=>?_) (fun h=>?_)
 ·have hi:i < l.length:=by omega
  repeat' (first|refine z0 ?_|apply ds_nil|apply dw_seq2|refine z16 ?_|apply dw_block|apply dw_skip|apply thenD_n)
  refine dw_cond rfl (fun hb=>?_) (fun hb=>?_)
  ·repeat' (first|refine z0 ?_|apply ds_nil|apply dw_seq2|refine z16 ?_|apply dw_ret|apply thenD_n|apply thenD_r|apply inB_r)
   exact ret_i rfl (idxF_hit (p:=fun x=>eqS x y) h2 hi (id hb)).symm
  ·repeat' (first|refine z0 ?_|apply ds_nil|refine z16 ?_|apply dw_skip|apply thenD_n|apply inB_n)
   exact⟨i + 1,⟨hi,none_step (p:=fun x=>eqS x y) h2 hi (id hb)⟩,ent_ren id ⟨rfl,rfl,rfl,rfl,trivial⟩ trivial rfl rfl rfl rfl rfl rfl,by omega⟩
 ·repeat' (first|refine z0 ?_|apply ds_nil|apply dw_seq2|refine z16 ?_|apply dw_exit|apply dw_ret|apply thenD_n|apply thenD_e|refine z17 ?_|fail)
  exact ret_i rfl (idxF_none fun j hj=>h2 j hj (by omega)).symm
set_option maxHeartbeats 8000000 in
theorem indexB_fn (y:Bool) (l:List (Bool)):Fn 185 [.d (.slice 1 (l.map encBl)),elB y] (fun r=>r = .d (.int .i64 (idxF (fun x=>eqB x y) l))):=by
 refine fnp_enter' _ Tryz.func185 rfl rfl (by kernel_rfl) ?_
 intro O w0 E0 β0
 refine dw_len_map (t:=0) rfl fun hb=>?_
 repeat' (first|refine z0 ?_|apply ds_nil|apply dw_seq2|refine z16 ?_|apply dw_block|apply thenD_n)
 refine ds_loop (ι:=Nat) (fun i=>⟨0,[(0,.d (.slice 1 (l.map encBl))),(1,.d (.bool y)),(7,.d (.int .i64 l.length)),(8,.d (.int .i64 i))],[]⟩)
  (fun i=>i≤l.length∧∀ j (hj:j < l.length),j < i→eqB l[j] y=false) (fun i=>l.length - i) 0 ⟨Nat.zero_le _,fun j _ h=>absurd h (Nat.not_lt_zero j)⟩
  (ent_ren id ⟨rfl,rfl,by simp;rfl,rfl,trivial⟩ trivial rfl rfl rfl rfl rfl rfl) ?_
 rintro i ⟨h1,h2⟩
 repeat' (first|refine z0 ?_|apply ds_nil|apply dw_seq2|refine z16 ?_|apply thenD_n)
 refine dw_condP rfl (fun h=>?_) (fun h=>?_)
 ·have hi:i < l.length:=by omega
  repeat' (first|refine z0 ?_|apply ds_nil|apply dw_seq2|refine z16 ?_|apply dw_block|apply dw_skip|apply thenD_n)
  refine dw_cond rfl (fun hb=>?_) (fun hb=>?_)
  ·repeat' (first|refine z0 ?_|apply ds_nil|apply dw_seq2|refine z16 ?_|apply dw_ret|apply thenD_n|apply thenD_r|apply inB_r)
   exact ret_i rfl (idxF_hit (p:=fun x=>eqB x y) h2 hi (id hb)).symm
  ·repeat' (first|refine z0 ?_|apply ds_nil|refine z16 ?_|apply dw_skip|apply thenD_n|apply inB_n)
   exact⟨i + 1,⟨hi,none_step (p:=fun x=>eqB x y) h2 hi (id hb)⟩,ent_ren id ⟨rfl,rfl,rfl,rfl,trivial⟩ trivial rfl rfl rfl rfl rfl rfl,by omega⟩
 ·repeat' (first|refine z0 ?_|apply ds_nil|apply dw_seq2|refine z16 ?_|apply dw_exit|apply dw_ret|apply thenD_n|apply thenD_e|refine z17 ?_|fail)
  exact ret_i rfl (idxF_none fun j hj=>h2 j hj (by omega)).symm
set_option maxHeartbeats 8000000 in
theorem containsS_fn (y:ByteArray) (l:List ByteArray):Fn 155 [.d (.slice 1 (l.map encT)),.d (.str y)] (fun r=>r = .d (.bool (l.any fun x=>eqS x y))):=by
 refine fnp_enter' _ Tryz.func155 rfl rfl (by kernel_rfl) ?_
 intro O w0 E0 β0
 have hx:=indexS_fn y l
 repeat' (first|refine z0 ?_|apply ds_nil|apply dw_seq2|refine z16 ?_|apply dw_ret|apply thenD_n|refine z21 ?_ (hc:=by apply hx)|fail)
 exact ret_b rfl (idxF_any _ l)
set_option maxHeartbeats 8000000 in
theorem containsB_fn (y:Bool) (l:List Bool):Fn 158 [.d (.slice 1 (l.map encBl)),.d (.bool y)] (fun r=>r = .d (.bool (l.any fun x=>eqB x y))):=by
 refine fnp_enter' _ Tryz.func158 rfl rfl (by kernel_rfl) ?_
 intro O w0 E0 β0
 have hx:=indexB_fn y l
 repeat' (first|refine z0 ?_|apply ds_nil|apply dw_seq2|refine z16 ?_|apply dw_ret|apply thenD_n|refine z21 ?_ (hc:=by apply hx)|fail)
 exact ret_b rfl (idxF_any _ l)
def wordsL:List ByteArray:=[⟨#[110,111,116]⟩,⟨#[99,111,117,110,116]⟩,⟨#[115,117,109]⟩,⟨#[108,101,97,115,116]⟩,⟨#[109,111,115,116]⟩]
def wordB (s:ByteArray):Bool:=wordsL.any fun x=>eqS x s
def nameS (s:ByteArray):Bool:=oneS 1 s && !wordB s
set_option maxHeartbeats 8000000 in
theorem words_fn:Fn 182 [] (fun r=>r = .d (.slice 1 (wordsL.map encT))):=by
 refine fnp_enter' _ Tryz.func182 rfl rfl (by kernel_rfl) ?_
 intro O w0 E0 β0
 repeat' (first|refine z0 ?_|apply ds_nil|apply dw_seq2|refine z16 ?_|apply dw_ret|apply thenD_n|refine z4 ?_|fail)
 exact⟨.inl rfl,_,rfl,rfl,rfl⟩
set_option maxHeartbeats 8000000 in
theorem tokenName_fn (s:ByteArray):Fn 181 [.d (.str s)] (fun r=>r = .d (.bool (oneS 1 s))):=by
 refine fnp_enter' _ Tryz.func181 rfl rfl (by kernel_rfl) ?_
 intro O w0 E0 β0
 repeat' (first|refine z0 ?_|apply ds_nil|apply dw_seq2|refine z16 ?_|apply dw_ret|apply thenD_n|refine z21 ?_ (hc:=by apply one_fn)|fail)
 exact ret_b rfl rfl
set_option maxHeartbeats 8000000 in
theorem treeName_fn (s:ByteArray):Fn 154 [.d (.str s)] (fun r=>r = .d (.bool (nameS s))):=by
 refine fnp_enter' _ Tryz.func154 rfl rfl (by kernel_rfl) ?_
 intro O w0 E0 β0
 have h1:=containsS_fn s wordsL
 have h2:=tokenName_fn s
 unfold nameS wordB
 repeat' (first|refine z0 ?_|refine z12 ?_|apply ds_nil|apply dw_seq2|refine z16 ?_|apply dw_ret|apply thenD_n|refine z21 ?_ (hc:=by apply h1)|refine z21 ?_ (hc:=by apply h2)|refine z21 ?_ (hc:=by apply words_fn)|((fail_if_success (apply ds_known;exact rfl));apply ds_guardB;exact rfl;exact rfl;exact rfl;all_goals intro hg))
 all_goals exact ret_b rfl (by simp_all)
set_option maxHeartbeats 8000000 in
theorem preds_fn (p:Prg) (hl:p.names.length=p.arity.length):Fn 122 [elPrg p] (fun r=>r = .d (.int .i64 (firstI (nameE nameS p) 0 p.names.length))):=by
 refine fnp_enter' _ Tryz.func122 rfl rfl (by kernel_rfl) ?_
 intro O w0 E0 β0
 have la:(p.arity.map encI).length=p.arity.length:=List.length_map _
 have lb:(p.names.map encT).length=p.names.length:=List.length_map _
 refine dw_lenA 0 1 rfl rfl (fun hk=>?_)
 repeat' (first|refine z0 ?_|apply ds_nil|apply dw_seq2|refine z16 ?_|apply dw_block|apply thenD_n|refine z1 ?_|fail)
 refine ds_loop (ι:=Nat) (fun i=>⟨1,[(1,.loc 0 0),(2,.d (.int .i64 0)),(6,.d (.slice 1 (p.names.map encT))),(7,.d (.int .i64 (p.names.map encT).length)),(8,.d (.int .i64 i))],[(0,.blk 26 [.d (.slice 1 (p.arity.map encI)),.d (.slice 1 (p.names.map encT)),.d (.slice 5 (p.rules.map encRul))])]⟩)
  (fun i=>i≤p.names.length∧firstI (nameE nameS p) 0 p.names.length=firstI (nameE nameS p) i (p.names.length - i)) (fun i=>p.names.length - i) 0 ⟨Nat.zero_le _,rfl⟩ (ent_ren id ⟨rfl,rfl,rfl,rfl,rfl,trivial⟩ ⟨rfl,trivial⟩ rfl rfl rfl rfl rfl rfl) ?_
 rintro i ⟨g1,g2⟩
 by_cases hi:i < p.names.length
 ·have ha:p.arity.getD i 0=p.arity[i]'(by omega):=by rw [List.getD,List.getElem?_eq_getElem (by omega)];rfl
  have hn:p.names.getD i ⟨#[]⟩=p.names[i]:=by rw [List.getD,List.getElem?_eq_getElem hi];rfl
  rw [firstI_step hi,show nameE nameS p i=if inR (p.arity.getD i 0) 0 3=false then 3 else if nameS (p.names.getD i ⟨#[]⟩)=false then 1 else if (p.names.take i).any (fun s=>decide (s=p.names.getD i ⟨#[]⟩)) then 6 else 0 from rfl,ha,hn] at g2
  have hc:=containsS_fn p.names[i] (p.names.take i)
  have hq:(p.names.take i).any (fun s=>decide (s=p.names[i]))=(p.names.take i).any (fun x=>eqS x p.names[i]):=by
   congr 1
   funext x
   unfold eqS
   exact decide_eq_decide.2 eq_comm
  rw [hq] at g2
  generalize (p.names.take i).any (fun x=>eqS x p.names[i])=bc at g2 hc
  repeat' (first|(apply ds_slD;exact rfl;exact rfl;exact rfl;exact rfl;exact rfl;exact rfl;(refine⟨?_,?_,?_⟩ <;> (omega));((with_reducible apply hv_take);(exact rfl));exact rfl;exact rfl)|refine z0 ?_|apply ds_nil|apply dw_seq2|refine z16 ?_|apply dw_block|apply dw_skip|apply dw_exit|apply dw_ret|apply thenD_n|apply thenD_e|apply thenD_r|apply inB_n|apply inB_r|refine z17 ?_|refine z21 ?_ (hc:=by apply swithin_fn)|refine z21 ?_ (hc:=by apply treeName_fn)|refine z21 ?_ (hc:=by apply hc)|(refine z23 ?_ ?_ <;> intro hg)|(apply dw_cond;exact rfl;all_goals intro hg))
  all_goals first
   | exact absurd hg (by omega)
   | exact ret_i rfl (by rw [g2];simp_all)
   | exact⟨i + 1,⟨by omega,by rw [g2];simp_all⟩,ent_ren id ⟨rfl,rfl,rfl,rfl,rfl,trivial⟩ ⟨rfl,trivial⟩ rfl rfl rfl rfl rfl rfl,by show p.names.length - (i + 1) < p.names.length - i;omega⟩
 ·rw [firstI_end (by omega)] at g2
  repeat' (first|(apply ds_slD;exact rfl;exact rfl;exact rfl;exact rfl;exact rfl;exact rfl;(refine⟨?_,?_,?_⟩ <;> (omega));((with_reducible apply hv_take);(exact rfl));exact rfl;exact rfl)|refine z0 ?_|apply ds_nil|apply dw_seq2|refine z16 ?_|apply dw_block|apply dw_skip|apply dw_exit|apply dw_ret|apply thenD_n|apply thenD_e|apply thenD_r|apply inB_r|refine z17 ?_|refine z21 ?_ (hc:=by apply swithin_fn)|refine z21 ?_ (hc:=by apply treeName_fn)|(refine z23 ?_ ?_ <;> intro hg)|(apply dw_cond;exact rfl;all_goals intro hg))
  all_goals first
   | exact absurd hg (by omega)
   | exact ret_i rfl g2.symm
abbrev FnW (f:FuncId) (args:List SV) (J k:Nat) (H:Hp) (R:Nat→SV→Hp→Prop):Prop:=FnOk false Tryz.prog tab tab_ok f args J k H R
abbrev bsH (bs:List Bool):Hp:=[(0,.blk 50 [.row 1]),(1,.row 4 1 (bs.map encBl))]
theorem isT_pos {bs:List Bool} {t:Trm} (h:t.var < 0):isT bs t=true:=by unfold isT;rw [decide_eq_true h];rfl
theorem isT_neg {bs:List Bool} {t:Trm} (h:¬ t.var < 0) (h2:t.var < (bs.length:Int)):isT bs t=bs[t.var.toNat]'(by omega):=by
 unfold isT
 rw [decide_eq_false h,Bool.false_or,List.getD,List.getElem?_eq_getElem (by omega)];rfl
set_option maxHeartbeats 8000000 in
theorem isFn (bs:List Bool) (t:Trm) (hok:okT bs.length t):FnW 186 [elTrm t,.loc 0 0] 1 2 (bsH bs) (fun k2 res H2=>k2=2∧res = .d (.bool (isT bs t))∧H2=bsH bs):=by
 refine fn_enterR _ Tryz.func186 rfl rfl (by kernel_rfl) ?_
 intro O w0 E0 β0
 have la:(bs.map encBl).length=bs.length:=List.length_map _
 unfold okT at hok
 by_cases hneg:t.var < 0
 ·rw [isT_pos hneg]
  repeat' (first|refine z0 ?_|refine z12 ?_|apply ds_nil|apply dw_seq2|refine z16 ?_|apply dw_ret|apply thenD_n|refine z1 ?_|((fail_if_success (apply ds_known;exact rfl));apply ds_guardP;exact rfl;exact rfl;exact rfl;all_goals intro hg))
  ·exact⟨.inl rfl,_,rfl,id,2,.d (.bool true),bsH bs,rfl,⟨rfl,rfl,trivial⟩,rfl,rfl,rfl,rfl,rfl,rfl,rfl,rfl,rfl⟩
  all_goals exact absurd hneg hg
 ·rw [isT_neg hneg hok]
  repeat' (first|refine z0 ?_|refine z12 ?_|apply ds_nil|apply dw_seq2|refine z16 ?_|apply dw_ret|apply thenD_n|refine z1 ?_|((fail_if_success (apply ds_known;exact rfl));apply ds_guardP;exact rfl;exact rfl;exact rfl;all_goals intro hg))
  ·exact absurd hg hneg
  all_goals exact⟨.inl rfl,_,rfl,id,2,.d (.bool _),bsH bs,rfl,⟨rfl,rfl,trivial⟩,rfl,rfl,rfl,rfl,rfl,rfl,rfl,rfl,rfl⟩
def Fl (b0 bs:List Bool) (ch:Bool):Prop:=bs.length=b0.length∧bs.count false≤b0.count false∧(ch=false→bs=b0)∧(ch=true→bs.count false < b0.count false)
theorem Fl.refl (b0:List Bool):Fl b0 b0 false:=⟨rfl,Nat.le_refl _,fun _=>rfl,fun h=>by cases h⟩
theorem count_set:∀ {bs:List Bool} {i:Nat} (_:i < bs.length),bs[i]? = some false→(bs.set i true).count false + 1=bs.count false
 | [],_,h,_=>by simp at h
 | b::bs,0,_,hb=>by simp at hb;subst hb;simp
 | b::bs,i + 1,h,hb=>by
  have:=count_set (bs:=bs) (i:=i) (by simpa using h) (by simpa using hb)
  rw [List.set_cons_succ,List.count_cons,List.count_cons]
  omega
theorem setT_count {bs:List Bool} {t:Trm} (hok:okT bs.length t) (h:isT bs t=false):(setT bs t).count false + 1=bs.count false∧¬ t.var < 0:=by
 have hn:¬ t.var < 0:=fun hn=>by rw [isT_pos hn] at h;cases h
 unfold okT at hok
 rw [isT_neg hn hok] at h
 unfold setT
 rw [if_neg hn]
 exact⟨count_set (by omega) (by rw [List.getElem?_eq_getElem (by omega),h]),hn⟩
theorem Fl.step {b0 bs:List Bool} {ch:Bool} {t:Trm} (h:Fl b0 bs ch) (hok:okT bs.length t):Fl b0 (setT bs t) (ch || !isT bs t):=by
 obtain⟨h1,h2,h3,h4⟩:=h
 cases ht:isT bs t with
 | true=>rw [setT_same ht,Bool.not_true,Bool.or_false];exact⟨h1,h2,h3,h4⟩
 | false =>
  obtain⟨g1,_⟩:=setT_count hok ht
  rw [Bool.not_false,Bool.or_true]
  exact⟨by rw [setT_len,h1],by omega,fun h=>by (cases h),fun _=>by omega⟩
abbrev ruleB (r:Rul):HB:=.blk 36 [.d (.int .i64 r.pred),.d (.slice 2 (r.terms.map encTrm)),.d (.int .i64 r.fold),.d (.slice 4 (r.body.map encLtl)),.d (.int .i64 r.vars)]
abbrev bndH (r:Rul) (bs:List Bool):Hp:=[(0,ruleB r),(1,.row 4 1 (bs.map encBl)),(2,.blk 50 [.row 1])]
abbrev bndL (ch:Bool):Sl:=[(1,.loc 0 0),(2,.nils),(3,.loc 2 0),(4,.fn 186 [.loc 2 0]),(5,.d (.bool ch))]
theorem fires4 {bs:List Bool} {l:Ltl} (k1:¬ l.kind=1) (k4:l.kind=4) (h:l.terms.length=3):firesB bs l=(isT bs (l.terms[0]'(by omega)) && isT bs (l.terms[1]'(by omega))):=by
 unfold firesB
 rw [decide_eq_false k1,decide_eq_true k4]
 obtain⟨kind,op,pred,terms⟩:=l
 dsimp only at h ⊢
 match terms,h with
 | [a,b,c],_=>simp
theorem litTs_sub {l:Ltl} {t:Trm} (h:t∈litTs l):t∈l.terms:=by
 unfold litTs at h
 split at h
 ·exact h
 ·exact List.mem_of_mem_drop h
theorem foldl_take {α β:Type} (f:β→α→β) (b:β) {l:List α} {i:Nat} (h:i < l.length):(l.take (i + 1)).foldl f b=f ((l.take i).foldl f b) l[i]:=by
 rw [List.take_succ_eq_append_getElem h,List.foldl_append];rfl
theorem bLits_len:∀ (l:List Ltl) (bs:List Bool),(l.foldl bLit bs).length=bs.length:=bRound_len
set_option maxHeartbeats 8000000 in
theorem bound_fn (r:Rul) (h0:0≤r.vars) (h8:r.vars≤8) (hok:∀ l∈r.body,∀ t∈l.terms,okT r.vars.toNat t) (h3:∀ l∈r.body,l.kind=4→l.terms.length=3) :
  Fn 159 [elRul r] (fun res=>res = .d (.slice 1 ((boundL r).map encBl))):=by
 refine fnp_enter' _ Tryz.func159 rfl rfl (by kernel_rfl) ?_
 intro O w0 E0 β0
 have lb:(r.body.map encLtl).length=r.body.length:=List.length_map _
 refine dw_lenA 0 3 rfl rfl (fun hk=>?_)
 repeat' (first|refine z0 ?_|apply ds_nil|apply dw_seq2|refine z16 ?_|apply thenD_n|refine z1 ?_|fail)
 refine ds_mk ((List.replicate r.vars.toNat false).map encBl) rfl rfl (Int.toNat_of_nonneg h0).symm rfl rfl rfl rfl rfl rfl (by show 1 * _≤_;omega) (by unfold maxLen;omega) (by rw [List.map_replicate];rfl) rfl rfl ?_
 repeat' (first|refine z0 ?_|apply ds_nil|apply dw_seq2|refine z16 ?_|apply dw_block|apply thenD_n|refine z1 ?_|refine z3 ?_|fail)
 refine ds_loop (ι:=Bool × List Bool × Nat) (fun x=>⟨3,bndL x.1,bndH r x.2.1⟩)
  (fun x=>x.2.1=bIter r.body x.2.2 (List.replicate r.vars.toNat false)∧(x.1=false→bRound r.body x.2.1=x.2.1)) (fun x=>2 * x.2.1.count false + (if x.1 then 1 else 0))
  (true,List.replicate r.vars.toNat false,0) ⟨rfl,fun h=>by cases h⟩ (ent_ren id ⟨rfl,rfl,rfl,rfl,rfl,trivial⟩ ⟨rfl,rfl,rfl,trivial⟩ rfl rfl rfl rfl rfl rfl) ?_
 rintro⟨ch,b0,m⟩ ⟨g1,g2⟩
 dsimp only at g1 g2 ⊢
 have hlen:b0.length=r.vars.toNat:=by rw [g1,bIter_len,List.length_replicate]
 cases ch with
 | false =>
  repeat' (first|refine z0 ?_|apply ds_nil|apply dw_seq2|refine z16 ?_|apply dw_exit|refine z19 ?_|apply thenD_n|apply thenD_e|refine z17 ?_|fail)
  refine dw_ent (ent_seal 2 rfl rfl rfl) ?_
  repeat' (apply dw_ret)
  have hb:b0=boundL r:=by
   rw [g1]
   exact rest_is (fun l hl t ht=>hok l hl t (litTs_sub ht)) (g1▸g2 rfl)
  rw [← hb]
  exact⟨.inl rfl,_,rfl,rfl,rfl⟩
 | true =>
  repeat' (first|refine z0 ?_|apply ds_nil|apply dw_seq2|refine z16 ?_|apply dw_block|apply dw_skip|refine z18 ?_|apply thenD_n)
  refine ds_loop (ι:=Nat × List Bool × Bool) (fun x=>⟨3,(17,.d (.slice 4 (r.body.map encLtl)))::(18,.d (.int .i64 (r.body.map encLtl).length))::(19,.d (.int .i64 x.1))::bndL x.2.2,bndH r x.2.1⟩)
   (fun x=>x.1≤r.body.length∧x.2.1=(r.body.take x.1).foldl bLit b0∧Fl b0 x.2.1 x.2.2) (fun x=>r.body.length - x.1)
   (0,b0,false) ⟨Nat.zero_le _,rfl,Fl.refl b0⟩ (ent_ren id ⟨rfl,rfl,rfl,rfl,rfl,rfl,rfl,rfl,trivial⟩ ⟨rfl,rfl,rfl,trivial⟩ rfl rfl rfl rfl rfl rfl) ?_
  rintro⟨i,bs,ch⟩ ⟨f1,f2,f3⟩
  dsimp only at f1 f2 f3 ⊢
  have hbl:bs.length=r.vars.toNat:=by rw [f2,bLits_len,hlen]
  by_cases hi:i < r.body.length
  ·have hlok:=hok r.body[i] (List.getElem_mem hi)
   have h3':=h3 r.body[i] (List.getElem_mem hi)
   have hf:bLit bs r.body[i]=(r.body.take (i + 1)).foldl bLit b0:=by rw [foldl_take bLit b0 hi,← f2]
   repeat' ((fail_if_success (apply dw_stop 4));(first|refine z0 ?_|apply ds_nil|apply dw_seq2|refine z16 ?_|apply dw_block|apply dw_skip|apply dw_exit|apply thenD_n|apply thenD_e|apply inB_n|refine z17 ?_|refine z1 ?_|refine z3 ?_|(refine z23 ?_ ?_ <;> intro hg)|fail))
   ·generalize r.body[i]=l at hlok h3' hf ⊢
    refine dw_cut (ι:=List Trm) (fun ts=>⟨4,(8,.d (.slice 2 (ts.map encTrm)))::(17,.d (.slice 4 (r.body.map encLtl)))::(18,.d (.int .i64 (r.body.map encLtl).length))::(19,.d (.int .i64 i))::bndL ch,bndH r bs⟩) (fun ts=>ts=if firesB bs l then litTs l else []) ?_ ?_
    ·have ll:(l.terms.map encTrm).length=l.terms.length:=List.length_map _
     by_cases k1:l.kind=1
     ·repeat' (first|refine z0 ?_|refine z12 ?_|apply ds_nil|apply dw_seq2|refine z16 ?_|apply dw_block|apply dw_skip|refine z19 ?_|apply thenD_n|apply inB_n|(refine z23 ?_ ?_ <;> intro hg)|((fail_if_success (apply ds_known;exact rfl));apply ds_guardP;exact rfl;exact rfl;exact rfl;all_goals intro hg))
      ·exact⟨l.terms,by unfold firesB litTs;simp [k1],ent_ren id ⟨rfl,rfl,rfl,rfl,rfl,rfl,rfl,rfl,rfl,trivial⟩ ⟨rfl,rfl,rfl,trivial⟩ rfl rfl rfl rfl rfl rfl⟩
      all_goals (exfalso;omega)
     ·by_cases k4:l.kind=4
      ·have h3l:=h3' k4
       have hlok':∀ t∈l.terms,okT bs.length t:=by rw [hbl];exact hlok
       have hf4:=fires4 (bs:=bs) k1 k4 h3l
       have hl4:litTs l=l.terms.drop 2:=by unfold litTs;rw [if_neg k1]
       repeat' (first|refine z0 ?_|refine z12 ?_|apply ds_nil|apply dw_seq2|refine z16 ?_|apply dw_block|apply dw_skip|refine z19 ?_|apply thenD_n|apply inB_n|(refine z23 ?_ ?_ <;> intro hg)|((fail_if_success (apply ds_known;exact rfl));apply ds_guardP;exact rfl;exact rfl;exact rfl;all_goals intro hg))
       all_goals try (exfalso;omega)
       refine ds_callVF (fun j=>match j with|0=>2|_=>1) (isFn bs (l.terms[0]'(by omega)) (hlok' _ (List.getElem_mem _))) rfl rfl rfl rfl rfl rfl ⟨rfl,rfl,trivial⟩ rfl rfl rfl rfl rfl rfl ?_ ?_
       ·rintro k2 res H2 ⟨rfl,rfl,rfl⟩
        exact⟨rfl,rfl⟩
       rintro k2 res H2 ⟨rfl,rfl,rfl⟩
       change DS _ _ _ _ _ _ _ _
       rw [hf4]
       generalize isT bs (l.terms[0]'(by omega))=q0
       cases q0 with
       | false =>
        repeat' (first|refine z0 ?_|refine z12 ?_|apply ds_nil|apply dw_skip|refine z19 ?_|apply thenD_n|apply inB_n)
        all_goals exact⟨[],rfl,ent_trans (ent_nild 8 2 rfl) (ent_ren (fun j=>match j with|0=>0|1=>5|j=>j) ⟨rfl,rfl,rfl,rfl,rfl,rfl,rfl,rfl,rfl,trivial⟩ ⟨rfl,rfl,rfl,trivial⟩ rfl rfl rfl rfl rfl rfl)⟩
       | true =>
        repeat' refine z0 ?_
        refine ds_callVF (fun j=>match j with|0=>2|_=>5) (isFn bs (l.terms[1]'(by omega)) (hlok' _ (List.getElem_mem _))) rfl rfl rfl rfl rfl rfl ⟨rfl,rfl,trivial⟩ rfl rfl rfl rfl rfl rfl ?_ ?_
        ·rintro k2 res H2 ⟨rfl,rfl,rfl⟩
         exact⟨rfl,rfl⟩
        rintro k2 res H2 ⟨rfl,rfl,rfl⟩
        change DS _ _ _ _ _ _ _ _
        generalize isT bs (l.terms[1]'(by omega))=q1
        cases q1 with
        | false =>
         repeat' (first|refine z0 ?_|apply ds_nil|apply dw_skip|refine z19 ?_|apply thenD_n|apply inB_n)
         all_goals exact⟨[],rfl,ent_trans (ent_nild 8 2 rfl) (ent_ren (fun j=>match j with|0=>0|1=>7|j=>j) ⟨rfl,rfl,rfl,rfl,rfl,rfl,rfl,rfl,rfl,trivial⟩ ⟨rfl,rfl,rfl,trivial⟩ rfl rfl rfl rfl rfl rfl)⟩
        | true =>
         repeat' (first|(apply ds_slD;exact rfl;exact rfl;exact rfl;exact rfl;exact rfl;exact rfl;(refine⟨?_,?_,?_⟩ <;> (omega));((with_reducible apply hv_drop);(exact nat_add_2 _));exact rfl;exact rfl)|refine z0 ?_|apply ds_nil|refine z16 ?_|refine z18 ?_|apply thenD_n|apply inB_n)
         all_goals exact⟨(l.terms.take (l.terms.map encTrm).length).drop 2,by rw [List.take_of_length_le (by omega),hl4];rfl,ent_ren (fun j=>match j with|0=>0|1=>7|j=>j) ⟨rfl,rfl,rfl,rfl,rfl,rfl,rfl,rfl,rfl,trivial⟩ ⟨rfl,rfl,rfl,trivial⟩ rfl rfl rfl rfl rfl rfl⟩
      ·have hf5:firesB bs l=false:=by unfold firesB;rw [decide_eq_false k1,decide_eq_false k4];rfl
       repeat' (first|refine z0 ?_|refine z12 ?_|apply ds_nil|apply dw_seq2|refine z16 ?_|apply dw_block|apply dw_skip|refine z19 ?_|apply thenD_n|apply inB_n|(refine z23 ?_ ?_ <;> intro hg)|((fail_if_success (apply ds_known;exact rfl));apply ds_guardP;exact rfl;exact rfl;exact rfl;all_goals intro hg))
       all_goals first
        | exact absurd hg k1
        | exact absurd hg k4
        | exact⟨[],by rw [hf5];rfl,ent_trans (ent_nild 8 2 rfl) (ent_ren id ⟨rfl,rfl,rfl,rfl,rfl,rfl,rfl,rfl,rfl,trivial⟩ ⟨rfl,rfl,rfl,trivial⟩ rfl rfl rfl rfl rfl rfl)⟩
    ·rintro ts hts
     have hbs:ts.foldl setT bs=(r.body.take (i + 1)).foldl bLit b0:=by
      rw [← hf,hts]
      unfold bLit
      split <;> rfl
     have htok:∀ t∈ts,okT bs.length t:=by
      intro t ht
      rw [hbl]
      rw [hts] at ht
      split at ht
      ·exact hlok t (litTs_sub ht)
      ·simp at ht
     clear hts
     have lt:(ts.map encTrm).length=ts.length:=List.length_map _
     refine dw_len (t:=8) rfl (fun hkt=>?_)
     repeat' (first|refine z0 ?_|apply ds_nil|apply dw_seq2|refine z16 ?_|apply dw_block|apply thenD_n)
     refine ds_loop (ι:=Nat × List Bool × Bool) (fun x=>⟨4,(52,.d (.slice 2 (ts.map encTrm)))::(53,.d (.int .i64 (ts.map encTrm).length))::(54,.d (.int .i64 x.1))::(17,.d (.slice 4 (r.body.map encLtl)))::(18,.d (.int .i64 (r.body.map encLtl).length))::(19,.d (.int .i64 i))::bndL x.2.2,bndH r x.2.1⟩)
      (fun x=>x.1≤ts.length∧x.2.1=(ts.take x.1).foldl setT bs∧Fl b0 x.2.1 x.2.2) (fun x=>ts.length - x.1)
      (0,bs,ch) ⟨Nat.zero_le _,rfl,f3⟩ (ent_ren id ⟨rfl,rfl,rfl,rfl,rfl,rfl,rfl,rfl,rfl,rfl,rfl,trivial⟩ ⟨rfl,rfl,rfl,trivial⟩ rfl rfl rfl rfl rfl rfl) ?_
     rintro⟨j,bj,cj⟩ ⟨e1,e2,e3⟩
     dsimp only at e1 e2 e3 ⊢
     have hjl:bj.length=bs.length:=by rw [e2,setTs_len]
     by_cases hj:j < ts.length
     ·repeat' (first|refine z0 ?_|apply ds_nil|apply dw_seq2|refine z16 ?_|apply dw_block|apply dw_skip|apply dw_exit|apply thenD_n|apply thenD_e|apply inB_n|refine z17 ?_|refine z1 ?_|refine z3 ?_|(refine z23 ?_ ?_ <;> intro hg)|fail)
      all_goals try (exfalso;omega)
      have hq:=htok ts[j] (List.getElem_mem hj)
      rw [← hjl] at hq
      have e4:=e3.step hq
      have e5:(ts.take (j + 1)).foldl setT bs=setT bj ts[j]:=by rw [foldl_take setT bs hj,← e2]
      refine ds_callVF (fun j=>match j with|0=>2|_=>1) (isFn bj ts[j] hq) rfl rfl rfl rfl rfl rfl ⟨rfl,rfl,trivial⟩ rfl rfl rfl rfl rfl rfl ?_ ?_
      ·rintro k2 res H2 ⟨rfl,rfl,rfl⟩
       exact⟨rfl,rfl⟩
      rintro k2 res H2 ⟨rfl,rfl,rfl⟩
      change DS _ _ _ _ _ _ _ _
      have lbj:(bj.map encBl).length=bj.length:=List.length_map _
      cases hb:isT bj ts[j] with
      | true =>
       rw [hb,Bool.not_true,Bool.or_false,setT_same hb] at e4
       rw [setT_same hb] at e5
       repeat' (first|refine z0 ?_|apply ds_nil|refine z16 ?_|apply dw_skip|refine z19 ?_|apply thenD_n|apply inB_n)
       exact⟨(j + 1,bj,cj),⟨by omega,e5.symm,e4⟩,ent_ren (fun j=>match j with|0=>0|1=>6|j=>j) ⟨rfl,rfl,rfl,rfl,rfl,rfl,rfl,rfl,rfl,rfl,rfl,trivial⟩ ⟨rfl,rfl,rfl,trivial⟩ rfl rfl rfl rfl rfl rfl,by show ts.length - (j + 1) < ts.length - j;omega⟩
      | false =>
       obtain⟨_,hneg⟩:=setT_count hq hb
       have hset:setT bj ts[j]=bj.set ts[j].var.toNat true:=by unfold setT;rw [if_neg hneg]
       rw [hb,Bool.not_false,Bool.or_true,hset] at e4
       rw [hset] at e5
       unfold okT at hq
       repeat' (first|refine z0 ?_|apply ds_nil|(apply ds_stP;exact rfl;exact rfl;(apply hv_get;(omega));exact rfl;exact rfl;(exact hv_set rfl);exact rfl;exact rfl;exact rfl;exact rfl;exact rfl;exact rfl)|apply dw_seq2|refine z16 ?_|refine z18 ?_|apply thenD_n|apply inB_n)
       exact⟨(j + 1,bj.set ts[j].var.toNat true,true),⟨by omega,e5.symm,e4⟩,ent_ren (fun j=>match j with|0=>0|1=>6|j=>j) ⟨rfl,rfl,rfl,rfl,rfl,rfl,rfl,rfl,rfl,rfl,rfl,trivial⟩ ⟨rfl,rfl,rfl,trivial⟩ rfl rfl rfl rfl rfl rfl,by show ts.length - (j + 1) < ts.length - j;omega⟩
     ·repeat' (first|refine z0 ?_|apply ds_nil|apply dw_seq2|refine z16 ?_|apply dw_block|apply dw_skip|apply dw_exit|apply thenD_n|apply thenD_e|apply inB_n|refine z17 ?_|refine z1 ?_|refine z3 ?_|(refine z23 ?_ ?_ <;> intro hg)|fail)
      all_goals try (exfalso;omega)
      ·refine⟨(i + 1,bj,cj),⟨by omega,?_,e3⟩,ent_ren id ⟨rfl,rfl,rfl,rfl,rfl,rfl,rfl,rfl,trivial⟩ ⟨rfl,rfl,rfl,trivial⟩ rfl rfl rfl rfl rfl rfl,by show r.body.length - (i + 1) < r.body.length - i;omega⟩
       dsimp only
       rw [← hbs,e2,List.take_of_length_le (by omega)]
   ·exfalso;omega
  ·repeat' (first|refine z0 ?_|refine z12 ?_|apply ds_nil|apply dw_seq2|refine z16 ?_|apply dw_block|apply dw_skip|apply dw_exit|refine z19 ?_|apply thenD_n|apply thenD_e|apply inB_n|refine z17 ?_|refine z1 ?_|refine z3 ?_|(refine z23 ?_ ?_ <;> intro hg)|((fail_if_success (apply ds_known;exact rfl));apply ds_guardP;exact rfl;exact rfl;exact rfl;all_goals intro hg))
   all_goals try (exfalso;omega)
   ·refine⟨(ch,bs,m + 1),⟨?_,?_⟩,ent_ren id ⟨rfl,rfl,rfl,rfl,rfl,trivial⟩ ⟨rfl,rfl,rfl,trivial⟩ rfl rfl rfl rfl rfl rfl,?_⟩
    ·dsimp only
     rw [bIter_succ,← g1,f2,List.take_of_length_le (by omega)];rfl
    ·rintro rfl
     have hb:=f3.2.2.1 rfl
     have hr:bs=bRound r.body b0:=by rw [f2,List.take_of_length_le (by omega)];rfl
     show bRound r.body bs=bs
     rw [hb]
     rw [hb] at hr
     exact hr.symm
    ·show 2 * bs.count false + (if ch=true then 1 else 0) < 2 * b0.count false + (if true=true then 1 else 0)
     have h1:=f3.2.1
     have h2:=f3.2.2.2
     cases ch with
     | false=>simp;omega
     | true=>have:=h2 rfl;simp;omega
theorem firstL_zero {α:Type} {f:α→Int}:∀ {l:List α},firstL f l=0→∀ x∈l,f x=0
 | [],_,x,hx=>by simp at hx
 | y::l,h,x,hx=>by
  unfold firstL at h
  split at h
  ·rename_i hn;exact absurd h hn
  ·rename_i hn
   rcases List.mem_cons.1 hx with rfl|hx
   ·exact Decidable.not_not.1 hn
   ·exact firstL_zero h x hx
theorem termE_ok {vars:Int} {t:Trm} (h0:0≤vars) (h:termE vars t=0):okT vars.toNat t:=by
 unfold termE at h
 split at h
 ·cases h
 ·rename_i hn
  rw [Bool.not_eq_false] at hn
  have:=inR_spec hn
  unfold okT
  omega
theorem litE_ok {ar:List Int} {vars:Int} {l:Ltl} (h0:0≤vars) (h:litE ar vars l=0):(∀ t∈l.terms,okT vars.toNat t)∧(l.kind=4→l.terms.length=3):=by
 have ht:termsE vars l.terms=0→∀ t∈l.terms,okT vars.toNat t:=fun h t ht=>termE_ok h0 (firstL_zero h t ht)
 unfold litE at h
 split at h
 ·cases h
 split at h
 ·cases h
 split at h
 ·split at h
  ·cases h
  split at h
  ·cases h
  exact⟨ht h,fun hk=>by omega⟩
 ·split at h
  ·cases h
  exact⟨ht h,fun hk=>by omega⟩
theorem any_false (l:List Bool):(l.any fun x=>eqB x false) = !l.all id:=by
 induction l with
 | nil=>rfl
 | cons b l ih=>rw [List.any_cons,List.all_cons,ih];cases b <;> rfl
abbrev prgB (p:Prg):HB:=.blk 26 [.d (.slice 1 (p.arity.map encI)),.d (.slice 1 (p.names.map encT)),.d (.slice 5 (p.rules.map encRul))]
set_option maxHeartbeats 8000000 in
theorem rule_fn (p:Prg) (r:Rul):Fn 123 [elPrg p,elRul r] (fun x=>x = .d (.int .i64 (ruleE p.arity r))):=by
 refine fnp_enter' _ Tryz.func123 rfl rfl (by kernel_rfl) ?_
 intro O w0 E0 β0
 have la:(p.arity.map encI).length=p.arity.length:=List.length_map _
 have lb:(r.terms.map encTrm).length=r.terms.length:=List.length_map _
 have lc:(r.body.map encLtl).length=r.body.length:=List.length_map _
 refine dw_lenA 0 0 rfl rfl (fun hk=>?_)
 refine dw_lenA 1 1 rfl rfl (fun hk2=>?_)
 refine dw_lenA 1 3 rfl rfl (fun hk3=>?_)
 have w1:=swithin_fn r.pred 0 (((p.arity.map encI).length:Int) - 1)
 have w2:=swithin_fn r.vars 0 8
 have w3:=swithin_fn r.fold 0 4
 unfold ruleE
 rw [← la,← lb,← lc]
 by_cases hp:inR r.pred 0 (((p.arity.map encI).length:Int) - 1)=true
 ·have hp':=inR_spec hp
  have hA:=arity_at (p:=p) (n:=r.pred) (by omega) (by omega)
  rw [hp] at w1 ⊢
  rw [if_neg (show ¬ (true=false) by decide),hA]
  by_cases hv:inR r.vars 0 8=true
  ·have hv':=inR_spec hv
   rw [hv] at w2 ⊢
   rw [if_neg (show ¬ (true=false) by decide)]
   have w4:=terms_fn r.terms r.vars hv'.1 hv'.2
   clear hv hp hA
   have w5:=fun l=>lit_fn p l r.vars hv'.1 hv'.2
   generalize termsE r.vars r.terms=te at w4 ⊢
   generalize inR r.fold 0 4=fo at w3 ⊢
   repeat' (first|refine z0 ?_|refine z12 ?_|apply ds_nil|refine z5 ?_|refine z10 ?_|apply dw_seq2|refine z16 ?_|refine z20 ?_|apply dw_block|apply dw_skip|apply dw_ret|refine z18 ?_|refine z19 ?_|apply thenD_n|apply thenD_r|apply inB_n|apply inB_r|refine z21 ?_ (hc:=by apply w1)|refine z21 ?_ (hc:=by apply w2)|refine z21 ?_ (hc:=by apply w3)|refine z21 ?_ (hc:=by apply w4)|refine z1 ?_|(refine z23 ?_ ?_ <;> intro hg)|(apply dw_cond;exact rfl;all_goals intro hg)|((fail_if_success (apply ds_known;exact rfl));apply ds_guardP;exact rfl;exact rfl;exact rfl;all_goals intro hg))
   all_goals try (refine ret_i rfl ?_;(repeat' split) <;> (first|rfl|(exfalso;omega)|(exfalso;simp_all;done)))
   all_goals
    have hfin:∀ e,firstL (litE p.arity r.vars) r.body=e→(if (((r.terms.map encTrm).length:Nat):Int)≠p.arity[r.pred.toNat]'(by omega) then 1 else if te≠0 then te else if fo=false then 7 else if r.fold≠0∧((r.terms.map encTrm).length=0∨(r.body.map encLtl).length=0) then 1 else if 4 < (r.body.map encLtl).length then 2 else if firstL (litE p.arity r.vars) r.body≠0 then firstL (litE p.arity r.vars) r.body else if safeB r=false then 4 else 0)=if e≠0 then e else if safeB r=false then 4 else 0:=by
     rintro e rfl
     (repeat' split) <;> (first|rfl|(exfalso;omega)|(exfalso;simp_all;done))
    generalize (if (((r.terms.map encTrm).length:Nat):Int)≠p.arity[r.pred.toNat]'(by omega) then 1 else if te≠0 then te else if fo=false then 7 else if r.fold≠0∧((r.terms.map encTrm).length=0∨(r.body.map encLtl).length=0) then 1 else if 4 < (r.body.map encLtl).length then 2 else if firstL (litE p.arity r.vars) r.body≠0 then firstL (litE p.arity r.vars) r.body else if safeB r=false then 4 else 0)=res at hfin ⊢
    refine ds_loop (ι:=Nat) (fun i=>⟨2,[(2,.loc 0 0),(3,.loc 1 0),(4,.d (.int .i64 0)),(69,.d (.slice 4 (r.body.map encLtl))),(70,.d (.int .i64 (r.body.map encLtl).length)),(71,.d (.int .i64 i))],[(0,prgB p),(1,ruleB r)]⟩)
     (fun i=>i≤r.body.length∧firstL (litE p.arity r.vars) r.body=firstL (litE p.arity r.vars) (r.body.drop i)) (fun i=>r.body.length - i) 0 ⟨Nat.zero_le _,rfl⟩ (ent_ren id ⟨rfl,rfl,rfl,rfl,rfl,rfl,trivial⟩ ⟨rfl,rfl,trivial⟩ rfl rfl rfl rfl rfl rfl) ?_
    rintro i ⟨g1,g2⟩
    by_cases hi:i < r.body.length
    ·rw [firstL_step hi] at g2
     have w6:=w5 r.body[i]
     generalize litE p.arity r.vars r.body[i]=le at w6 g2
     repeat' (first|refine z0 ?_|apply ds_nil|apply dw_seq2|refine z16 ?_|apply dw_block|apply dw_skip|apply dw_exit|apply dw_ret|apply thenD_n|apply thenD_e|apply thenD_r|apply inB_n|apply inB_r|refine z17 ?_|refine z21 ?_ (hc:=by apply w6)|refine z1 ?_|refine z3 ?_|(refine z23 ?_ ?_ <;> intro hg)|fail)
     all_goals first
      | (exfalso;omega)
      | (refine ret_i rfl ?_;rw [hfin le (by rw [g2,if_pos (by assumption)]),if_pos (by assumption)];done)
      | exact⟨i + 1,⟨by omega,by rw [g2,if_neg (by assumption)]⟩,ent_ren id ⟨rfl,rfl,rfl,rfl,rfl,rfl,trivial⟩ ⟨rfl,rfl,trivial⟩ rfl rfl rfl rfl rfl rfl,by show r.body.length - (i + 1) < r.body.length - i;omega⟩
    ·rw [firstL_end (by omega)] at g2
     have hall:=firstL_zero g2
     have w7:=bound_fn r hv'.1 hv'.2 (fun l hl=>(litE_ok hv'.1 (hall l hl)).1) (fun l hl=>(litE_ok hv'.1 (hall l hl)).2)
     have w8:=containsB_fn false (boundL r)
     rw [any_false] at w8
     rw [hfin 0 g2,if_neg (by decide)]
     unfold safeB
     generalize (boundL r).all id=sb at w8 ⊢
     repeat' (first|refine z0 ?_|apply ds_nil|apply dw_seq2|refine z16 ?_|apply dw_block|apply dw_skip|apply dw_exit|apply dw_ret|apply thenD_n|apply thenD_e|apply thenD_r|refine z17 ?_|refine z21 ?_ (hc:=by apply w7)|refine z21 ?_ (hc:=by apply w8)|refine z1 ?_|refine z3 ?_|(refine z23 ?_ ?_ <;> intro hg)|(apply dw_cond;exact rfl;all_goals intro hg))
     all_goals first
      | (exfalso;omega)
      | (refine ret_i rfl ?_;simp_all;done)
  ·rw [Bool.not_eq_true] at hv
   rw [hv] at w2 ⊢
   repeat' (first|refine z0 ?_|apply ds_nil|refine z5 ?_|refine z10 ?_|apply dw_seq2|refine z16 ?_|refine z20 ?_|apply dw_block|apply dw_ret|refine z18 ?_|refine z19 ?_|apply thenD_n|apply thenD_r|apply inB_r|refine z21 ?_ (hc:=by apply w1)|refine z21 ?_ (hc:=by apply w2)|refine z1 ?_|(refine z23 ?_ ?_ <;> intro hg)|fail)
   all_goals exact ret_i rfl (by simp_all)
 ·rw [Bool.not_eq_true] at hp
  rw [hp] at w1 ⊢
  rw [if_pos rfl]
  repeat' (first|refine z0 ?_|apply ds_nil|apply dw_seq2|refine z16 ?_|apply dw_block|apply dw_ret|refine z18 ?_|apply thenD_n|apply thenD_r|apply inB_r|refine z21 ?_ (hc:=by apply w1)|refine z1 ?_|fail)
  all_goals exact ret_i rfl rfl
set_option maxHeartbeats 8000000 in
theorem check_fn (p:Prg):Fn 85 [elPrg p] (fun x=>x = .d (.int .i64 (progE nameS p))):=by
 refine fnp_enter' _ Tryz.func85 rfl rfl (by kernel_rfl) ?_
 intro O w0 E0 β0
 have la:(p.arity.map encI).length=p.arity.length:=List.length_map _
 have lb:(p.names.map encT).length=p.names.length:=List.length_map _
 have lc:(p.rules.map encRul).length=p.rules.length:=List.length_map _
 refine dw_lenA 0 0 rfl rfl (fun hk=>?_)
 refine dw_lenA 0 2 rfl rfl (fun hk2=>?_)
 unfold progE
 by_cases h1:10 < p.arity.length∨12 < p.rules.length
 ·rw [if_pos h1]
  repeat' (first|refine z0 ?_|refine z12 ?_|apply ds_nil|apply dw_seq2|refine z16 ?_|apply dw_block|apply dw_skip|apply dw_ret|refine z18 ?_|apply thenD_n|apply thenD_r|apply inB_n|apply inB_r|refine z1 ?_|(refine z23 ?_ ?_ <;> intro hg)|((fail_if_success (apply ds_known;exact rfl));apply ds_guardP;exact rfl;exact rfl;exact rfl;all_goals intro hg))
  all_goals first
   | (exfalso;omega)
   | exact ret_i rfl rfl
 ·rw [if_neg h1]
  by_cases h2:p.names.length≠p.arity.length
  ·rw [if_pos h2]
   repeat' (first|refine z0 ?_|refine z12 ?_|apply ds_nil|apply dw_seq2|refine z16 ?_|apply dw_block|apply dw_skip|apply dw_ret|refine z18 ?_|apply thenD_n|apply thenD_r|apply inB_n|apply inB_r|refine z1 ?_|(refine z23 ?_ ?_ <;> intro hg)|((fail_if_success (apply ds_known;exact rfl));apply ds_guardP;exact rfl;exact rfl;exact rfl;all_goals intro hg))
   all_goals first
    | (exfalso;omega)
    | exact ret_i rfl rfl
  ·rw [if_neg h2]
   have w1:=preds_fn p (by omega)
   generalize firstI (nameE nameS p) 0 p.names.length=ne at w1 ⊢
   repeat' (first|refine z0 ?_|refine z12 ?_|apply ds_nil|apply dw_seq2|refine z16 ?_|apply dw_block|apply dw_skip|apply dw_ret|refine z18 ?_|apply thenD_n|apply thenD_r|apply inB_n|apply inB_r|refine z21 ?_ (hc:=by apply w1)|refine z1 ?_|(refine z23 ?_ ?_ <;> intro hg)|((fail_if_success (apply ds_known;exact rfl));apply ds_guardP;exact rfl;exact rfl;exact rfl;all_goals intro hg))
   all_goals try (exfalso;omega)
   ·exact ret_i rfl (by rw [if_pos hg])
   rw [if_neg hg]
   refine ds_loop (ι:=Nat) (fun i=>⟨1,[(1,.loc 0 0),(2,.d (.int .i64 0)),(32,.d (.slice 5 (p.rules.map encRul))),(33,.d (.int .i64 (p.rules.map encRul).length)),(34,.d (.int .i64 i))],[(0,prgB p)]⟩)
    (fun i=>i≤p.rules.length∧firstL (ruleE p.arity) p.rules=firstL (ruleE p.arity) (p.rules.drop i)) (fun i=>p.rules.length - i) 0 ⟨Nat.zero_le _,rfl⟩ (ent_ren id ⟨rfl,rfl,rfl,rfl,rfl,trivial⟩ ⟨rfl,trivial⟩ rfl rfl rfl rfl rfl rfl) ?_
   rintro i ⟨g1,g2⟩
   by_cases hi:i < p.rules.length
   ·rw [firstL_step hi] at g2
    have w6:=rule_fn p p.rules[i]
    generalize ruleE p.arity p.rules[i]=le at w6 g2
    repeat' (first|refine z0 ?_|apply ds_nil|apply dw_seq2|refine z16 ?_|apply dw_block|apply dw_skip|apply dw_exit|apply dw_ret|apply thenD_n|apply thenD_e|apply thenD_r|apply inB_n|apply inB_r|refine z17 ?_|refine z21 ?_ (hc:=by apply w6)|refine z1 ?_|refine z3 ?_|(refine z23 ?_ ?_ <;> intro hg)|fail)
    all_goals first
     | (exfalso;omega)
     | (refine ret_i rfl ?_;rw [g2,if_pos (by assumption)];done)
     | exact⟨i + 1,⟨by omega,by rw [g2,if_neg (by assumption)]⟩,ent_ren id ⟨rfl,rfl,rfl,rfl,rfl,trivial⟩ ⟨rfl,trivial⟩ rfl rfl rfl rfl rfl rfl,by show p.rules.length - (i + 1) < p.rules.length - i;omega⟩
   ·rw [firstL_end (by omega)] at g2
    repeat' (first|refine z0 ?_|apply ds_nil|apply dw_seq2|refine z16 ?_|apply dw_block|apply dw_skip|apply dw_exit|apply dw_ret|apply thenD_n|apply thenD_e|refine z17 ?_|refine z1 ?_|refine z3 ?_|(refine z23 ?_ ?_ <;> intro hg)|fail)
    all_goals first
     | (exfalso;omega)
     | exact ret_i rfl g2.symm
def nameR (s:ByteArray):Bool:=isTok 1 s && !wordB s
abbrev litB (l:Ltl):HB:=.blk 40 [.d (.int .i64 l.kind),.d (.int .i64 l.op),.d (.int .i64 l.pred),.d (.slice 2 (l.terms.map encTrm))]
set_option maxHeartbeats 8000000 in
theorem isNaN_fnD (dr:Bool) (a:Int):FnD dr 139 [.d (.int .i64 a)] (fun r=>r = .d (.bool false)):=by
 refine fnp_enter' _ Tryz.func139 rfl rfl (by kernel_rfl) ?_
 intro O w0 E0 β0
 repeat' (first|refine z0 ?_|apply ds_nil|apply dw_seq2|refine z16 ?_|apply dw_ret|apply thenD_n)
 exact ret_b rfl (by simp)
set_option maxHeartbeats 8000000 in
theorem compare_fnD (dr:Bool) (a b:Int):FnD dr 100 [.d (.int .i64 a),.d (.int .i64 b)] (fun r=>r = .d (.int .i64 (cmpI a b))):=by
 refine fnp_enter' _ Tryz.func100 rfl rfl (by kernel_rfl) ?_
 intro O w0 E0 β0
 repeat' (first|refine z0 ?_|apply ds_nil|apply dw_seq2|refine z16 ?_|apply dw_skip|apply dw_ret|refine z19 ?_|apply thenD_n|apply thenD_r|refine z21 ?_ (hc:=by apply isNaN_fnD)|(refine z23 ?_ ?_ <;> intro hg)|fail)
 all_goals exact ret_i rfl (by unfold cmpI;simp [*])
def orL:List Int→Int
 | []=>0
 | a::l=>if a=0 then orL l else a
set_option maxHeartbeats 8000000 in
theorem or_fnD (dr:Bool) (l:List Int):FnD dr 99 [.d (.slice 1 (l.map encI))] (fun r=>r = .d (.int .i64 (orL l))):=by
 refine fnp_enter' _ Tryz.func99 rfl rfl (by kernel_rfl) ?_
 intro O w0 E0 β0
 refine dw_len_map (t:=0) rfl fun hb=>?_
 repeat' (first|refine z0 ?_|apply ds_nil|apply dw_seq2|refine z16 ?_|apply dw_block|apply thenD_n)
 refine ds_loop (ι:=Nat) (fun i=>⟨0,[(3,.d (.int .i64 0)),(6,.d (.slice 1 (l.map encI))),(7,.d (.int .i64 l.length)),(8,.d (.int .i64 i))],[]⟩)
  (fun i=>i≤l.length∧orL l=orL (l.drop i)) (fun i=>l.length - i) 0 ⟨Nat.zero_le _,rfl⟩
  (ent_ren id ⟨rfl,rfl,by simp;rfl,rfl,trivial⟩ trivial rfl rfl rfl rfl rfl rfl) ?_
 rintro i ⟨h1,h2⟩
 repeat' (first|refine z0 ?_|apply ds_nil|apply dw_seq2|refine z16 ?_|apply thenD_n)
 refine dw_condP rfl (fun h=>?_) (fun h=>?_)
 ·have hi:i < l.length:=by omega
  have hd:=List.drop_eq_getElem_cons hi
  repeat' (first|refine z0 ?_|apply ds_nil|apply dw_seq2|refine z16 ?_|apply dw_block|apply dw_skip|apply thenD_n)
  refine dw_condP rfl (fun hb=>?_) (fun hb=>?_)
  ·repeat' (first|refine z0 ?_|apply ds_nil|apply dw_seq2|refine z16 ?_|apply dw_ret|apply thenD_n|apply thenD_r|apply inB_r)
   exact ret_i rfl (by rw [h2,hd,orL,if_neg hb])
  ·repeat' (first|refine z0 ?_|apply ds_nil|refine z16 ?_|apply dw_skip|apply thenD_n|apply inB_n)
   exact⟨i + 1,⟨hi,by rw [h2,hd,orL,if_pos (Decidable.not_not.1 hb)]⟩,ent_ren id ⟨rfl,rfl,rfl,rfl,trivial⟩ trivial rfl rfl rfl rfl rfl rfl,by omega⟩
 ·repeat' (first|refine z0 ?_|apply ds_nil|apply dw_seq2|refine z16 ?_|apply dw_exit|apply dw_ret|apply thenD_n|apply thenD_e|refine z17 ?_|fail)
  exact ret_i rfl (by rw [h2,List.drop_of_length_le (by omega)];rfl)
theorem ordL_step {l m:List Int} {i:Nat} (h1:i < l.length) (h2:i < m.length):ordL (l.drop i) (m.drop i)=if cmpI l[i] m[i]=0 then ordL (l.drop (i + 1)) (m.drop (i + 1)) else cmpI l[i] m[i]:=by
 rw [List.drop_eq_getElem_cons h1,List.drop_eq_getElem_cons h2,ordL]
theorem ordL_more {l m:List Int} {i:Nat} (h1:i < l.length) (h2:m.length≤i):ordL (l.drop i) (m.drop i)=1:=by
 rw [List.drop_eq_getElem_cons h1,List.drop_of_length_le h2];unfold ordL;rfl
theorem ordL_less {l m:List Int} {i:Nat} (h1:l.length≤i) (h2:i < m.length):ordL (l.drop i) (m.drop i) = -1:=by
 rw [List.drop_eq_getElem_cons h2,List.drop_of_length_le h1];unfold ordL;rfl
theorem ordL_end {l m:List Int} {i:Nat} (h1:l.length≤i) (h2:m.length≤i):ordL (l.drop i) (m.drop i)=0:=by
 rw [List.drop_of_length_le h1,List.drop_of_length_le h2];unfold ordL;rfl
set_option maxHeartbeats 8000000 in
theorem compareInts_fnD (dr:Bool) (l m:List Int):FnD dr 88 [.d (.slice 1 (l.map encI)),.d (.slice 1 (m.map encI))] (fun r=>r = .d (.int .i64 (ordL l m))):=by
 refine fnp_enter' _ Tryz.func88 rfl rfl (by kernel_rfl) ?_
 intro O w0 E0 β0
 refine dw_len_map (t:=0) rfl fun hb=>?_
 refine dw_len_map (t:=1) rfl fun hb2=>?_
 repeat' (first|refine z0 ?_|apply ds_nil|apply dw_seq2|refine z16 ?_|apply dw_block|apply thenD_n)
 refine ds_loop (ι:=Nat) (fun i=>⟨0,[(0,.d (.slice 1 (l.map encI))),(1,.d (.slice 1 (m.map encI))),(9,.d (.slice 1 (l.map encI))),(10,.d (.int .i64 l.length)),(11,.d (.int .i64 i))],[]⟩)
  (fun i=>i≤l.length∧i≤m.length∧ordL l m=ordL (l.drop i) (m.drop i)) (fun i=>l.length - i) 0 ⟨Nat.zero_le _,Nat.zero_le _,rfl⟩
  (ent_ren id ⟨rfl,rfl,rfl,by simp;rfl,rfl,trivial⟩ trivial rfl rfl rfl rfl rfl rfl) ?_
 rintro i ⟨h1,h2,h3⟩
 repeat' (first|refine z0 ?_|apply ds_nil|apply dw_seq2|refine z16 ?_|apply thenD_n)
 refine dw_condP rfl (fun h=>?_) (fun h=>?_)
 ·have hi:i < l.length:=by omega
  repeat' (first|refine z0 ?_|apply ds_nil|apply dw_seq2|refine z16 ?_|apply dw_block|apply dw_skip|apply thenD_n)
  refine dw_condP rfl (fun hb=>?_) (fun hb=>?_)
  ·repeat' (first|refine z0 ?_|apply ds_nil|apply dw_seq2|refine z16 ?_|apply dw_ret|apply thenD_n|apply thenD_r|apply inB_r)
   exact ret_i rfl (by rw [h3,ordL_more hi (by rw [List.length_map] at hb;omega)])
  ·have hm:i < m.length:=by rw [List.length_map] at hb;omega
   have hs:=ordL_step hi hm
   repeat' (first|refine z0 ?_|apply ds_nil|apply dw_seq2|refine z16 ?_|apply dw_skip|apply thenD_n|refine z21 ?_ (hc:=by apply compare_fnD)|fail)
   refine dw_condP rfl (fun hc=>?_) (fun hc=>?_)
   ·repeat' (first|refine z0 ?_|apply ds_nil|apply dw_seq2|refine z16 ?_|apply dw_ret|apply thenD_n|apply thenD_r|apply inB_r)
    exact ret_i rfl (by rw [h3,hs,if_neg hc])
   ·repeat' (first|refine z0 ?_|apply ds_nil|refine z16 ?_|apply dw_skip|apply thenD_n|apply inB_n)
    exact⟨i + 1,⟨hi,hm,by rw [h3,hs,if_pos (Decidable.not_not.1 hc)]⟩,ent_ren id ⟨rfl,rfl,rfl,rfl,rfl,trivial⟩ trivial rfl rfl rfl rfl rfl rfl,by omega⟩
 ·repeat' (first|refine z0 ?_|apply ds_nil|apply dw_seq2|refine z16 ?_|apply dw_exit|apply thenD_n|apply thenD_e|refine z17 ?_|fail)
  refine dw_condP rfl (fun hb=>?_) (fun hb=>?_)
  ·repeat' (first|refine z0 ?_|apply ds_nil|apply dw_seq2|refine z16 ?_|apply dw_ret|apply thenD_n|apply thenD_r)
   exact ret_i rfl (by rw [h3,ordL_less (by omega) (by rw [List.length_map,List.length_map] at hb;omega)])
  ·repeat' (first|refine z0 ?_|apply ds_nil|apply dw_seq2|refine z16 ?_|apply dw_skip|apply dw_ret|apply thenD_n)
   exact ret_i rfl (by rw [h3,ordL_end (by omega) (by rw [List.length_map,List.length_map] at hb;omega)])
theorem ordF_or (a b:Fct):ordF a b=orL [cmpI a.pred b.pred,ordL a.args b.args]:=by
 unfold ordF
 simp only [orL]
 split
 ·split
  ·assumption
  ·rfl
 ·rfl
set_option maxHeartbeats 8000000 in
theorem orderF_fnD (dr:Bool) (a b:Fct):FnD dr 63 [elFct a,elFct b] (fun r=>r = .d (.int .i64 (ordF a b))):=by
 refine fnp_enter' _ Tryz.func63 rfl rfl (by kernel_rfl) ?_
 intro O w0 E0 β0
 have ho:=or_fnD dr [cmpI a.pred b.pred,ordL a.args b.args]
 repeat' (first|refine z0 ?_|apply ds_nil|refine z5 ?_|refine z10 ?_|apply dw_seq2|refine z16 ?_|refine z20 ?_|apply dw_ret|apply thenD_n|refine z22 ?_ (hc:=by apply compare_fnD)|refine z22 ?_ (hc:=by apply compareInts_fnD)|refine z22 ?_ (hc:=by apply ho)|refine z1 ?_|fail)
 exact ret_i rfl (ordF_or a b).symm
theorem orderF_fn (a b:Fct):Fn 63 [elFct a,elFct b] (fun r=>r = .d (.int .i64 (ordF a b))):=orderF_fnD false a b

theorem fct_not {x y:Fct} {b:Bool} (h:decide (ordF x y≠0) = !b):Fct.same x y=b:=by
 unfold Fct.same
 cases b <;> simpa using h
theorem ordL_lt {l m:List Int} {i:Nat} (h1:i < l.length) (h2:i < m.length) (h:l[i] < m[i]):ordL (l.drop i) (m.drop i) = -1:=by
 have e:cmpI l[i] m[i] = -1:=by unfold cmpI;rw [if_pos h]
 rw [ordL_step h1 h2,e];rfl
theorem ordL_gt {l m:List Int} {i:Nat} (h1:i < l.length) (h2:i < m.length) (h:m[i] < l[i]):ordL (l.drop i) (m.drop i)=1:=by
 have e:cmpI l[i] m[i]=1:=by unfold cmpI;rw [if_neg (by omega),if_pos h]
 rw [ordL_step h1 h2,e];rfl
theorem ordL_eq {l m:List Int} {i:Nat} (h1:i < l.length) (h2:i < m.length) (h:l[i]=m[i]):ordL (l.drop i) (m.drop i)=ordL (l.drop (i + 1)) (m.drop (i + 1)):=by
 rw [ordL_step h1 h2,h,if_pos (cmpI_self _)]
theorem cmpI_eq (a b:Int):(cmpI a b=0)=(a=b):=by unfold cmpI;rw [eq_iff_iff];split <;> (try split) <;> simp <;> omega
set_option maxHeartbeats 8000000 in
theorem orderOf_fn (a b:Fct):Fn 42 [elFct a,elFct b] (fun r=>r = .d (.int .i64 (ordF a b))):=by
 refine fnp_enter' _ Tryz.func42 rfl rfl (by kernel_rfl) ?_
 intro O w0 E0 β0
 repeat' (first|refine z0 ?_|apply ds_nil|apply dw_seq2|refine z16 ?_|apply thenD_n|refine z1 ?_|fail)
 refine dw_condP rfl (fun hp=>?_) (fun hp=>?_)
 ·repeat' (first|refine z0 ?_|apply ds_nil|apply dw_seq2|refine z16 ?_|apply dw_skip|apply dw_ret|apply thenD_n|apply thenD_r|(refine z23 ?_ ?_ <;> intro hg)|fail)
  all_goals exact ret_i rfl (by unfold ordF;rw [if_neg (by rw [cmpI_eq];exact hp)];unfold cmpI;repeat' split;all_goals first|rfl|omega)
 ·have hF:ordF a b=ordL a.args b.args:=by unfold ordF;rw [if_pos (by rw [cmpI_eq];exact Decidable.not_not.1 hp)]
  repeat' (first|refine z0 ?_|apply ds_nil|apply dw_seq2|refine z16 ?_|apply dw_block|apply dw_skip|apply thenD_n)
  refine ds_loop (ι:=Nat) (fun i=>⟨2,[(2,.loc 0 0),(3,.loc 1 0),(5,.d (.int .i64 i))],[(0,.blk 48 [.d (.int .i64 a.pred),.d (.slice 1 (a.args.map encI))]),(1,.blk 48 [.d (.int .i64 b.pred),.d (.slice 1 (b.args.map encI))])]⟩)
   (fun i=>i≤a.args.length∧i≤b.args.length∧ordF a b=ordL (a.args.drop i) (b.args.drop i)) (fun i=>a.args.length - i) 0 ⟨Nat.zero_le _,Nat.zero_le _,hF⟩
   (ent_ren id ⟨rfl,rfl,rfl,trivial⟩ ⟨rfl,rfl,trivial⟩ rfl rfl rfl rfl rfl rfl) ?_
  rintro i ⟨h1,h2,h3⟩
  refine dw_lenC 0 1 rfl rfl fun hb=>?_
  have la:(a.args.map encI).length=a.args.length:=List.length_map _
  have lb:(b.args.map encI).length=b.args.length:=List.length_map _
  repeat' (first|refine z0 ?_|refine z12 ?_|apply ds_nil|refine z5 ?_|refine z10 ?_|apply dw_seq2|refine z16 ?_|refine z20 ?_|apply dw_block|apply dw_skip|apply dw_exit|apply dw_ret|refine z19 ?_|apply thenD_n|apply thenD_e|apply thenD_r|apply inB_n|apply inB_r|refine z17 ?_|(refine z23 ?_ ?_ <;> intro hg)|((fail_if_success (apply ds_known;exact rfl));apply ds_guardP;exact rfl;exact rfl;exact rfl;all_goals intro hg))
  all_goals first
   | (refine ret_i rfl (Eq.trans ?_ h3.symm);refine (ordL_lt ?_ ?_ ?_).symm <;> first|assumption|omega)
   | (refine ret_i rfl (Eq.trans ?_ h3.symm);refine (ordL_gt ?_ ?_ ?_).symm <;> first|assumption|omega)
   | (refine ret_i rfl (Eq.trans ?_ h3.symm);refine (ordL_less ?_ ?_).symm <;> omega)
   | (refine ret_i rfl (Eq.trans ?_ h3.symm);refine (ordL_more ?_ ?_).symm <;> omega)
   | (refine ret_i rfl (Eq.trans ?_ h3.symm);refine (ordL_end ?_ ?_).symm <;> omega)
   | (refine⟨i + 1,⟨?_,?_,h3.trans (ordL_eq ?_ ?_ ?_)⟩,ent_ren id ⟨rfl,rfl,rfl,trivial⟩ ⟨rfl,rfl,trivial⟩ rfl rfl rfl rfl rfl rfl,?_⟩ <;> omega)
set_option maxHeartbeats 8000000 in
theorem sameFacts_fn (l m:List (Fct)):Fn 28 [.d (.slice 2 (l.map encFct)),.d (.slice 2 (m.map encFct))] (fun r=>r = .d (.bool (sameL Fct.same l m))):=by
 refine fnp_enter' _ Tryz.func28 rfl rfl (by kernel_rfl) ?_
 intro O w0 E0 β0
 refine dw_len_map (t:=0) rfl fun hb=>?_
 repeat' (first|refine z0 ?_|apply ds_nil|apply dw_seq2|refine z16 ?_|apply thenD_n)
 refine dw_condP rfl (fun h=>?_) (fun h=>?_)
 ·have hne:l.length≠m.length:=by rw [List.length_map,List.length_map] at h;omega
  repeat' (first|refine z0 ?_|apply ds_nil|apply dw_seq2|refine z16 ?_|apply dw_ret|apply thenD_n|apply thenD_r)
  exact ret_b rfl (sameL_len _ _ _ hne).symm
 ·have hlen:l.length=m.length:=by rw [List.length_map,List.length_map] at h;omega
  repeat' (first|refine z0 ?_|apply ds_nil|apply dw_seq2|refine z16 ?_|apply dw_block|apply dw_skip|apply thenD_n)
  refine ds_loop (ι:=Nat) (fun i=>⟨0,[(0,.d (.slice 2 (l.map encFct))),(1,.d (.slice 2 (m.map encFct))),(5,.d (.int .i64 i))],[]⟩)
   (fun i=>i≤l.length∧sameL Fct.same l m=sameL Fct.same (l.drop i) (m.drop i)) (fun i=>l.length - i) 0 ⟨Nat.zero_le _,rfl⟩
   (ent_ren id ⟨rfl,rfl,rfl,trivial⟩ trivial rfl rfl rfl rfl rfl rfl) ?_
  rintro i ⟨h1,h2⟩
  repeat' (first|refine z0 ?_|apply ds_nil|apply dw_seq2|refine z16 ?_|apply thenD_n)
  refine dw_condP rfl (fun h=>?_) (fun h=>?_)
  ·have hi:i < l.length:=by rw [List.length_map] at h;omega
   have hm:i < m.length:=by omega
   have hd:=sameL_drop Fct.same l m i hi hm
   repeat' (first|refine z5 ?_|refine z10 ?_|apply dw_seq2|refine z20 ?_|apply dw_block|apply dw_skip|apply thenD_n|refine z22 ?_ (hc:=by apply orderOf_fn)|fail)
   refine dw_cond rfl (fun hb=>?_) (fun hb=>?_)
   ·have hp:Fct.same l[i] m[i]=false:=by exact fct_not hb
    repeat' (first|refine z0 ?_|apply ds_nil|apply dw_seq2|refine z16 ?_|apply dw_ret|apply thenD_n|apply thenD_r|apply inB_r)
    exact ret_b rfl (by rw [h2,hd,hp];rfl)
   ·have hp:Fct.same l[i] m[i]=true:=by exact fct_not hb
    repeat' (first|refine z0 ?_|apply ds_nil|refine z16 ?_|apply dw_skip|apply thenD_n|apply inB_n)
    exact⟨i + 1,⟨hi,by rw [h2,hd,hp];rfl⟩,ent_ren id ⟨rfl,rfl,rfl,trivial⟩ trivial rfl rfl rfl rfl rfl rfl,by omega⟩
  ·repeat' (first|refine z0 ?_|apply ds_nil|apply dw_seq2|refine z16 ?_|apply dw_exit|apply dw_ret|apply thenD_n|apply thenD_e|refine z17 ?_|fail)
   exact ret_b rfl (by rw [h2,sameL_end _ _ _ _ (by rw [List.length_map] at h;omega) (by rw [List.length_map] at h;omega)])
def hasF (l:List Fct) (f:Fct):Bool:=l.any fun x=>decide (ordF x f=0)
def kFrom (l:List Fct) (f:Fct):Nat→Nat
 | 0=>0
 | n + 1=>match l[n]? with
  | some x=>if 0 < ordF x f then kFrom l f n else n + 1
  | none=>n + 1
def insF (l:List Fct) (f:Fct):List Fct:=if hasF l f then l else l.take (kFrom l f l.length)++f::l.drop (kFrom l f l.length)
def setF' (l:List Fct):List Fct:=l.foldl insF []
theorem kFrom_succ {l:List Fct} {f:Fct} {n:Nat} (h:n < l.length):kFrom l f (n + 1)=if 0 < ordF l[n] f then kFrom l f n else n + 1:=by
 rw [kFrom,List.getElem?_eq_getElem h]
theorem insF_len (l:List Fct) (f:Fct):(insF l f).length≤l.length + 1:=by
 unfold insF
 split
 ·omega
 ·simp;omega
theorem setF_len:∀ (l o:List Fct),(l.foldl insF o).length≤l.length + o.length
 | [],o=>by simp
 | x::l,o=>by
  have:=setF_len l (insF o x)
  have:=insF_len o x
  rw [List.foldl_cons,List.length_cons]
  omega
set_option maxHeartbeats 8000000 in
theorem hasFact_fn (l:List Fct) (f:Fct):Fn 19 [.d (.slice 2 (l.map encFct)),elFct f] (fun r=>r = .d (.bool (hasF l f))):=by
 refine fnp_enter' _ Tryz.func19 rfl rfl (by kernel_rfl) ?_
 intro O w0 E0 β0
 have la:(l.map encFct).length=l.length:=List.length_map _
 refine dw_len (t:=0) rfl (fun hk=>?_)
 unfold hasF
 repeat' (first|refine z0 ?_|apply ds_nil|apply dw_seq2|refine z16 ?_|apply dw_block|apply thenD_n|refine z1 ?_|fail)
 refine ds_loop (ι:=Nat) (fun i=>⟨1,[(0,.d (.slice 2 (l.map encFct))),(3,.loc 0 0),(4,.d (.bool false)),(5,.d (.int .i64 i))],[(0,.blk 48 [.d (.int .i64 f.pred),.d (.slice 1 (f.args.map encI))])]⟩)
  (fun i=>i≤l.length∧(l.any fun x=>decide (ordF x f=0))=((l.drop i).any fun x=>decide (ordF x f=0))) (fun i=>l.length - i) 0 ⟨Nat.zero_le _,rfl⟩ (ent_ren id ⟨rfl,rfl,rfl,rfl,trivial⟩ ⟨rfl,trivial⟩ rfl rfl rfl rfl rfl rfl) ?_
 rintro i ⟨g1,g2⟩
 by_cases hi:i < l.length
 ·have w:=orderOf_fn l[i] f
  rw [List.drop_eq_getElem_cons hi,List.any_cons] at g2
  generalize ordF l[i] f=q at w g2
  repeat' (first|refine z0 ?_|apply ds_nil|refine z5 ?_|refine z10 ?_|apply dw_seq2|refine z16 ?_|refine z20 ?_|apply dw_block|apply dw_skip|apply dw_exit|apply dw_ret|apply thenD_n|apply thenD_e|apply thenD_r|apply inB_n|apply inB_r|refine z17 ?_|refine z22 ?_ (hc:=by apply w)|(refine z23 ?_ ?_ <;> intro hg)|fail)
  all_goals first
   | (exfalso;omega)
   | (refine ret_b rfl ?_;rw [g2];simp_all;done)
   | exact⟨i + 1,⟨by omega,by rw [g2];simp_all⟩,ent_ren id ⟨rfl,rfl,rfl,rfl,trivial⟩ ⟨rfl,trivial⟩ rfl rfl rfl rfl rfl rfl,by show l.length - (i + 1) < l.length - i;omega⟩
 ·rw [List.drop_of_length_le (by omega)] at g2
  repeat' (first|refine z0 ?_|apply ds_nil|refine z5 ?_|apply dw_seq2|refine z16 ?_|refine z20 ?_|apply dw_block|apply dw_skip|apply dw_exit|apply dw_ret|apply thenD_n|apply thenD_e|refine z17 ?_|(refine z23 ?_ ?_ <;> intro hg)|fail)
  all_goals first
   | (exfalso;omega)
   | exact ret_b rfl g2.symm
end Go.Proofs.YtapciiffpnociacGreat
