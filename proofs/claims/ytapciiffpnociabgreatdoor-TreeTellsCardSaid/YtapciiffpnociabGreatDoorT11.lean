/- Several texts in one: TreD ScoC ScoD ScoF TreW TreE TreQ GxTail GxSpl. Condition: none. -/
import Derived.Test.YtapciiffpnociabGreatDoorT10
import Derived.Test.YtapciiffpnociabGreatDoorT08
import Derived.Test.YtapciiffpnociabGreatDoorT09
namespace Go.Proofs.YtapciiffpnociabGreatDoor
open Go Go.RowKit
attribute [local irreducible] DW DS DL DQ Ev FnOk FnP FnOkE thenD inBlockD
abbrev tmV (t:TTm):SV:=.agg [.d (.str t.var),.d (.int .i64 t.n)]
theorem i64_wf {n:Int} (h1:-9223372036854775808≤n) (h2:n≤9223372036854775807):(Lit.int .i64 n).wf=true:=by
 simp [Lit.wf,IntKind.min,IntKind.max,IntKind.bits,IntKind.signed]
 omega
set_option maxHeartbeats 8000000 in
theorem pterm_fn (l:List Tok) (i:Nat) (e:Int) (hi:i≤1000000) (hok:l.all tokOk=true):FnOkE false Tryz.prog tab tab_ok 107 [.loc 0 0] 1 1 (prH l i e) (fun k r H=>∃ t j,termT l i = .ok (t,j)∧j≤i + 2∧k=1∧r=tmV t∧H=prH l j e) (fun v=>∃ j,termT l i = .error j∧v=plV (hereT l e j)):=by
 refine fn_enterRE _ Tryz.func107 rfl rfl (by kernel_rfl) ?_
 intro O w0 E0 β0
 have ll:(l.map encTok).length=l.length:=List.length_map _
 have w1:=ptake_fn l i e ⟨#[45]⟩ hi
 repeat' (first|refine z0 ?_|apply ds_nil|apply dw_seq2|refine z16 ?_|apply thenD_n|refine z1 ?_|fail)
 (refine ds_callF id (w1) rfl rfl rfl rfl ⟨rfl,trivial⟩ rfl rfl rfl rfl rfl rfl ?_ ?_)
 ·rintro k2 res H2 ⟨rfl,rfl,rfl⟩;exact⟨rfl,rfl⟩
 rintro k2 res H2 ⟨rfl,rfl,rfl⟩
 change DS _ _ _ _ _ _ _ _
 clear w1
 unfold termT
 cases seesT l i ⟨#[45]⟩ with
 | true =>
  dsimp only
  by_cases hl:i + 1 < l.length
  ·rw [List.getElem?_eq_getElem hl]
   dsimp only
   have hot:=List.all_eq_true.1 hok _ (List.getElem_mem hl)
   rw [if_neg (fun h=>Bool.noConfusion h.2)]
   by_cases hk:l[i + 1].kind=3∧l[i + 1].text≠⟨#[48]⟩
   ·obtain⟨b1,b2⟩:=numT_bound hot hk.1
    obtain⟨c1,c2,c3⟩:=ok_num hot hk.1
    have w3:=atoi_fn l[i + 1].text (numT l[i + 1].text) (by omega) (atoi_num c1 c3) (i64_wf (by omega) (by omega))
    rw [if_neg (fun h=>h.elim (fun h=>h hk.1) (fun h=>hk.2 h.2))]
    repeat' (first|refine z0 ?_|refine z12 ?_|apply ds_nil|refine z5 ?_|refine z6 ?_|refine z7 ?_|refine z10 ?_|refine z11 ?_|apply dw_seq2|refine z16 ?_|refine z20 ?_|apply dw_block|apply dw_skip|apply dw_ret|refine z18 ?_|refine z19 ?_|apply thenD_n|apply inB_n|refine z21 ?_ (hc:=by apply w3)|refine z3 ?_|(refine z23 ?_ ?_ <;> intro hg)|((fail_if_success (apply ds_known;exact rfl));apply ds_guardP;exact rfl;exact rfl;exact rfl;all_goals intro hg))
    all_goals try (exfalso;first|omega|exact absurd (by assumption) hk.2)
    exact⟨.inl rfl,_,rfl,id,1,_,prH l (i + 1 + 1:Nat) e,rfl,⟨rfl,trivial⟩,rfl,rfl,rfl,rfl,rfl,rfl,_,_,rfl,by omega,rfl,rfl,rfl⟩
   ·rw [if_pos (Classical.or_iff_not_imp_left.2 fun h=>⟨rfl,Classical.byContradiction fun h2=>hk ⟨Classical.byContradiction h,h2⟩⟩)]
    have w2:=fail_fn l (i + 1) e
    repeat' (first|refine z0 ?_|refine z12 ?_|apply ds_nil|refine z5 ?_|refine z6 ?_|refine z7 ?_|refine z10 ?_|refine z11 ?_|apply dw_seq2|refine z16 ?_|refine z20 ?_|apply dw_block|apply dw_skip|refine z18 ?_|refine z19 ?_|apply thenD_n|apply inB_n|refine z3 ?_|(refine z23 ?_ ?_ <;> intro hg)|((fail_if_success (apply ds_known;exact rfl));apply ds_guardP;exact rfl;exact rfl;exact rfl;all_goals intro hg))
    all_goals try (exfalso;first|omega|exact hk ⟨by omega,by assumption⟩)
    all_goals (refine ds_callE id w2 rfl rfl rfl rfl ⟨rfl,trivial⟩ rfl rfl rfl rfl rfl rfl ?_ ?_ ?_;(rintro v rfl;exact⟨_,rfl,rfl⟩);(rintro _ _ _ h;exact h.elim);(rintro _ _ _ h;exact h.elim))
  ·rw [List.getElem?_eq_none (by omega)]
   dsimp only
   have w2:=fail_fn l (i + 1) e
   repeat' (first|refine z0 ?_|refine z12 ?_|apply ds_nil|refine z5 ?_|refine z6 ?_|refine z7 ?_|refine z10 ?_|refine z11 ?_|apply dw_seq2|refine z16 ?_|refine z20 ?_|apply dw_block|apply dw_skip|refine z18 ?_|refine z19 ?_|apply thenD_n|apply inB_n|refine z3 ?_|(refine z23 ?_ ?_ <;> intro hg)|((fail_if_success (apply ds_known;exact rfl));apply ds_guardP;exact rfl;exact rfl;exact rfl;all_goals intro hg))
   all_goals try (exfalso;omega)
   refine ds_callE id w2 rfl rfl rfl rfl ⟨rfl,trivial⟩ rfl rfl rfl rfl rfl rfl ?_ ?_ ?_
   ·rintro v rfl;exact⟨_,rfl,rfl⟩
   ·rintro _ _ _ h;exact h.elim
   ·rintro _ _ _ h;exact h.elim
 | false =>
  dsimp only
  by_cases hl:i < l.length
  ·rw [List.getElem?_eq_getElem hl]
   dsimp only
   have hot:=List.all_eq_true.1 hok _ (List.getElem_mem hl)
   by_cases hv:l[i].kind=2
   ·rw [if_pos ⟨hv,rfl⟩]
    repeat' (first|refine z0 ?_|refine z12 ?_|apply ds_nil|refine z5 ?_|refine z6 ?_|refine z7 ?_|refine z10 ?_|refine z11 ?_|apply dw_seq2|refine z16 ?_|refine z20 ?_|apply dw_block|apply dw_skip|apply dw_ret|refine z18 ?_|refine z19 ?_|apply thenD_n|apply thenD_r|apply inB_n|apply inB_r|refine z3 ?_|(refine z23 ?_ ?_ <;> intro hg)|((fail_if_success (apply ds_known;exact rfl));apply ds_guardP;exact rfl;exact rfl;exact rfl;all_goals intro hg))
    all_goals try (exfalso;omega)
    exact⟨.inl rfl,_,rfl,id,1,_,prH l (i + 1:Nat) e,rfl,⟨rfl,trivial⟩,rfl,rfl,rfl,rfl,rfl,rfl,_,_,rfl,by omega,rfl,rfl,rfl⟩
   rw [if_neg (fun h=>hv h.1)]
   by_cases hk:l[i].kind=3
   ·obtain⟨b1,b2⟩:=numT_bound hot hk
    obtain⟨c1,c2,c3⟩:=ok_num hot hk
    have w3:=atoi_fn l[i].text (numT l[i].text) (by omega) (atoi_num c1 c3) (i64_wf (by omega) (by omega))
    rw [if_neg (fun h=>h.elim (fun h=>h hk) (fun h=>Bool.noConfusion h.1))]
    repeat' (first|refine z0 ?_|refine z12 ?_|apply ds_nil|refine z5 ?_|refine z6 ?_|refine z7 ?_|refine z10 ?_|refine z11 ?_|apply dw_seq2|refine z16 ?_|refine z20 ?_|apply dw_block|apply dw_skip|apply dw_ret|refine z18 ?_|refine z19 ?_|apply thenD_n|apply thenD_r|apply inB_n|apply inB_r|refine z21 ?_ (hc:=by apply w3)|refine z3 ?_|(refine z23 ?_ ?_ <;> intro hg)|((fail_if_success (apply ds_known;exact rfl));apply ds_guardP;exact rfl;exact rfl;exact rfl;all_goals intro hg))
    all_goals try (exfalso;first|omega|exact absurd (by assumption) hk.2)
    exact⟨.inl rfl,_,rfl,id,1,_,prH l (i + 1:Nat) e,rfl,⟨rfl,trivial⟩,rfl,rfl,rfl,rfl,rfl,rfl,_,_,rfl,by omega,rfl,rfl,rfl⟩
   ·rw [if_pos (.inl hk)]
    have w2:=fail_fn l (i) e
    repeat' (first|refine z0 ?_|refine z12 ?_|apply ds_nil|refine z5 ?_|refine z6 ?_|refine z7 ?_|refine z10 ?_|refine z11 ?_|apply dw_seq2|refine z16 ?_|refine z20 ?_|apply dw_block|apply dw_skip|refine z18 ?_|refine z19 ?_|apply thenD_n|apply inB_n|refine z3 ?_|(refine z23 ?_ ?_ <;> intro hg)|((fail_if_success (apply ds_known;exact rfl));apply ds_guardP;exact rfl;exact rfl;exact rfl;all_goals intro hg))
    all_goals try (exfalso;first|omega|exact hk ⟨by omega,by assumption⟩)
    all_goals (refine ds_callE id w2 rfl rfl rfl rfl ⟨rfl,trivial⟩ rfl rfl rfl rfl rfl rfl ?_ ?_ ?_;(rintro v rfl;exact⟨_,rfl,rfl⟩);(rintro _ _ _ h;exact h.elim);(rintro _ _ _ h;exact h.elim))
  ·rw [List.getElem?_eq_none (by omega)]
   dsimp only
   have w2:=fail_fn l (i) e
   repeat' (first|refine z0 ?_|refine z12 ?_|apply ds_nil|refine z5 ?_|refine z6 ?_|refine z7 ?_|refine z10 ?_|refine z11 ?_|apply dw_seq2|refine z16 ?_|refine z20 ?_|apply dw_block|apply dw_skip|refine z18 ?_|refine z19 ?_|apply thenD_n|apply inB_n|refine z3 ?_|(refine z23 ?_ ?_ <;> intro hg)|((fail_if_success (apply ds_known;exact rfl));apply ds_guardP;exact rfl;exact rfl;exact rfl;all_goals intro hg))
   all_goals try (exfalso;omega)
   refine ds_callE id w2 rfl rfl rfl rfl ⟨rfl,trivial⟩ rfl rfl rfl rfl rfl rfl ?_ ?_ ?_
   ·rintro v rfl;exact⟨_,rfl,rfl⟩
   ·rintro _ _ _ h;exact h.elim
   ·rintro _ _ _ h;exact h.elim
attribute [local irreducible] DT
theorem isT_pos {bs:List Bool} {t:Trm} (h:t.var < 0):isT bs t=true:=by unfold isT;rw [decide_eq_true h];rfl
theorem isT_neg {bs:List Bool} {t:Trm} (h:¬ t.var < 0) (h2:t.var < (bs.length:Int)):isT bs t=bs[t.var.toNat]'(by omega):=by
 unfold isT
 rw [decide_eq_false h,Bool.false_or,List.getD,List.getElem?_eq_getElem (by omega)];rfl
def Fl (b0 bs:List Bool) (ch:Bool):Prop:=bs.length=b0.length∧bs.count false≤b0.count false∧(ch=false→bs=b0)∧(ch=true→bs.count false < b0.count false)
theorem Fl.refl (b0:List Bool):Fl b0 b0 false:=⟨rfl,Nat.le_refl _,fun _=>rfl,fun h=>by cases h⟩
theorem count_set:∀ {bs:List Bool} {i:Nat} (_:i < bs.length),bs[i]? = some false→(bs.set i true).count false + 1=bs.count false
 | [],_,h,_=>by simp at h
 | b::bs,0,_,hb=>by simp at hb;subst hb;simp
 | b::bs,i + 1,h,hb=>by
  have:=count_set (bs:=bs) (i:=i) (by simpa using h) (by simpa using hb)
  rw [List.set_cons_succ,List.count_cons,List.count_cons]
  omega
theorem setT_count {bs:List Bool} {t:Trm} (hok:okT bs.length t) (h:isT bs t=false):(setT bs t).count false + 1=bs.count false∧¬ t.var < 0:=by
 have hn:¬ t.var < 0:=fun hn=>by rw [isT_pos hn] at h;cases h
 unfold okT at hok
 rw [isT_neg hn hok] at h
 unfold setT
 rw [if_neg hn]
 exact⟨count_set (by omega) (by rw [List.getElem?_eq_getElem (by omega),h]),hn⟩
theorem Fl.step {b0 bs:List Bool} {ch:Bool} {t:Trm} (h:Fl b0 bs ch) (hok:okT bs.length t):Fl b0 (setT bs t) (ch || !isT bs t):=by
 obtain⟨h1,h2,h3,h4⟩:=h
 cases ht:isT bs t with
 | true=>rw [setT_same ht,Bool.not_true,Bool.or_false];exact⟨h1,h2,h3,h4⟩
 | false =>
  obtain⟨g1,_⟩:=setT_count hok ht
  rw [Bool.not_false,Bool.or_true]
  exact⟨by rw [setT_len,h1],by omega,fun h=>by (cases h),fun _=>by omega⟩

set_option maxHeartbeats 8000000 in
theorem isWord_fn (s:ByteArray):Fn 55 [.d (.str s)] (fun r=>r = .d (.bool (wordB s))):=by
 refine fnp_enter' _ Tryz.func55 rfl rfl (by kernel_rfl) ?_
 intro O w0 E0 β0
 unfold wordB wordsL
 repeat' (first|refine z0 ?_|refine z12 ?_|apply ds_nil|apply dw_seq2|refine z16 ?_|apply dw_ret|apply thenD_n|((fail_if_success (apply ds_known;exact rfl));apply ds_guardP;exact rfl;exact rfl;exact rfl;all_goals intro hg))
 all_goals exact ret_b rfl (by simp_all [eqS])
def nameR (s:ByteArray):Bool:=isTok 1 s && !wordB s
set_option maxHeartbeats 8000000 in
theorem isName_fn (s:ByteArray):Fn 26 [.d (.str s)] (fun r=>r = .d (.bool (nameR s))):=by
 refine fnp_enter' _ Tryz.func26 rfl rfl (by kernel_rfl) ?_
 intro O w0 E0 β0
 unfold nameR
 repeat' (first|refine z0 ?_|refine z12 ?_|apply ds_nil|apply dw_seq2|refine z16 ?_|apply dw_ret|apply thenD_n|refine z21 ?_ (hc:=by apply isToken_fn)|refine z21 ?_ (hc:=by apply isWord_fn)|((fail_if_success (apply ds_known;exact rfl));apply ds_guardB;exact rfl;exact rfl;exact rfl;all_goals intro hg))
 all_goals exact ret_b rfl (by simp_all)
def rdRes {α:Type} (p:PR α) (l:List Tok) (e:Int) (enc:α→SV) (junk:SV→Prop) (r:SV) (H:Hp):Prop:=match p with
 | .ok (x,j)=>r=enc x∧H=rdH l j e false
 | .error j=>junk r∧H=rdH l j e true
def rdP {α:Type} (f:Bool) (i:Nat) (p:PR α):PR α:=match f with
 | true=>.error i
 | false=>p
theorem tok_first {t:Tok} (h:tokOk t=true):∃ h0:0 < t.text.size,greatB t.text[0]=decide (t.kind=2)∧digitB t.text[0]=decide (t.kind=3)∧smallB t.text[0]=decide (t.kind=1):=by
 obtain⟨h0,_,h2,h3⟩:=ok_parts h
 obtain⟨r,hr⟩:=first_byte t.text h0
 refine⟨h0,?_⟩
 rw [hr,tokAt_cons] at h2
 generalize t.text[0]=c at *
 have x1:smallB c=true→greatB c=false∧digitB c=false:=by
  unfold smallB greatB digitB
  simp only [Bool.and_eq_true,decide_eq_true_eq,Bool.and_eq_false_iff,decide_eq_false_iff_not]
  omega
 have x2:greatB c=true→digitB c=false:=by
  unfold greatB digitB
  simp only [Bool.and_eq_true,decide_eq_true_eq,Bool.and_eq_false_iff,decide_eq_false_iff_not]
  omega
 unfold letterB at h2
 have hne:t.kind≠0:=tokErr_kind h3
 cases hs:smallB c with
 | true =>
  obtain⟨y1,y2⟩:=x1 hs
  rw [hs] at h2
  simp only [Bool.true_or,if_true] at h2
  have:=(Prod.mk.inj h2).1
  rw [y1,y2,← this]
  decide
 | false =>
  cases hg:greatB c with
  | true =>
   have y2:=x2 hg
   rw [hs,hg] at h2
   simp only [Bool.or_true,if_true,Bool.false_eq_true,if_false] at h2
   have:=(Prod.mk.inj h2).1
   rw [y2,← this]
   decide
  | false =>
   rw [hs,hg] at h2
   simp only [Bool.or_self,Bool.false_eq_true,if_false] at h2
   cases hd:digitB c with
   | true =>
    rw [hd] at h2
    simp only [if_true] at h2
    have:=(Prod.mk.inj h2).1
    rw [← this]
    decide
   | false =>
    rw [hd] at h2
    simp only [Bool.false_eq_true,if_false] at h2
    have:t.kind=4∨t.kind=0:=by
     split at h2
     ·exact .inl (Prod.mk.inj h2).1.symm
     ·split at h2
      ·exact .inl (Prod.mk.inj h2).1.symm
      ·exact .inr (Prod.mk.inj h2).1.symm
    rcases this with h|h
    ·rw [h];decide
    ·exact absurd h hne
theorem nameRS (s:ByteArray):nameR s=nameS s:=by unfold nameR nameS;rw [oneS_eq]
theorem nameS_nil:nameS ⟨#[]⟩=false:=by kernel_rfl
def numK (s:ByteArray) (k:Nat):Int:=(s.data.toList.take k).foldl (fun n c=>10 * n + ((c.toNat:Int) - 48)) 0
theorem numK_all (s:ByteArray):numK s s.size=numT s:=by
 unfold numK numT
 rw [List.take_of_length_le (by rw [show s.data.toList.length=s.size from Array.length_toList];exact Nat.le_refl _)]
theorem numK_succ (s:ByteArray) (k:Nat) (h:k < s.size):numK s (k + 1)=10 * numK s k + (s[k].toNat:Int) - 48:=by
 unfold numK
 have hl:k < s.data.toList.length:=by rw [show s.data.toList.length=s.size from Array.length_toList];exact h
 rw [List.take_succ_eq_append_getElem hl,List.foldl_append]
 show 10 * _ + (((s.data.toList[k]).toNat:Int) - 48)=_
 have:s.data.toList[k]=s[k]:=by rw [Array.getElem_toList];rfl
 rw [this]
 omega
theorem fold_bound:∀ (l:List UInt8) (a:Int) (k:Nat),(∀ c∈l,digitB c=true)→0≤a→a < 10 ^ k→0≤l.foldl (fun n c=>10 * n + ((c.toNat:Int) - 48)) a∧l.foldl (fun n c=>10 * n + ((c.toNat:Int) - 48)) a < 10 ^ (k + l.length):=by
 intro l
 induction l with
 | nil=>intro a k _ h0 h1;exact⟨h0,h1⟩
 | cons c l ih =>
  intro a k hd h0 h1
  have hc:=hd c (List.mem_cons_self ..)
  unfold digitB at hc
  simp only [Bool.and_eq_true,decide_eq_true_eq] at hc
  have:=ih (10 * a + ((c.toNat:Int) - 48)) (k + 1) (fun x hx=>hd x (List.mem_cons_of_mem _ hx)) (by omega) (by rw [Int.pow_succ];omega)
  rw [List.foldl_cons,List.length_cons,show k + (l.length + 1)=k + 1 + l.length by omega]
  exact this
theorem numK_bound {s:ByteArray} (h7:s.size≤7) (hd:∀ c∈s.data.toList,digitB c=true) (k:Nat):0≤numK s k∧numK s k≤9999999:=by
 have:=fold_bound (s.data.toList.take k) 0 0 (fun c hc=>hd c (List.mem_of_mem_take hc)) (Int.le_refl _) (by decide)
 unfold numK
 refine⟨this.1,?_⟩
 have h2:=this.2
 have hl:(s.data.toList.take k).length≤7:=by
  rw [List.length_take,show s.data.toList.length=s.size from Array.length_toList]
  omega
 have:(10:Int) ^ (0 + (s.data.toList.take k).length)≤10 ^ 7:=by
  have h3:(10:Nat) ^ (0 + (s.data.toList.take k).length)≤10 ^ 7:=Nat.pow_le_pow_right (by decide) (by omega)
  exact_mod_cast h3
 have h4:(10:Int) ^ 7=10000000:=by decide
 omega
set_option maxHeartbeats 8000000 in
theorem rname_fn (l:List Tok) (i:Nat) (e:Int) (f:Bool) (hi:i≤1000000):FnOk false Tryz.prog tab tab_ok 34 [.loc 0 0] 1 1 (rdH l i e f) (fun k r H=>k=1∧rdRes (rdP f i (nameT l i)) l e (fun s=>.d (.str s)) (fun r=>∃ s,r = .d (.str s)) r H):=by
 refine fn_enterR _ Tryz.func34 rfl rfl (by kernel_rfl) ?_
 intro O w0 E0 β0
 have w1:=rtext_fn l i e f
 have w2:=isName_fn (textT l i f)
 rw [nameRS] at w2
 have hn:rdP f i (nameT l i)=match nameS (textT l i f) with|true=>.ok (textT l i f,i + 1)|false=>.error i:=by
  unfold rdP nameT textT
  cases f with
  | true=>rw [nameS_nil]
  | false =>
   dsimp only
   cases l[i]? with
   | none=>dsimp only;rw [nameS_nil]
   | some t =>
    dsimp only
    cases nameS t.text <;> rfl
 rw [hn]
 unfold rdRes
 repeat' (first|refine z0 ?_|apply ds_nil|apply dw_seq2|refine z16 ?_|apply thenD_n)
 (refine ds_callF id (w1) rfl rfl rfl rfl ⟨rfl,trivial⟩ rfl rfl rfl rfl rfl rfl ?_ ?_)
 ·rintro k2 res H2 ⟨rfl,rfl,rfl⟩;exact⟨rfl,rfl⟩
 rintro k2 res H2 ⟨rfl,rfl,rfl⟩
 change DS _ _ _ _ _ _ _ _
 clear w1 hn
 have hf:nameS (textT l i f)=true→f=false:=fun h=>by
  cases f with
  | false=>rfl
  | true=>rw [textT_failed,nameS_nil] at h;cases h
 generalize textT l i f=t at *
 cases hs:nameS t with
 | true =>
  rw [hs] at w2
  cases hf hs
  repeat' (first|refine z0 ?_|apply ds_nil|apply dw_seq2|refine z16 ?_|apply dw_skip|apply dw_ret|refine z19 ?_|apply thenD_n|refine z21 ?_ (hc:=by apply w2)|refine z3 ?_|fail)
  exact⟨.inl rfl,_,rfl,id,1,_,rdH l (i + 1:Nat) e false,rfl,⟨rfl,trivial⟩,rfl,rfl,rfl,rfl,rfl,rfl,rfl,rfl,rfl⟩
 | false =>
  rw [hs] at w2
  repeat' (first|refine z0 ?_|apply ds_nil|apply dw_seq2|refine z16 ?_|apply dw_ret|refine z18 ?_|apply thenD_n|apply thenD_r|refine z21 ?_ (hc:=by apply w2)|refine z3 ?_|fail)
  exact⟨.inl rfl,_,rfl,id,1,_,rdH l i e true,rfl,⟨rfl,trivial⟩,rfl,rfl,rfl,rfl,rfl,rfl,rfl,⟨_,rfl⟩,rfl⟩
theorem greatI (c:UInt8):(decide ((65:Int)≤c.toNat) && decide ((c.toNat:Int)≤90))=greatB c:=by unfold greatB;rfl
theorem minus_first {t:Tok} (hm:t.text=⟨#[45]⟩) (h:tokOk t=true):t.kind≠2:=by
 obtain⟨h0,h1,_⟩:=tok_first h
 intro hk
 rw [hk] at h1
 have:t.text[0]=45:=by simp only [hm];rfl
 rw [this,show greatB 45=false by unfold greatB;decide] at h1
 cases h1
theorem termT_var {l:List Tok} {i:Nat} (hi:i < l.length) (hot:tokOk l[i]=true) (hk:l[i].kind=2):termT l i = .ok (⟨l[i].text,0⟩,i + 1):=by
 have hn:seesT l i ⟨#[45]⟩=false:=by
  unfold seesT
  rw [List.getElem?_eq_getElem hi]
  exact decide_eq_false fun hm=>minus_first hm hot hk
 unfold termT
 rw [hn]
 dsimp only
 rw [List.getElem?_eq_getElem hi]
 dsimp only
 rw [if_pos ⟨hk,rfl⟩]
theorem termT_pos {l:List Tok} {i:Nat} (hi:i < l.length) (hn:l[i].text≠⟨#[45]⟩) (hk:l[i].kind≠2):termT l i=if l[i].kind=3 then .ok (⟨⟨#[]⟩,1 * numT l[i].text⟩,i + 1) else .error i:=by
 have hn:seesT l i ⟨#[45]⟩=false:=by
  unfold seesT
  rw [List.getElem?_eq_getElem hi]
  exact decide_eq_false hn
 unfold termT
 rw [hn]
 dsimp only
 rw [List.getElem?_eq_getElem hi]
 dsimp only
 rw [if_neg (fun h=>hk h.1)]
 by_cases h3:l[i].kind=3
 ·rw [if_neg (fun h=>h.elim (fun h=>h h3) (fun h=>Bool.noConfusion h.1)),if_pos h3]
 ·rw [if_pos (.inl h3),if_neg h3]
theorem termT_neg {l:List Tok} {i:Nat} (hi:i < l.length) (hn:l[i].text=⟨#[45]⟩):termT l i=match l[i + 1]? with
  | none=>.error (i + 1)
  | some t=>if t.kind=3∧t.text≠⟨#[48]⟩ then .ok (⟨⟨#[]⟩,-1 * numT t.text⟩,i + 1 + 1) else .error (i + 1):=by
 have hn:seesT l i ⟨#[45]⟩=true:=by
  unfold seesT
  rw [List.getElem?_eq_getElem hi]
  exact decide_eq_true hn
 unfold termT
 rw [hn]
 dsimp only
 cases l[i + 1]? with
 | none=>rfl
 | some t =>
  dsimp only
  rw [if_neg (fun h=>Bool.noConfusion h.2)]
  by_cases h3:t.kind=3∧t.text≠⟨#[48]⟩
  ·rw [if_neg (fun h=>h.elim (fun h=>h h3.1) (fun h=>h3.2 h.2)),if_pos h3]
  ·rw [if_pos (Classical.or_iff_not_imp_left.2 fun h=>⟨rfl,Classical.byContradiction fun h2=>h3 ⟨Classical.byContradiction h,h2⟩⟩),if_neg h3]
theorem text_some {l:List Tok} {i:Nat} (hi:i < l.length):textT l i false=l[i].text:=by unfold textT;rw [List.getElem?_eq_getElem hi]
theorem text_ne {l:List Tok} {i:Nat} {f:Bool} (h:textT l i f≠⟨#[]⟩):f=false∧i < l.length:=by
 unfold textT at h
 cases f with
 | true=>exact absurd rfl h
 | false =>
  refine⟨rfl,Classical.byContradiction fun hn=>?_⟩
  rw [List.getElem?_eq_none (by omega)] at h
  exact h rfl
theorem tok_ne {t:Tok} (h:tokOk t=true):t.text≠⟨#[]⟩:=by
 obtain⟨h0,_⟩:=tok_first h
 intro hn
 rw [hn] at h0
 exact absurd h0 (by decide)
set_option maxHeartbeats 8000000 in
theorem rterm_fn (l:List Tok) (i:Nat) (e:Int) (f:Bool) (hi:i≤1000000) (hok:l.all tokOk=true):FnOk false Tryz.prog tab tab_ok 60 [.loc 0 0] 1 1 (rdH l i e f) (fun k r H=>k=1∧rdRes (rdP f i (termT l i)) l e tmV (fun r=>∃ t,r=tmV t) r H):=by
 refine fn_enterR _ Tryz.func60 rfl rfl (by kernel_rfl) ?_
 intro O w0 E0 β0
 have w1:=rtext_fn l i e f
 repeat' (first|refine z0 ?_|apply ds_nil|apply dw_seq2|refine z16 ?_|apply thenD_n|refine z1 ?_|fail)
 (refine ds_callF id (w1) rfl rfl rfl rfl ⟨rfl,trivial⟩ rfl rfl rfl rfl rfl rfl ?_ ?_)
 ·rintro k2 res H2 ⟨rfl,rfl,rfl⟩;exact⟨rfl,rfl⟩
 rintro k2 res H2 ⟨rfl,rfl,rfl⟩
 change DS _ _ _ _ _ _ _ _
 clear w1
 by_cases h0:textT l i f=⟨#[]⟩
 ·have hp:rdP f i (termT l i) = .error i:=by
   cases f with
   | true=>rfl
   | false =>
    by_cases hil:i < l.length
    ·rw [text_some hil] at h0
     exact absurd h0 (tok_ne (List.all_eq_true.1 hok _ (List.getElem_mem hil)))
    ·have hn:seesT l i ⟨#[45]⟩=false:=by unfold seesT;rw [List.getElem?_eq_none (by omega)]
     unfold rdP termT
     rw [hn]
     dsimp only
     rw [List.getElem?_eq_none (by omega)]
  rw [hp,h0]
  unfold rdRes
  repeat' (first|refine z0 ?_|refine z12 ?_|apply ds_nil|apply dw_seq2|refine z16 ?_|apply dw_skip|apply dw_ret|refine z18 ?_|refine z19 ?_|apply thenD_n|apply thenD_r|refine z3 ?_|fail)
  all_goals try (exfalso;omega)
  exact⟨.inl rfl,_,rfl,id,1,_,rdH l (i) e true,rfl,⟨rfl,trivial⟩,rfl,rfl,rfl,rfl,rfl,rfl,rfl,⟨⟨⟨#[]⟩,0⟩,rfl⟩,rfl⟩
 obtain⟨rfl,hil⟩:=text_ne h0
 rw [text_some hil] at h0 ⊢
 unfold rdP
 dsimp only
 have hot:=List.all_eq_true.1 hok _ (List.getElem_mem hil)
 obtain⟨y0,y1,y2,_⟩:=tok_first hot
 by_cases hk:l[i].kind=2
 ·rw [termT_var hil hot hk]
  unfold rdRes
  have w3:=between_fn (l[i].text[0].toNat:Int) 65 90
  rw [greatI,y1,decide_eq_true hk] at w3
  repeat' (first|refine z0 ?_|refine z12 ?_|apply ds_nil|apply dw_seq2|refine z16 ?_|apply dw_skip|apply dw_ret|refine z18 ?_|refine z19 ?_|apply thenD_n|apply thenD_r|refine z21 ?_ (hc:=by apply w3)|refine z3 ?_|(refine z23 ?_ ?_ <;> intro hg)|((fail_if_success (apply ds_known;exact rfl));apply ds_guardP;exact rfl;exact rfl;exact rfl;all_goals intro hg))
  all_goals try (exfalso;first|omega|exact absurd (by assumption) h0|exact absurd h0 (by assumption))
  exact⟨.inl rfl,_,rfl,id,1,_,rdH l (i + 1:Nat) e false,rfl,⟨rfl,trivial⟩,rfl,rfl,rfl,rfl,rfl,rfl,rfl,rfl,rfl⟩
 have w2:=between_fn (l[i].text[0].toNat:Int) 65 90
 rw [greatI,y1,decide_eq_false hk] at w2
 by_cases hm:l[i].text=⟨#[45]⟩
 ·rw [termT_neg hil hm]
  have w5:=rneed_fn l i e false ⟨#[45]⟩ hi
  rw [text_some hil,hm,decide_eq_true rfl] at w5
  dsimp only at w5
  have w6:=rtext_fn l (i + 1) e false
  repeat' (first|refine z0 ?_|refine z12 ?_|apply ds_nil|apply dw_seq2|refine z16 ?_|apply dw_skip|refine z18 ?_|refine z19 ?_|apply thenD_n|refine z21 ?_ (hc:=by apply w2)|refine z3 ?_|(refine z23 ?_ ?_ <;> intro hg)|((fail_if_success (apply ds_known;exact rfl));apply ds_guardP;exact rfl;exact rfl;exact rfl;all_goals intro hg))
  all_goals try (exfalso;first|omega|exact absurd (by assumption) h0|exact absurd h0 (by assumption)|exact absurd hm (by assumption))
  (refine ds_callF id (w5) rfl rfl rfl rfl ⟨rfl,trivial⟩ rfl rfl rfl rfl rfl rfl ?_ ?_)
  ·rintro k2 res H2 ⟨rfl,rfl,rfl⟩;exact⟨rfl,rfl⟩
  rintro k2 res H2 ⟨rfl,rfl,rfl⟩
  change DS _ _ _ _ _ _ _ _
  clear w5
  repeat' (first|refine z0 ?_|apply ds_nil|apply dw_seq2|refine z16 ?_|apply thenD_n)
  (refine ds_callF id (w6) rfl rfl rfl rfl ⟨rfl,trivial⟩ rfl rfl rfl rfl rfl rfl ?_ ?_)
  ·rintro k2 res H2 ⟨rfl,rfl,rfl⟩;exact⟨rfl,rfl⟩
  rintro k2 res H2 ⟨rfl,rfl,rfl⟩
  change DS _ _ _ _ _ _ _ _
  clear w6 w2
  by_cases hil1:i + 1 < l.length
  ·rw [text_some hil1,List.getElem?_eq_getElem hil1]
   dsimp only
   have hot2:=List.all_eq_true.1 hok _ (List.getElem_mem hil1)
   have hne2:=tok_ne hot2
   by_cases hk3:l[i + 1].kind=3∧l[i + 1].text≠⟨#[48]⟩
   ·rw [if_pos hk3]
    unfold rdRes
    obtain⟨c1,c2,c3⟩:=ok_num hot2 hk3.1
    obtain⟨u0,u1,u2,_⟩:=tok_first hot2
    rw [hk3.1] at u1 u2
    have w3:=between_fn (l[i + 1].text[0].toNat:Int) 65 90
    rw [greatI,u1] at w3
    have w4:=isDigit_fn l[i + 1].text[0]
    rw [u2] at w4
    repeat' (first|refine z0 ?_|refine z12 ?_|apply ds_nil|apply dw_seq2|refine z16 ?_|apply dw_block|apply dw_skip|refine z18 ?_|apply thenD_n|refine z21 ?_ (hc:=by apply w4)|refine z3 ?_|(refine z23 ?_ ?_ <;> intro hg)|((fail_if_success (apply ds_known;exact rfl));apply ds_guardP;exact rfl;exact rfl;exact rfl;all_goals intro hg))
    all_goals try (exfalso;first|omega|exact absurd (by assumption) hne2|exact absurd hne2 (by assumption)|exact absurd (by assumption) hk3.2)
    refine ds_loop (ι:=Nat) (fun k=>⟨2,[(0,.loc 0 0),(2,.loc 1 0),(3,.d (.str l[i + 1].text)),(4,.d (.int .i64 (-1))),(5,.d (.int .i64 (numK l[i + 1].text k))),(6,.d (.int .i64 k))],[(0,.blk 76 [.d (.slice 3 (l.map encTok)),.d (.int .i64 (i + 1:Nat)),.d (.int .i64 e),.d (.bool false)]),(1,.blk 49 [.d (.str ⟨#[]⟩),.d (.int .i64 0)])]⟩)
     (fun k=>k≤l[i + 1].text.size) (fun k=>l[i + 1].text.size - k) 0 (Nat.zero_le _) (ent_ren id ⟨rfl,rfl,rfl,rfl,rfl,rfl,trivial⟩ ⟨rfl,rfl,trivial⟩ rfl rfl rfl rfl rfl rfl) ?_
    intro k hk
    dsimp only at hk ⊢
    obtain⟨n1,n2⟩:=numK_bound c2 c3 k
    by_cases hkl:k < l[i + 1].text.size
    ·have hs:=numK_succ l[i + 1].text k hkl
     obtain⟨n3,n4⟩:=numK_bound c2 c3 (k + 1)
     have hu:=UInt8.toNat_lt (l[i + 1].text[k])
     repeat' (first|refine z0 ?_|apply ds_nil|apply dw_seq2|refine z16 ?_|apply dw_block|apply dw_skip|apply dw_exit|apply thenD_n|apply thenD_e|apply inB_n|refine z17 ?_|refine z3 ?_|(refine z23 ?_ ?_ <;> intro hg)|fail)
     all_goals try (exfalso;omega)
     exact⟨k + 1,by omega,ent_ren id ⟨rfl,rfl,rfl,rfl,congrArg (fun z=>SV.d (D.int .i64 z)) hs.symm,rfl,trivial⟩ ⟨rfl,rfl,trivial⟩ rfl rfl rfl rfl rfl rfl,by show l[i + 1].text.size - (k + 1) < l[i + 1].text.size - k;omega⟩
    ·have hks:k=l[i + 1].text.size:=by omega
     subst hks
     rw [numK_all] at *
     repeat' (first|refine z0 ?_|apply ds_nil|apply dw_seq2|refine z16 ?_|apply dw_block|apply dw_skip|apply dw_exit|apply dw_ret|apply thenD_n|apply thenD_e|apply inB_n|refine z17 ?_|refine z3 ?_|(refine z23 ?_ ?_ <;> intro hg)|fail)
     all_goals try (exfalso;omega)
     exact⟨.inl rfl,_,rfl,id,1,_,rdH l (i + 1 + 1:Nat) e false,rfl,⟨rfl,trivial⟩,rfl,rfl,rfl,rfl,rfl,rfl,rfl,rfl,rfl⟩
   ·rw [if_neg hk3]
    unfold rdRes
    obtain⟨u0,u1,u2,_⟩:=tok_first hot2
    have w4:=isDigit_fn l[i + 1].text[0]
    rw [u2] at w4
    by_cases k3:l[i + 1].kind=3
    ·have h48:l[i + 1].text=⟨#[48]⟩:=Classical.byContradiction fun h=>hk3 ⟨k3,h⟩
     rw [decide_eq_true k3] at w4
     repeat' (first|refine z0 ?_|refine z12 ?_|apply ds_nil|apply dw_seq2|refine z16 ?_|apply dw_block|apply dw_skip|apply dw_ret|refine z18 ?_|apply thenD_n|apply thenD_r|refine z21 ?_ (hc:=by apply w4)|refine z3 ?_|(refine z23 ?_ ?_ <;> intro hg)|((fail_if_success (apply ds_known;exact rfl));apply ds_guardP;exact rfl;exact rfl;exact rfl;all_goals intro hg))
     all_goals try (exfalso;first|omega|exact absurd (by assumption) hne2|exact absurd hne2 (by assumption)|exact absurd h48 (by assumption))
     exact⟨.inl rfl,_,rfl,id,1,_,rdH l (i + 1) e true,rfl,⟨rfl,trivial⟩,rfl,rfl,rfl,rfl,rfl,rfl,rfl,⟨⟨⟨#[]⟩,0⟩,rfl⟩,rfl⟩
    ·rw [decide_eq_false k3] at w4
     repeat' (first|refine z0 ?_|refine z12 ?_|apply ds_nil|apply dw_seq2|refine z16 ?_|apply dw_ret|refine z18 ?_|apply thenD_n|apply thenD_r|refine z21 ?_ (hc:=by apply w4)|refine z3 ?_|((fail_if_success (apply ds_known;exact rfl));apply ds_guardP;exact rfl;exact rfl;exact rfl;all_goals intro hg))
     all_goals try (exfalso;first|omega|exact absurd (by assumption) hne2|exact absurd hne2 (by assumption))
     exact⟨.inl rfl,_,rfl,id,1,_,rdH l (i + 1) e true,rfl,⟨rfl,trivial⟩,rfl,rfl,rfl,rfl,rfl,rfl,rfl,⟨⟨⟨#[]⟩,0⟩,rfl⟩,rfl⟩
  ·have h1:textT l (i + 1) false=⟨#[]⟩:=by unfold textT;rw [List.getElem?_eq_none (by omega)]
   rw [h1,List.getElem?_eq_none (by omega)]
   unfold rdRes
   repeat' (first|refine z0 ?_|refine z12 ?_|apply ds_nil|apply dw_seq2|refine z16 ?_|apply dw_ret|refine z18 ?_|apply thenD_n|apply thenD_r|refine z3 ?_|fail)
   all_goals try (exfalso;omega)
   exact⟨.inl rfl,_,rfl,id,1,_,rdH l (i + 1) e true,rfl,⟨rfl,trivial⟩,rfl,rfl,rfl,rfl,rfl,rfl,rfl,⟨⟨⟨#[]⟩,0⟩,rfl⟩,rfl⟩
 ·rw [termT_pos hil hm hk]
  by_cases hk3:l[i].kind=3
  ·rw [if_pos hk3]
   unfold rdRes
   have hot2:=hot
   have hne2:=h0
   have hm2:=hm
   obtain⟨c1,c2,c3⟩:=ok_num hot2 hk3
   obtain⟨u0,u1,u2,_⟩:=tok_first hot2
   rw [hk3] at u1 u2
   have w3:=between_fn (l[i].text[0].toNat:Int) 65 90
   rw [greatI,u1] at w3
   have w4:=isDigit_fn l[i].text[0]
   rw [u2] at w4
   repeat' (first|refine z0 ?_|refine z12 ?_|apply ds_nil|apply dw_seq2|refine z16 ?_|apply dw_block|apply dw_skip|refine z18 ?_|refine z19 ?_|apply thenD_n|refine z21 ?_ (hc:=by apply w3)|refine z21 ?_ (hc:=by apply w4)|refine z3 ?_|(refine z23 ?_ ?_ <;> intro hg)|((fail_if_success (apply ds_known;exact rfl));apply ds_guardP;exact rfl;exact rfl;exact rfl;all_goals intro hg))
   all_goals try (exfalso;first|omega|exact absurd (by assumption) hne2|exact absurd hne2 (by assumption)|exact absurd (by assumption) hm2)
   refine ds_loop (ι:=Nat) (fun k=>⟨2,[(0,.loc 0 0),(2,.loc 1 0),(3,.d (.str l[i].text)),(4,.d (.int .i64 (1))),(5,.d (.int .i64 (numK l[i].text k))),(6,.d (.int .i64 k))],[(0,.blk 76 [.d (.slice 3 (l.map encTok)),.d (.int .i64 (i:Nat)),.d (.int .i64 e),.d (.bool false)]),(1,.blk 49 [.d (.str ⟨#[]⟩),.d (.int .i64 0)])]⟩)
    (fun k=>k≤l[i].text.size) (fun k=>l[i].text.size - k) 0 (Nat.zero_le _) (ent_ren id ⟨rfl,rfl,rfl,rfl,rfl,rfl,trivial⟩ ⟨rfl,rfl,trivial⟩ rfl rfl rfl rfl rfl rfl) ?_
   intro k hk
   dsimp only at hk ⊢
   obtain⟨n1,n2⟩:=numK_bound c2 c3 k
   by_cases hkl:k < l[i].text.size
   ·have hs:=numK_succ l[i].text k hkl
    obtain⟨n3,n4⟩:=numK_bound c2 c3 (k + 1)
    have hu:=UInt8.toNat_lt (l[i].text[k])
    repeat' (first|refine z0 ?_|apply ds_nil|apply dw_seq2|refine z16 ?_|apply dw_block|apply dw_skip|apply dw_exit|apply thenD_n|apply thenD_e|apply inB_n|refine z17 ?_|refine z3 ?_|(refine z23 ?_ ?_ <;> intro hg)|fail)
    all_goals try (exfalso;omega)
    exact⟨k + 1,by omega,ent_ren id ⟨rfl,rfl,rfl,rfl,congrArg (fun z=>SV.d (D.int .i64 z)) hs.symm,rfl,trivial⟩ ⟨rfl,rfl,trivial⟩ rfl rfl rfl rfl rfl rfl,by show l[i].text.size - (k + 1) < l[i].text.size - k;omega⟩
   ·have hks:k=l[i].text.size:=by omega
    subst hks
    rw [numK_all] at *
    repeat' (first|refine z0 ?_|apply ds_nil|apply dw_seq2|refine z16 ?_|apply dw_block|apply dw_skip|apply dw_exit|apply dw_ret|apply thenD_n|apply thenD_e|apply inB_n|refine z17 ?_|refine z3 ?_|(refine z23 ?_ ?_ <;> intro hg)|fail)
    all_goals try (exfalso;omega)
    exact⟨.inl rfl,_,rfl,id,1,_,rdH l (i + 1:Nat) e false,rfl,⟨rfl,trivial⟩,rfl,rfl,rfl,rfl,rfl,rfl,rfl,rfl,rfl⟩
  ·rw [if_neg hk3]
   unfold rdRes
   have w4:=isDigit_fn l[i].text[0]
   rw [y2,decide_eq_false hk3] at w4
   repeat' (first|refine z0 ?_|refine z12 ?_|apply ds_nil|apply dw_seq2|refine z16 ?_|apply dw_skip|apply dw_ret|refine z18 ?_|refine z19 ?_|apply thenD_n|apply thenD_r|refine z21 ?_ (hc:=by apply w2)|refine z21 ?_ (hc:=by apply w4)|refine z3 ?_|(refine z23 ?_ ?_ <;> intro hg)|((fail_if_success (apply ds_known;exact rfl));apply ds_guardP;exact rfl;exact rfl;exact rfl;all_goals intro hg))
   all_goals try (exfalso;first|omega|exact absurd (by assumption) h0|exact absurd h0 (by assumption)|exact absurd (by assumption) hm)
   exact⟨.inl rfl,_,rfl,id,1,_,rdH l (i) e true,rfl,⟨rfl,trivial⟩,rfl,rfl,rfl,rfl,rfl,rfl,rfl,⟨⟨⟨#[]⟩,0⟩,rfl⟩,rfl⟩
end Go.Proofs.YtapciiffpnociabGreatDoor
namespace Go.Proofs.YtapciiffpnociabGreatDoor
open Go Go.RowKit
theorem seesT_lt {l:List Tok} {i:Nat} {s:ByteArray} (h:seesT l i s=true):i < l.length:=by
 apply Classical.byContradiction
 intro hn
 unfold seesT at h
 rw [List.getElem?_eq_none (by omega)] at h
 cases h
theorem termT_lt {l:List Tok} {i j:Nat} {t:TTm} (h:termT l i = .ok (t,j)):i < j∧j≤l.length:=by
 unfold termT at h
 generalize hb:seesT l i ⟨#[45]⟩=b at h
 have key:∀ q:Nat,(match l[q]? with
  | none=>(.error q:PR TTm)
  | some t=>if t.kind=2∧b=false then .ok ((⟨t.text,0⟩:TTm),q + 1)
   else if t.kind≠3∨(b=true∧t.text=(⟨#[48]⟩:ByteArray)) then .error q
   else .ok ((⟨(⟨#[]⟩:ByteArray),(match b with|true=>-1|false=>1) * numT t.text⟩:TTm),q + 1)) = .ok (t,j)→j=q + 1∧j≤l.length:=by
  intro q hq
  by_cases hl:q < l.length
  ·rw [List.getElem?_eq_getElem hl] at hq
   dsimp only at hq
   split at hq
   ·injection hq with hq;injection hq with h1 h2;omega
   ·split at hq
    ·cases hq
    ·injection hq with hq;injection hq with h1 h2;omega
  ·rw [List.getElem?_eq_none (by omega)] at hq;cases hq
 cases b with
 | true=>have:=key (i + 1) h;omega
 | false=>have:=key i h;omega
def foldT (l:List Tok) (head:Bool) (j q:Nat):Int:=match head with
 | true=>firstT l j (foldsT.drop q) (q + 1)
 | false=>0
theorem termsGo_succ (l:List Tok) (head:Bool) (m j:Nat) (acc:List TTm):termsGo l head (m + 1) j acc =
  match termT l (if foldT l head j 0≠0 then j + 1 else j) with
  | .error k=>.error k
  | .ok (t,k) =>
   if foldT l head j 0≠0∨seesT l k ⟨#[44]⟩=false then
    (if seesT l k ⟨#[41]⟩ then .ok ((acc++[t],foldT l head j 0),k + 1) else .error k)
   else termsGo l head m (k + 1) (acc++[t]):=by cases head <;> rfl
theorem foldT_step (l:List Tok) (head:Bool) (j q:Nat) (h:q < foldsT.length):foldT l head j q=if head=true∧seesT l j foldsT[q]=true then ((q:Int) + 1) else foldT l head j (q + 1):=by
 unfold foldT
 cases head with
 | true =>
  dsimp only
  rw [List.drop_eq_getElem_cons h,firstT]
  by_cases hs:seesT l j foldsT[q]=true
  ·rw [if_pos hs,if_pos ⟨rfl,hs⟩]
  ·rw [if_neg hs,if_neg (fun h=>hs h.2)];rfl
 | false=>simp
theorem foldT_end (l:List Tok) (head:Bool) (j q:Nat) (h:foldsT.length≤q):foldT l head j q=0:=by
 unfold foldT
 rw [List.drop_of_length_le h]
 cases head <;> rfl
theorem foldT_sees {l:List Tok} {head:Bool} {j q:Nat} (h:foldT l head j q≠0):j < l.length:=by
 unfold foldT at h
 cases head with
 | true =>
  dsimp only at h
  generalize foldsT.drop q=ws at h
  generalize (q:Int) + 1=z at h
  induction ws generalizing z with
  | nil=>exact absurd rfl h
  | cons w ws ih =>
   unfold firstT at h
   by_cases hs:seesT l j w=true
   ·exact seesT_lt hs
   ·rw [if_neg hs] at h;exact ih _ h
 | false=>exact absurd rfl h
attribute [local irreducible] DW DS DL DQ Ev FnOk FnP FnOkE thenD inBlockD
set_option maxHeartbeats 8000000 in
theorem pterms_fn (l:List Tok) (i:Nat) (e:Int) (head:Bool) (hi:i≤l.length) (hl:l.length≤900000) (hok:l.all tokOk=true):FnOkE false Tryz.prog tab tab_ok 89 [.loc 0 0,.d (.bool head)] 1 1 (prH l i e) (fun k r H=>∃ x f j,termsT l i head = .ok ((x,f),j)∧j≤l.length∧k=1∧r = .tup [.d (.slice 2 (x.map encTTm)),.d (.int .i64 f)]∧H=prH l j e) (fun v=>∃ j,termsT l i head = .error j∧v=plV (hereT l e j)):=by
 refine fn_enterRE _ Tryz.func89 rfl rfl (by kernel_rfl) ?_
 intro O w0 E0 β0
 have ll:(l.map encTok).length=l.length:=List.length_map _
 have w1:=need_fn l i e ⟨#[40]⟩ (by omega)
 repeat' (first|refine z0 ?_|apply ds_nil|apply dw_seq2|refine z16 ?_|apply thenD_n)
 (refine ds_callE id (w1) rfl rfl rfl rfl ⟨rfl,trivial⟩ rfl rfl rfl rfl rfl rfl ?_ ?_ ?_)
 ·rintro v ⟨hs,rfl⟩;exact⟨i,by unfold termsT;rw [hs];rfl,rfl⟩
 ·rintro k2 res H2 ⟨_,rfl,rfl,rfl⟩;exact⟨rfl,rfl⟩
 rintro k2 res H2 ⟨hs,rfl,rfl,rfl⟩
 change DS _ _ _ _ _ _ _ _
 clear w1
 have hil:=seesT_lt hs
 have w1:=ptake_fn l (i + 1) e ⟨#[41]⟩ (by omega)
 repeat' (first|refine z0 ?_|apply ds_nil|apply dw_seq2|refine z16 ?_|apply thenD_n)
 (refine ds_callF id (w1) rfl rfl rfl rfl ⟨rfl,trivial⟩ rfl rfl rfl rfl rfl rfl ?_ ?_)
 ·rintro k2 res H2 ⟨rfl,rfl,rfl⟩;exact⟨rfl,rfl⟩
 rintro k2 res H2 ⟨rfl,rfl,rfl⟩
 change DS _ _ _ _ _ _ _ _
 clear w1
 have ht:termsT l i head=(if seesT l (i + 1) ⟨#[41]⟩ then .ok (([],0),i + 2) else termsGo l head (l.length + 1) (i + 1) []):=by unfold termsT;rw [hs];rfl
 cases hc:seesT l (i + 1) ⟨#[41]⟩ with
 | true =>
  rw [hc] at ht
  have:=seesT_lt hc
  repeat' (first|refine z0 ?_|apply ds_nil|apply dw_seq2|refine z16 ?_|refine z18 ?_|apply thenD_n)
  refine dw_ent (ent_nild 4 2 rfl) ?_
  repeat' (first|apply dw_ret|apply thenD_r)
  exact⟨.inl rfl,_,rfl,id,1,_,prH l (i + 1 + 1:Nat) e,rfl,⟨rfl,trivial⟩,rfl,rfl,rfl,rfl,rfl,rfl,[],0,_,ht,by omega,rfl,rfl,rfl⟩
 | false =>
  rw [hc,if_neg (by simp)] at ht
  dsimp only
  repeat' (first|apply ds_nil|apply dw_seq2|apply dw_block|apply dw_skip|refine z19 ?_|apply thenD_n)
  refine dw_ent (ent_nilrow (t:=6) 49 2 rfl) ?_
  refine ds_loop (ι:=Nat × List TTm × Nat) (fun x=>⟨2,[(0,.loc 0 0),(1,.d (.bool head)),(6,.row 1),(7,.d (.int .i64 0))],[(0,.blk 74 [.d (.slice 3 (l.map encTok)),.d (.int .i64 x.1),.d (.int .i64 e)]),(1,.row 49 2 (x.2.1.map encTTm))]⟩)
   (fun x=>termsT l i head=termsGo l head x.2.2 x.1 x.2.1∧x.1≤l.length∧l.length < x.2.2 + x.1∧x.2.1.length≤x.1) (fun x=>x.2.2) (i + 1,[],l.length + 1) ⟨ht,by show i + 1≤l.length;omega,by show l.length < l.length + 1 + (i + 1);omega,Nat.zero_le _⟩ (ent_ren (fun x=>match x with|0=>0|_=>_) ⟨rfl,rfl,rfl,rfl,trivial⟩ ⟨rfl,rfl,trivial⟩ rfl rfl rfl rfl rfl rfl) ?_
  clear hs hc ht
  rintro⟨j,acc,n⟩ ⟨ht,hj,hn,ha⟩
  dsimp only at ht hj hn ha ⊢
  have lf:(foldsT.map encT).length=4:=rfl
  have lw:(wordsL.map encT).length=5:=rfl
  obtain⟨m,rfl⟩:∃ m,n=m + 1:=⟨n - 1,by omega⟩
  rw [termsGo_succ] at ht
  repeat' ((fail_if_success (apply dw_stopR 6));(apply dw_block))
  obtain⟨f,hf⟩:∃ f:Int,f=foldT l head j 0:=⟨_,rfl⟩
  rw [← hf] at ht
  obtain⟨jf,hjf⟩:∃ jf:Nat,jf=if f≠0 then j + 1 else j:=⟨_,rfl⟩
  rw [← hjf] at ht
  refine dw_cut (ι:=Unit) (fun _=>⟨2,[(0,.loc 0 0),(1,.d (.bool head)),(6,.row 1),(7,.d (.int .i64 f))],[(0,.blk 74 [.d (.slice 3 (l.map encTok)),.d (.int .i64 jf),.d (.int .i64 e)]),(1,.row 49 2 (acc.map encTTm))]⟩) (fun _=>jf≤l.length) ?_ ?_
  ·repeat' (first|(apply ds_slD;exact rfl;exact rfl;exact rfl;exact rfl;exact rfl;exact rfl;(refine⟨?_,?_,?_⟩ <;> (omega));((with_reducible apply hv_drop);(exact nat_add_1 _));exact rfl;exact rfl)|refine z0 ?_|apply ds_nil|apply dw_seq2|refine z16 ?_|apply dw_block|apply thenD_n|refine z21 ?_ (hc:=by apply words_fn)|fail)
   refine ds_loop (ι:=Nat) (fun q=>⟨2,[(0,.loc 0 0),(1,.d (.bool head)),(6,.row 1),(7,.d (.int .i64 0)),(17,.d (.slice 1 (foldsT.map encT))),(18,.d (.int .i64 4)),(19,.d (.int .i64 q))],[(0,.blk 74 [.d (.slice 3 (l.map encTok)),.d (.int .i64 j),.d (.int .i64 e)]),(1,.row 49 2 (acc.map encTTm))]⟩)
    (fun q=>q≤4∧f=foldT l head j q) (fun q=>4 - q) 0 ⟨by omega,hf⟩ (ent_ren id ⟨rfl,rfl,rfl,rfl,rfl,rfl,rfl,trivial⟩ ⟨rfl,rfl,trivial⟩ rfl rfl rfl rfl rfl rfl) ?_
   rintro q ⟨hq,hfq⟩
   dsimp only at hq hfq ⊢
   by_cases hq4:q < 4
   ·have hql:q < foldsT.length:=hq4
    rw [foldT_step l head j q hql] at hfq
    have w2:=ptake_fn l j e foldsT[q] (by omega)
    cases head with
    | true =>
     repeat' (first|refine z0 ?_|apply ds_nil|apply dw_seq2|refine z16 ?_|apply dw_block|apply dw_skip|apply dw_exit|apply thenD_n|apply thenD_e|refine z17 ?_|(refine z23 ?_ ?_ <;> intro hg)|fail)
     all_goals try (exfalso;omega)
     (refine ds_callF id (w2) rfl rfl rfl rfl ⟨rfl,trivial⟩ rfl rfl rfl rfl rfl rfl ?_ ?_)
     ·rintro k2 res H2 ⟨rfl,rfl,rfl⟩;exact⟨rfl,rfl⟩
     rintro k2 res H2 ⟨rfl,rfl,rfl⟩
     change DS _ _ _ _ _ _ _ _
     clear w2
     cases hsq:seesT l j foldsT[q] with
     | true =>
      rw [hsq,if_pos ⟨rfl,rfl⟩,Int.add_comm] at hfq
      rw [if_pos (by omega)] at hjf
      subst hjf
      have hjl:=seesT_lt hsq
      clear ht hf
      subst hfq
      repeat' (first|refine z0 ?_|apply ds_nil|apply dw_seq2|refine z16 ?_|apply dw_exit|refine z18 ?_|apply thenD_n|apply thenD_e|refine z17 ?_|(apply inB_x;exact rfl))
      all_goals try (exfalso;omega)
      exact⟨(),by omega,ent_ren id ⟨rfl,rfl,rfl,rfl,trivial⟩ ⟨rfl,rfl,trivial⟩ rfl rfl rfl rfl rfl rfl⟩
     | false =>
      rw [hsq,if_neg (by simp)] at hfq
      repeat' (first|refine z0 ?_|apply ds_nil|refine z16 ?_|apply dw_skip|refine z19 ?_|apply thenD_n|apply inB_n)
      all_goals try (exfalso;omega)
      exact⟨q + 1,⟨by omega,hfq⟩,ent_ren id ⟨rfl,rfl,rfl,rfl,rfl,rfl,rfl,trivial⟩ ⟨rfl,rfl,trivial⟩ rfl rfl rfl rfl rfl rfl,by show 4 - (q + 1) < 4 - q;omega⟩
    | false =>
     rw [if_neg (by simp)] at hfq
     repeat' (first|refine z0 ?_|refine z12 ?_|apply ds_nil|apply dw_seq2|refine z16 ?_|apply dw_block|apply dw_skip|apply dw_exit|refine z19 ?_|apply thenD_n|apply thenD_e|apply inB_n|refine z17 ?_|(refine z23 ?_ ?_ <;> intro hg)|fail)
     all_goals try (exfalso;omega)
     exact⟨q + 1,⟨by omega,hfq⟩,ent_ren id ⟨rfl,rfl,rfl,rfl,rfl,rfl,rfl,trivial⟩ ⟨rfl,rfl,trivial⟩ rfl rfl rfl rfl rfl rfl,by show 4 - (q + 1) < 4 - q;omega⟩
   ·rw [foldT_end l head j q (by show 4≤q;omega)] at hfq
    rw [if_neg (by omega)] at hjf
    subst hjf
    clear ht hf
    subst hfq
    repeat' (first|refine z0 ?_|refine z12 ?_|apply ds_nil|apply dw_seq2|refine z16 ?_|apply dw_block|apply dw_skip|apply dw_exit|refine z19 ?_|apply thenD_n|apply thenD_e|apply inB_n|refine z17 ?_|(refine z23 ?_ ?_ <;> intro hg)|((fail_if_success (apply ds_known;exact rfl));apply ds_guardB;exact rfl;exact rfl;exact rfl;all_goals intro hg))
    all_goals try (exfalso;omega)
    exact⟨(),by omega,ent_ren id ⟨rfl,rfl,rfl,rfl,trivial⟩ ⟨rfl,rfl,trivial⟩ rfl rfl rfl rfl rfl rfl⟩
  ·intro _ hjl
   have hjj:j≤jf:=by rw [hjf];split <;> omega
   have w3:=pterm_fn l jf e (by omega) hok
   repeat' (first|refine z0 ?_|apply dw_seq2|refine z16 ?_|fail)
   (refine ds_callE id (w3) rfl rfl rfl rfl ⟨rfl,trivial⟩ rfl rfl rfl rfl rfl rfl ?_ ?_ ?_)
   ·rintro v ⟨k,hk,rfl⟩;exact⟨k,by rw [ht,hk],rfl⟩
   ·rintro k2 res H2 ⟨t,k,_,_,rfl,rfl,rfl⟩;exact⟨rfl,rfl⟩
   rintro k2 res H2 ⟨t,k,hk,_,rfl,rfl,rfl⟩
   change DS _ _ _ _ _ _ _ _
   clear w3
   rw [hk] at ht
   dsimp only at ht
   obtain⟨hk1,hk2⟩:=termT_lt hk
   have lac:(acc.map encTTm).length=acc.length:=List.length_map _
   have hap:(acc++[t]).map encTTm=acc.map encTTm++[encTTm t]:=List.map_append
   by_cases hf0:f=0
   ·subst hf0
    repeat' (first|refine z0 ?_|apply ds_nil|apply dw_seq2|refine z16 ?_|apply thenD_n|refine z1 ?_|refine z3 ?_|refine z4 ?_|refine z2 ?_|fail)
    all_goals try (exfalso;omega)
    have w4:=ptake_fn l k e ⟨#[44]⟩ (by omega)
    (refine ds_callF id (w4) rfl rfl rfl rfl ⟨rfl,trivial⟩ rfl rfl rfl rfl rfl rfl ?_ ?_)
    ·rintro k2 res H2 ⟨rfl,rfl,rfl⟩;exact⟨rfl,rfl⟩
    rintro k2 res H2 ⟨rfl,rfl,rfl⟩
    change DS _ _ _ _ _ _ _ _
    clear w4
    cases hsk:seesT l k ⟨#[44]⟩ with
    | true =>
     rw [hsk,if_neg (by rintro (h|h);exact h rfl;cases h)] at ht
     have:=seesT_lt hsk
     repeat' (first|refine z0 ?_|apply ds_nil|apply dw_skip|refine z19 ?_|apply thenD_n|apply inB_n)
     all_goals try (exfalso;omega)
     exact⟨(k + 1,acc++[t],m),⟨ht,by show k + 1≤l.length;omega,by show l.length < m + (k + 1);omega,by show (acc++[t]).length≤k + 1;rw [List.length_append];simp;omega⟩,ent_ren (fun x=>match x with|0=>0|_=>_) ⟨rfl,rfl,rfl,rfl,trivial⟩ ⟨rfl,by dsimp only;rw [hap];rfl,trivial⟩ rfl rfl rfl rfl rfl rfl,by show m < m + 1;omega⟩
    | false =>
     rw [hsk,if_pos (.inr rfl)] at ht
     have w5:=need_fn l k e ⟨#[41]⟩ (by omega)
     dsimp only
     repeat' (first|refine z0 ?_|apply ds_nil|apply dw_seq2|refine z16 ?_|apply dw_exit|refine z18 ?_|apply thenD_n|apply thenD_e|refine z17 ?_|(apply inB_x;exact rfl))
     all_goals try (exfalso;omega)
     (refine ds_callE id (w5) rfl rfl rfl rfl ⟨rfl,trivial⟩ rfl rfl rfl rfl rfl rfl ?_ ?_ ?_)
     ·rintro v ⟨hs,rfl⟩;exact⟨k,by rw [ht,hs];rfl,rfl⟩
     ·rintro k2 res H2 ⟨_,rfl,rfl,rfl⟩;exact⟨rfl,rfl⟩
     rintro k2 res H2 ⟨hs,rfl,rfl,rfl⟩
     change DS _ _ _ _ _ _ _ _
     clear w5
     have hkl:=seesT_lt hs
     rw [hs,if_pos rfl] at ht
     repeat' (first|refine z0 ?_|apply ds_nil|apply dw_seq2|refine z16 ?_|apply thenD_n)
     all_goals try (exfalso;omega)
     refine dw_ent (ent_seal 4 rfl rfl rfl) ?_
     repeat' (apply dw_ret)
     exact⟨.inl rfl,_,rfl,id,1,_,prH l (k + 1:Nat) e,rfl,⟨rfl,trivial⟩,rfl,rfl,rfl,rfl,rfl,rfl,acc++[t],_,k + 1,ht,by omega,rfl,by rw [hap],rfl⟩
   ·rw [if_pos (.inl hf0)] at ht
    have w5:=need_fn l k e ⟨#[41]⟩ (by omega)
    repeat' (first|refine z0 ?_|refine z12 ?_|apply ds_nil|apply dw_seq2|refine z16 ?_|apply dw_exit|refine z18 ?_|apply thenD_n|apply thenD_e|refine z17 ?_|(apply inB_x;exact rfl)|refine z1 ?_|refine z3 ?_|refine z4 ?_|refine z2 ?_|((fail_if_success (apply ds_known;exact rfl));apply ds_guardP;exact rfl;exact rfl;exact rfl;all_goals intro hg))
    all_goals try (exfalso;omega)
    (refine ds_callE id (w5) rfl rfl rfl rfl ⟨rfl,trivial⟩ rfl rfl rfl rfl rfl rfl ?_ ?_ ?_)
    ·rintro v ⟨hs,rfl⟩;exact⟨k,by rw [ht,hs];rfl,rfl⟩
    ·rintro k2 res H2 ⟨_,rfl,rfl,rfl⟩;exact⟨rfl,rfl⟩
    rintro k2 res H2 ⟨hs,rfl,rfl,rfl⟩
    change DS _ _ _ _ _ _ _ _
    clear w5
    have hkl:=seesT_lt hs
    rw [hs,if_pos rfl] at ht
    repeat' (first|refine z0 ?_|apply ds_nil|apply dw_seq2|refine z16 ?_|apply thenD_n)
    all_goals try (exfalso;omega)
    refine dw_ent (ent_seal 4 rfl rfl rfl) ?_
    repeat' (apply dw_ret)
    exact⟨.inl rfl,_,rfl,id,1,_,prH l (k + 1:Nat) e,rfl,⟨rfl,trivial⟩,rfl,rfl,rfl,rfl,rfl,rfl,acc++[t],_,k + 1,ht,by omega,rfl,by rw [hap],rfl⟩
def firstQ (l:List Tok) (ws:List ByteArray) (j q:Nat):Int:=firstT l j (ws.drop q) (q + 1)
theorem firstQ_step (l:List Tok) (ws:List ByteArray) (j q:Nat) (h:q < ws.length):firstQ l ws j q=if seesT l j ws[q]=true then ((q:Int) + 1) else firstQ l ws j (q + 1):=by
 unfold firstQ
 rw [List.drop_eq_getElem_cons h,firstT]
 rfl
theorem firstQ_end (l:List Tok) (ws:List ByteArray) (j q:Nat) (h:ws.length≤q):firstQ l ws j q=0:=by
 unfold firstQ
 rw [List.drop_of_length_le h]
 rfl
theorem firstQ_bound (l:List Tok) (ws:List ByteArray) (j:Nat):∀ (n q:Nat),ws.length≤q + n→0≤firstQ l ws j q∧firstQ l ws j q≤ws.length
 | 0,q,h=>by rw [firstQ_end l ws j q (by omega)];exact⟨Int.le_refl _,by omega⟩
 | n + 1,q,h=>by
  by_cases hq:q < ws.length
  ·rw [firstQ_step l ws j q hq]
   split
   ·omega
   ·exact firstQ_bound l ws j n (q + 1) (by omega)
  ·rw [firstQ_end l ws j q (by omega)];exact⟨Int.le_refl _,by omega⟩
def testT (l:List Tok) (i:Nat):PR (Int × Int × List TTm) :=
 match termT l i with
 | .error k=>.error k
 | .ok (a,k) =>
  if firstQ l opsT k 0=0 then .error k else
  match termT l (k + 1) with
  | .error m=>.error m
  | .ok (b,m) =>
   if firstQ l opsT k 0 < 5 then .ok ((3,firstQ l opsT k 0,[a,b]),m)
   else if seesT l m ⟨#[61]⟩ then
    (match termT l (m + 1) with
    | .error q=>.error q
    | .ok (c,q)=>.ok ((4,firstQ l opsT k 0,[a,b,c]),q))
   else .error m
def isTestT (l:List Tok) (j:Nat):Bool:=match l[j]? with
 | none=>true
 | some t=>decide (t.kind≠1)
def litT (l:List Tok) (e:Int) (i:Nat):PR TLt :=
 match seesT l i ⟨#[110,111,116]⟩ with
 | true=>(match nameT l (i + 1) with
  | .error k=>.error k
  | .ok (s,k)=>(match termsT l k false with
   | .error m=>.error m
   | .ok ((ts,_),m)=>.ok (⟨2,hereT l e i,0,s,ts⟩,m)))
 | false=>(match isTestT l i with
  | true=>(match testT l i with
   | .error k=>.error k
   | .ok ((kind,op,ts),k)=>.ok (⟨kind,hereT l e i,op,⟨#[]⟩,ts⟩,k))
  | false=>(match nameT l i with
   | .error k=>.error k
   | .ok (s,k)=>(match termsT l k false with
    | .error m=>.error m
    | .ok ((ts,_),m)=>.ok (⟨1,hereT l e i,0,s,ts⟩,m))))
def litsGo (l:List Tok) (e:Int):Nat→Nat→List TLt→PR (List TLt)
 | 0,i,_=>.error i
 | n + 1,i,acc=>match litT l e i with
  | .error k=>.error k
  | .ok (x,k)=>if seesT l k ⟨#[44]⟩ then litsGo l e n (k + 1) (acc++[x]) else .ok (acc++[x],k)
def ruleT (l:List Tok) (e:Int) (i:Nat):PR TRu :=
 match nameT l i with
 | .error k=>.error k
 | .ok (s,k)=>match termsT l k true with
  | .error m=>.error m
  | .ok ((ts,f),m) =>
   if f=0∧seesT l m ⟨#[46]⟩=true then .ok (⟨hereT l e i,s,ts,f,[]⟩,m + 1)
   else if seesT l m ⟨#[58,45]⟩ then
    (match litsGo l e (l.length + 1) (m + 1) [] with
    | .error q=>.error q
    | .ok (b,q)=>if seesT l q ⟨#[46]⟩ then .ok (⟨hereT l e i,s,ts,f,b⟩,q + 1) else .error q)
   else .error m
def rulesGo (l:List Tok) (e:Int):Nat→Nat→List TRu→Except Nat (List TRu)
 | 0,_,acc=>.ok acc
 | n + 1,i,acc=>if i < l.length then
   (match ruleT l e i with
   | .error k=>.error k
   | .ok (r,k)=>rulesGo l e n k (acc++[r]))
  else .ok acc
def tmOk (t:TTm):Bool:=if t.var=⟨#[]⟩ then decide (-9999999≤t.n) && decide (t.n≤9999999) else oneS 2 t.var && decide (t.n=0)
def tmsOk (l:List TTm):Bool:=l.all tmOk
def tlOk (x:TLt):Bool:=tmsOk x.terms &&
 (if x.kind=1∨x.kind=2 then decide (x.op=0) && nameS x.name
 else if x.kind=3 then decide (1≤x.op∧x.op≤4) && decide (x.name=⟨#[]⟩) && decide (x.terms.length=2)
 else if x.kind=4 then decide (5≤x.op∧x.op≤7) && decide (x.name=⟨#[]⟩) && decide (x.terms.length=3)
 else false)
def truOk (r:TRu):Bool:=nameS r.name && tmsOk r.terms && decide (0≤r.fold∧r.fold≤4) && (decide (r.fold=0) || (decide (r.terms≠[]) && decide (r.body≠[]))) && r.body.all tlOk
def muchT (r:TRu):Bool:=decide (3 < r.terms.length) || decide (4 < r.body.length) || r.body.any fun x=>decide (3 < x.terms.length)
def checkT (rs:List TRu):Int:=if 12 < rs.length∨rs.any muchT=true then 2 else if rs.all truOk=true then 0 else 1
def parseS (s:ByteArray):List TRu × Int × Int :=
 match scanS s with
 | (l,p,er)=>if er≠0 then ([],p,er) else
  match rulesGo l s.size (l.length + 1) 0 [] with
  | .error k=>([],hereT l s.size k,1)
  | .ok rs=>if checkT rs=0 then (rs,0,0) else ([],0,checkT rs)
end Go.Proofs.YtapciiffpnociabGreatDoor
namespace Go.Proofs.YtapciiffpnociabGreatDoor
open Go Go.RowKit
section
variable {Γ : Ctx} {l : List Oper} {κ c : Nat}
theorem enumO_app:∀ (a b:List Oper) (n:Nat),enumO n (a++b)=enumO n a++enumO (n + a.length) b
 | [],b,n=>rfl
 | o::a,b,n=>by
  rw [List.cons_append,enumO,enumO,enumO_app a b (n + 1),List.cons_append,List.length_cons,show n + 1 + a.length=n + (a.length + 1) by omega]
theorem down_spec (hdown:regDownB l=true):∀ j o,l[j]? = some o→∀ e∈o.after,Region.binds .any e=true→e.on < j:=by
 intro j o hj e he hb
 unfold regDownB at hdown
 rw [List.all_eq_true] at hdown
 have h1:=hdown (j,o) ((enumO_mem l 0 (j,o)).2 ⟨Nat.zero_le _,by simpa using hj⟩)
 rw [List.all_eq_true] at h1
 have h2:=h1 e (by simpa using he)
 simp only [hb,Bool.not_true,Bool.false_or] at h2
 exact Nat.le_of_ble_eq_true h2
theorem first_ready (hdown:regDownB l=true) {listed:Array Bool} {q:Nat × Oper} {rem':List (Nat × Oper)} (g:Going l listed (q::rem')):q.1∈Region.ready .any l.toArray listed:=by
 obtain⟨h1,h2⟩:=(g.left q).1 (List.mem_cons_self ..)
 refine mem_ready.2 ⟨h2,q.2,by simpa using h1,fun e' he hb=>?_⟩
 have hlt:=down_spec hdown q.1 q.2 h1 e' he hb
 have hln:e'.on < listed.size:=by rw [g.size];have:=lt_of_some h1;omega
 cases hx:listed.getD e'.on false with
 | true=>rfl
 | false =>
  exfalso
  have hx':listed.getD e'.on true=false:=(getD_flip hln).trans hx
  have hlen':e'.on < l.length:=by rw [← g.size];exact hln
  have hm:=(g.left (e'.on,l[e'.on])).2 ⟨by simp [hlen'],hx'⟩
  rcases List.mem_cons.1 hm with h|h
  ·have:e'.on=q.1:=by rw [← h]
   omega
  ·have:=(List.pairwise_cons.1 g.sorted).1 _ h
   simp at this
   omega
theorem dw_stopT (id:Nat) {k:Nat} {L:Sl} {H:Hp} {ops:Array Oper} {b:Bool} {Q:Post} (h:DW Γ (.region id ops b) Q k L H):DW Γ (.region id ops b) Q k L H:=h
end
end Go.Proofs.YtapciiffpnociabGreatDoor
namespace Go.Proofs.YtapciiffpnociabGreatDoor
open Go Go.RowKit
section
variable {Γ : Ctx} {l : List Oper} {κ c : Nat}
def headB (l:List Oper) (c:Nat):Bool:=(enumO 0 l).all fun q=>Nat.blt q.1 c || (List.range c).all fun i=>reachB l l.length q.1 i
theorem headB_spec (h:headB l c=true) {j i:Nat} {o:Oper} (hj:l[j]? = some o) (hc:c≤j) (hi:i < c):reachB l l.length j i=true:=by
 unfold headB at h
 rw [List.all_eq_true] at h
 have h1:=h (j,o) ((enumO_mem l 0 (j,o)).2 ⟨Nat.zero_le _,by simpa using hj⟩)
 rw [Bool.or_eq_true] at h1
 rcases h1 with h1|h1
 ·have:j < c:=Nat.le_of_ble_eq_true h1
  omega
 ·exact List.all_eq_true.1 h1 i (List.mem_range.2 hi)
theorem split_sim (hB:regAnyB l=true) (hT:headB l c=true) {K:FS→Prop} {Q:Exit→Act→World→Prop} (hQ:∀ s e a w listed,K s→Rep Γ (lo (κ + c)) s e a w→Going l listed (enumO c (l.drop c))→wpAny Γ.P .any l.toArray Q (l.length - c) listed a w) :
  ∀ (fuel:Nat) (listed:Array Bool) (a:Act) (w:World) (s:FS) (e:Env) (D:Nat→Prop) (rem:List (Nat × Oper)) (lg:Log),Going l listed (rem++enumO c (l.drop c))→(∀ q∈rem,q.1 < c)→rem.length=fuel→Rep Γ D s e a w →
   (∀ x,D x→x < κ + c∧∀ j,x=κ + j→listed.getD j false=true)→DR Γ l κ rem lg K s→wpAny Γ.P .any l.toArray Q (fuel + (l.length - c)) listed a w:=by
 simp only [regAnyB,Bool.and_eq_true] at hB
 obtain⟨hdown,hpair,hcall⟩:=hB
 intro fuel
 induction fuel with
 | zero =>
  intro listed a w s e D rem lg g hrc hlen hr hD hd
  have hrem:rem=[]:=List.eq_nil_of_length_eq_zero hlen
  subst hrem
  rw [Nat.zero_add]
  cases hd with
  | nil hk =>
   obtain⟨L,H,m,hs⟩:=hr
   obtain⟨e',m'⟩:=m.widenTo (k':=lo (κ + c)) fun x hx=>(hD x hx).1
   exact hQ s e' a w listed hk ⟨L,H,m',hs⟩ g
 | succ fuel ih =>
  intro listed a w s e D rem lg g hrc hlen hr hD hd
  rw [show fuel + 1 + (l.length - c)=(fuel + (l.length - c)) + 1 by omega]
  obtain⟨q0,rem0,hq0⟩:∃ q r,rem=q::r:=by
   cases rem with
   | nil=>simp at hlen
   | cons q r=>exact⟨q,r,rfl⟩
  refine⟨fun h0=>?_,fun i hi=>?_⟩
  ·exfalso
   have hg:=g
   rw [hq0,List.cons_append] at hg
   have:=first_ready hdown hg
   rw [h0] at this
   simp at this
  ·obtain⟨h1,o,ho,hall⟩:=mem_ready.1 hi
   have hio:l[i]? = some o:=by simpa using ho
   have hic:i < c:=by
    apply Classical.byContradiction
    intro hn
    have hq0c:q0.1 < c:=hrc q0 (by rw [hq0];exact List.mem_cons_self ..)
    have hrd:=reach_done g l.length i o (headB_spec hT hio (by omega) hq0c) hio hall
    have h3:=(g.left q0).1 (List.mem_append_left _ (by rw [hq0];exact List.mem_cons_self ..))
    have hs:q0.1 < listed.size:=by rw [g.size];exact lt_of_some h3.1
    have h4:=h3.2
    rw [getD_flip hs,hrd] at h4
    cases h4
   have hmem:(i,o)∈rem:=by
    rcases List.mem_append.1 ((g.left (i,o)).2 ⟨hio,h1⟩) with h|h
    ·exact h
    ·exfalso
     have:=((enumO_mem _ _ _).1 h).1
     simp only at this
     omega
   obtain⟨pre,post,hre⟩:=List.append_of_mem hmem
   have g0:=g
   rw [hre,List.append_assoc,List.cons_append] at g0
   have g':=g0.rest hi rfl hio
   rw [← List.append_assoc] at g'
   have hpull:DR Γ l κ ((i,o)::(pre++post)) lg K s:=by
    refine DR.pull pre lg s (fun q hq=>?_) (hre▸hd)
    have hqr:q∈rem++enumO c (l.drop c):=List.mem_append_left _ (by rw [hre];exact List.mem_append_left _ hq)
    obtain⟨hq1,hq2⟩:=(g.left q).1 hqr
    have hqi:q.1 < i:=by
     have hs:=g0.sorted
     rw [List.pairwise_append] at hs
     have:=hs.2.2 q hq (i,o) (List.mem_cons_self ..)
     simpa using this
    have hqs:q.1 < listed.size:=by rw [g.size];exact lt_of_some hq1
    have hq2':listed.getD q.1 false=false:=(getD_flip hqs).symm.trans hq2
    have e0:path2B l i q.1=false:=path2_false hio hall g.closed hq2'
    have e1:=path2_edge e0
    have e2:edgeB l q.1 i=false:=by
     cases hx:edgeB l q.1 i with
     | false=>rfl
     | true =>
      obtain⟨o',ho',e',he',hb',hon⟩:=edgeB_spec.1 hx
      have:=down_spec hdown q.1 o' ho' e' he' hb'
      omega
    refine⟨e0,e2,?_,fun hcq=>?_⟩
    ·unfold regPairB at hpair
     rw [List.all_eq_true] at hpair
     have p1:=hpair (i,o) ((enumO_mem l 0 (i,o)).2 ⟨Nat.zero_le _,by simpa using hio⟩)
     rw [List.all_eq_true] at p1
     have p2:=p1 q ((enumO_mem l 0 q).2 ⟨Nat.zero_le _,by simpa using hq1⟩)
     have hnb:Nat.ble i q.1=false:=by
      cases hb:Nat.ble i q.1 with
      | false=>rfl
      | true=>have:=Nat.le_of_ble_eq_true hb;omega
     simp only [hnb,Bool.false_or,e1] at p2
     exact p2
    ·cases hci:isCall o with
     | false=>rfl
     | true =>
      have:=calls_done g hcall hq1 hcq i o hio hci hqi hall
      rw [hq2'] at this
      cases this
   cases hpull with
   | cons cc S rd wr hm hl hne hn hk =>
    have hz:¬ D (κ + i):=by
     intro hx
     have:=(hD _ hx).2 i rfl
     have hin:i < listed.size:=by rw [g.size];exact lt_of_some hio
     rw [← getD_flip hin,h1] at this
     cases this
    refine Mv.sound hm hr ⟨κ + c,fun x hx=>(hD x hx).1⟩ hz hio Q _ fun v u a' w' e' hv hr'=>?_
    refine ih (listed.setIfInBounds i true) a' w' _ e' _ (pre++post) _ g' (fun q hq=>hrc q ?_) ?_ hr' (fun x hx=>?_) (hk v u hv)
    ·rw [hre];rcases List.mem_append.1 hq with h|h <;> simp [h]
    ·rw [hre] at hlen
     simp only [List.length_append,List.length_cons] at hlen ⊢
     omega
    ·have hin:i < listed.size:=by rw [g.size];exact lt_of_some hio
     rcases hx with hx|hx
     ·refine⟨(hD x hx).1,fun j hj=>?_⟩
      have:=(hD x hx).2 j hj
      by_cases hij:i=j
      ·subst hij;simp [hin]
      ·rw [getD_set_ne false hij];exact this
     ·subst hx
      refine⟨by omega,fun j hj=>?_⟩
      have:i=j:=by omega
      subst this
      simp [hin]
theorem dw_split {id k m:Nat} {L:Sl} {H:Hp} {Q:Post} (c:Nat) (hm:Γ.P.follows .mixedOrders=true) (hB:regAnyB l=true) (hT:headB l c=true) (hcl:Nat.ble c l.length=true) (hnd:noDefer l=true) (hl:lenIs (l.take c) k m)
  (h:DT Γ l k (enumO 0 (l.take c)) [] (endK Γ m (fun k' L' H'=>∃ (k2:Nat) (L2:Sl) (H2:Hp) (m2:Nat),Ent Γ k' L' H' k2 L2 H2∧lenIs l k2 m2∧DT Γ l k2 (enumO c (l.drop c)) [] (endK Γ m2 (Q .normal)) L2 H2)) L H):DW Γ (.region id l.toArray true) Q k L H:=by
 have hcl:=Nat.le_of_ble_eq_true hcl
 have hmc:k + c=m:=by
  have:=lenIs_spec (l.take c) k m hl
  rw [List.length_take] at this
  omega
 subst hmc
 intro e a w mm
 refine wpIn_mono (wpIn_region_any hm (wpAny_in (letsOut_lift (Γ:=Γ) (K:=Q .normal)) hnd _ _ _ _ ?_)) (lift_mono (fun ex k' L' H' (⟨h1,h2⟩:onNormal (Q .normal) ex k' L' H')=>h1▸h2))
 have m0:=mm.below (w':={ w with drawn:=w.drawn + 1 }) ((Beld.refl _ _ _).drew)
 have hsp:enumO 0 (l.take c)++enumO c (l.drop c)=enumO 0 l:=by
  have:=enumO_app (l.take c) (l.drop c) 0
  rw [List.take_append_drop,List.length_take,Nat.zero_add,Nat.min_eq_left hcl] at this
  exact this.symm
 have hg:Going l (Array.replicate l.length false) (enumO 0 l):=by
  refine⟨by simp,fun j o hj hl=>?_,fun q=>?_,enumO_sorted l 0⟩
  ·have hlt:=lt_of_some hj
   simp [hlt] at hl
  ·rw [enumO_mem l 0 q]
   simp only [Nat.zero_le,Nat.sub_zero,true_and]
   constructor
   ·intro hq;exact⟨hq,by have:=lt_of_some hq;simp [this]⟩
   ·exact fun h=>h.1
 have hlenO:∀ (l:List Oper) b,(enumO b l).length=l.length:=by
  intro l
  induction l with
  | nil=>intro b;rfl
  | cons o l ih=>intro b;simp [enumO,ih]
 have hsize:l.toArray.size=c + (l.length - c):=by simp;omega
 rw [hsize]
 refine split_sim hB hT (K:=endK Γ (k + c) (fun k' L' H'=>∃ (k2:Nat) (L2:Sl) (H2:Hp) (m2:Nat),Ent Γ k' L' H' k2 L2 H2∧lenIs l k2 m2∧DT Γ l k2 (enumO c (l.drop c)) [] (endK Γ m2 (Q .normal)) L2 H2)) (Q:=lift Γ (onNormal (Q .normal))) (fun s e a w listed hk hr g=>?_) c _ a _ (ofL L H) e (lo k) (enumO 0 (l.take c)) [] (by rw [hsp,← hsize];simpa using hg) (fun q hq=>?_) (by rw [hlenO,List.length_take];omega) ⟨L,H,m0,rfl⟩ (fun x hx=>⟨Nat.lt_of_lt_of_le hx (Nat.le_add_right _ _),fun j hj=>?_⟩) h
 ·obtain⟨k0,L0,H0,e0,m0',k',L',H',m2,hent,hl2,hq⟩:=hk e a w hr
  obtain⟨e',m'⟩:=hent e0 a w m0'
  have hl3:=lenIs_spec l k' m2 hl2
  refine any_sim hB (K:=endK Γ m2 (Q .normal)) (κ:=k') (fun s e a w hk hr=>?_) (l.length - c) listed a w (ofL L' H') e' (lo k') _ [] g (by rw [hlenO,List.length_drop]) ⟨L',H',m',rfl⟩ (fun x hx=>?_) hq
  ·obtain⟨k2,L2,H2,e2,m3,hq2⟩:=hk e a w (hl3▸hr)
   exact .inl ⟨k2,L2,H2,e2,m3,rfl,hq2⟩
  ·have hx:x < k':=hx
   exact⟨by omega,fun j hj=>by omega⟩
 ·have h2:=((enumO_mem _ _ _).1 hq).2
  have:=lt_of_some h2
  rw [List.length_take] at this
  omega
 ·have:x < k:=hx
  omega
end
end Go.Proofs.YtapciiffpnociabGreatDoor
