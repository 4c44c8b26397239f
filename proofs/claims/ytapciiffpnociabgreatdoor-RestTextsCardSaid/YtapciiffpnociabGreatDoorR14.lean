/- Several texts in one: ShwL ScoC ScoD ScoF TreN TreO ShwG. Condition: none. -/
import Derived.Test.YtapciiffpnociabGreatDoorR13
import Derived.Test.YtapciiffpnociabGreatDoorR10
import Derived.Test.YtapciiffpnociabGreatDoorR12
namespace Go.Proofs.YtapciiffpnociabGreatDoor
open Go Go.RowKit
def bodyT (body:List TLt) (k:Nat):ByteArray:=if k=0 then ⟨#[]⟩ else ifS++eachS ((body.take k).map showLt)
theorem bodyT_step {body:List TLt} {k:Nat} (hk:k < body.length):bodyT body (k + 1)=bodyT body k++(if k=0 then ifS else cmS)++showLt body[k]:=by
 unfold bodyT
 rw [if_neg (by omega),List.take_succ_eq_append_getElem hk,List.map_append,List.map_cons,List.map_nil]
 cases k with
 | zero =>
  rw [if_pos rfl,if_pos rfl,List.take_zero]
  show ifS++eachS [showLt body[0]]=_
  rw [each_one]
  rw [show (⟨#[]⟩:ByteArray)++ifS=ifS from ByteArray.empty_append ..]
 | succ n =>
  rw [if_neg (by omega),if_neg (by omega),each_snoc _ _ (by
   intro h
   have:=congrArg List.length h
   rw [List.length_map,List.length_take,List.length_nil] at this
   omega)]
  simp only [ByteArray.append_assoc]
theorem bodyT_size {body:List TLt} {k:Nat} (hl:body.length≤4) (hok:∀ x∈body,LtOk x):(bodyT body k).size≤549755813906:=by
 have h:=eachLt_size (body.take k) (by rw [List.length_take];omega) fun x hx=>hok x (List.mem_of_mem_take hx)
 have s2:ifS.size=4:=rfl
 unfold bodyT
 split
 ·exact Nat.zero_le _
 ·rw [ByteArray.size_append];omega
theorem showRu_body (r:TRu):showRu r=atomS r.name r.terms r.fold++bodyT r.body r.body.length++endS:=by
 unfold showRu bodyT
 by_cases h:r.body=[]
 ·rw [if_pos h,if_pos (by rw [h];rfl)]
 ·rw [if_neg h,if_neg (fun h2=>h (List.length_eq_zero_iff.1 h2)),List.take_length]
abbrev kOk (x:TLt):Prop:=1≤x.kind∧x.kind≤4
attribute [local irreducible] DW DS DL DQ Ev FnOk FnP thenD inBlockD DT
set_option maxHeartbeats 8000000 in
theorem treeText_fn (rs:List TRu) (hl:rs.length≤12) (hok:∀ r∈rs,RuShow r) (hk:∀ r∈rs,∀ x∈r.body,kOk x):Fn 10 [.agg [.d (.slice 5 (rs.map encTRu))]] (fun r=>r = .d (.str (showS rs))):=by
 refine fnp_enter' _ Tryz.func10 rfl rfl (by kernel_rfl) ?_
 intro O w0 E0 β0
 have ll:(rs.map encTRu).length=rs.length:=List.length_map _
 have s1:endS.size=2:=rfl
 have s1':(⟨#[46,10]⟩:ByteArray).size=2:=rfl
 have s2:ifS.size=4:=rfl
 have s2':(⟨#[32,58,45,32]⟩:ByteArray).size=4:=rfl
 have s3:cmS.size=2:=rfl
 have s3':(⟨#[44,32]⟩:ByteArray).size=2:=rfl
 have s4:(⟨#[110,111,116,32]⟩:ByteArray).size=4:=rfl
 have s5:(⟨#[32,61,32]⟩:ByteArray).size=3:=rfl
 have s6:(⟨#[32]⟩:ByteArray).size=1:=rfl
 repeat' (first|refine z0 ?_|apply ds_nil|apply dw_seq2|refine z16 ?_|apply dw_block|apply thenD_n|refine z1 ?_|fail)
 refine ds_loop (ι:=Nat) (fun i=>⟨1,[(1,.loc 0 0),(3,.d (.str (showS (rs.take i)))),(4,.d (.int .i64 i))],[(0,.blk 24 [.d (.slice 5 (rs.map encTRu))])]⟩)
  (fun i=>i≤rs.length) (fun i=>rs.length - i) 0 (Nat.zero_le _) (ent_ren id ⟨rfl,rfl,rfl,trivial⟩ ⟨rfl,trivial⟩ rfl rfl rfl rfl rfl rfl) ?_
 intro i hle
 dsimp only at hle ⊢
 have hz:(showS (rs.take i)).size≤14293651161088:=by
  have:=showS_size (rs.take i) fun x hx=>hok x (List.mem_of_mem_take hx)
  have h2:(rs.take i).length * 1099511627776≤13 * 1099511627776:=Nat.mul_le_mul_right _ (by rw [List.length_take];omega)
  exact Nat.le_trans this h2
 by_cases hi:i < rs.length
 ·have hr:=hok _ (List.getElem_mem hi)
  have hkr:=hk _ (List.getElem_mem hi)
  have hst:showS (rs.take (i + 1))=showS (rs.take i)++(atomS rs[i].name rs[i].terms rs[i].fold++bodyT rs[i].body rs[i].body.length++endS):=by rw [List.take_succ_eq_append_getElem hi,showS_snoc,showRu_body]
  have w1:=atomText_fn rs[i].name rs[i].terms rs[i].fold (by have:=hr.len;omega) hr.terms hr.name hr.fold
  have ya:=atomS_sizeF rs[i].name rs[i].terms rs[i].fold (by have:=hr.len;omega) hr.terms hr.name hr.fold
  generalize atomS rs[i].name rs[i].terms rs[i].fold=A at *
  generalize showS (rs.take i)=B at *
  repeat' (first|refine z0 ?_|apply ds_nil|apply dw_seq2|refine z16 ?_|apply dw_block|apply dw_skip|apply dw_exit|apply thenD_n|apply thenD_e|refine z17 ?_|refine z21 ?_ (hc:=by apply w1)|refine z1 ?_|refine z3 ?_|(refine z23 ?_ ?_ <;> intro hg)|fail)
  all_goals try (exfalso;omega)
  refine ds_loop (ι:=Nat) (fun k=>⟨2,[(1,.loc 0 0),(3,.d (.str (B++A++bodyT rs[i].body k))),(4,.d (.int .i64 i)),(5,.loc 1 0),(6,.d (.int .i64 k))],[(0,.blk 24 [.d (.slice 5 (rs.map encTRu))]),(1,.blk 47 [.d (.int .i64 rs[i].at_),.d (.str rs[i].name),.d (.slice 2 (rs[i].terms.map encTTm)),.d (.int .i64 rs[i].fold),.d (.slice 5 (rs[i].body.map encTLt))])]⟩)
   (fun k=>k≤rs[i].body.length) (fun k=>rs[i].body.length - k) 0 (Nat.zero_le _) (ent_ren id ⟨rfl,by
    rw [show bodyT rs[i].body 0=⟨#[]⟩ from rfl,show B++A++(⟨#[]⟩:ByteArray)=B++A from ByteArray.append_empty ..]
    rfl,rfl,rfl,rfl,trivial⟩ ⟨rfl,rfl,trivial⟩ rfl rfl rfl rfl rfl rfl) ?_
  intro k hkl
  dsimp only at hkl ⊢
  have yb:=bodyT_size (k:=k) hr.blen hr.body
  have lb:(rs[i].body.map encTLt).length=rs[i].body.length:=List.length_map _
  have hbl:=hr.blen
  by_cases hki:k < rs[i].body.length
  ·have hx:=hr.body _ (List.getElem_mem hki)
   have hkx:=hkr _ (List.getElem_mem hki)
   have hbs:=bodyT_step hki
   have w2:=atomText_fn rs[i].body[k].name rs[i].body[k].terms 0 (by have:=hx.len;omega) hx.terms hx.name (.inl rfl)
   have y2:=atomS_size rs[i].body[k].name rs[i].body[k].terms (by have:=hx.len;omega) hx.terms hx.name
   generalize bodyT rs[i].body k=C at *
   repeat' ((fail_if_success (apply dw_stopS 14));(first|refine z0 ?_|apply ds_nil|apply dw_seq2|refine z16 ?_|apply dw_block|apply dw_skip|apply dw_exit|apply thenD_n|apply thenD_e|apply inB_n|refine z17 ?_|refine z1 ?_|refine z3 ?_|(refine z23 ?_ ?_ <;> intro hg)|fail))
   all_goals try (exfalso;omega)
   all_goals
    (first|rw [if_pos (show k=0 by omega)] at hbs|rw [if_neg (show ¬ k=0 by omega)] at hbs)
    by_cases k1:rs[i].body[k].kind=1
    ·have hsl:showLt rs[i].body[k]=atomS rs[i].body[k].name rs[i].body[k].terms 0:=by unfold showLt;rw [if_pos k1]
     generalize atomS rs[i].body[k].name rs[i].body[k].terms 0=T at *
     repeat' (first|refine z0 ?_|apply ds_nil|refine z5 ?_|apply dw_seq2|refine z16 ?_|refine z20 ?_|apply dw_skip|apply dw_exit|apply thenD_n|apply thenD_e|refine z17 ?_|refine z21 ?_ (hc:=by apply w2)|(refine z23 ?_ ?_ <;> intro hg)|fail)
     all_goals try (exfalso;omega)
     exact⟨k + 1,hki,ent_ren id ⟨rfl,by rw [hbs,hsl];simp only [← ByteArray.append_assoc];rfl,rfl,rfl,rfl,trivial⟩ ⟨rfl,rfl,trivial⟩ rfl rfl rfl rfl rfl rfl,by omega⟩
    ·by_cases k2:rs[i].body[k].kind=2
     ·have hsl:showLt rs[i].body[k]=⟨#[110,111,116,32]⟩++atomS rs[i].body[k].name rs[i].body[k].terms 0:=by unfold showLt;rw [if_neg k1,if_pos k2]
      generalize atomS rs[i].body[k].name rs[i].body[k].terms 0=T at *
      repeat' (first|refine z0 ?_|apply ds_nil|refine z5 ?_|apply dw_seq2|refine z16 ?_|refine z20 ?_|apply dw_skip|apply dw_exit|apply thenD_n|apply thenD_e|refine z17 ?_|refine z21 ?_ (hc:=by apply w2)|(refine z23 ?_ ?_ <;> intro hg)|fail)
      all_goals try (exfalso;omega)
      exact⟨k + 1,hki,ent_ren id ⟨rfl,by rw [hbs,hsl];simp only [← ByteArray.append_assoc];rfl,rfl,rfl,rfl,trivial⟩ ⟨rfl,rfl,trivial⟩ rfl rfl rfl rfl rfl rfl,by omega⟩
     ·have g2:=hx.two k1 k2
      clear w2 y2
      obtain⟨o0,o1⟩:=hx.op
      have lo:(opsS.map encT).length=8:=rfl
      have ho:rs[i].body[k].op.toNat < opsS.length:=by show rs[i].body[k].op.toNat < 8;omega
      have hgo:opsS.getD rs[i].body[k].op.toNat ⟨#[]⟩=opsS[rs[i].body[k].op.toNat]:=by rw [List.getD_eq_getElem?_getD,List.getElem?_eq_getElem ho];rfl
      have hw:∀ s∈opsS,s.size≤2:=by decide
      have hw2:=hw _ (List.getElem_mem ho)
      have e0:rs[i].body[k].terms.getD 0 t0S=rs[i].body[k].terms[0]:=by rw [List.getD_eq_getElem?_getD,List.getElem?_eq_getElem (by omega)];rfl
      have e1:rs[i].body[k].terms.getD 1 t0S=rs[i].body[k].terms[1]:=by rw [List.getD_eq_getElem?_getD,List.getElem?_eq_getElem (by omega)];rfl
      have v0:=termText_fn rs[i].body[k].terms[0] (hx.terms _ (List.getElem_mem _))
      have v1:=termText_fn rs[i].body[k].terms[1] (hx.terms _ (List.getElem_mem _))
      have y0:=showTm_size (hx.terms _ (List.getElem_mem (by omega:0 < rs[i].body[k].terms.length)))
      have y1:=showTm_size (hx.terms _ (List.getElem_mem (by omega:1 < rs[i].body[k].terms.length)))
      repeat' ((fail_if_success (apply dw_stopS 18));(first|refine z0 ?_|apply ds_nil|apply dw_seq2|refine z16 ?_|apply dw_skip|apply thenD_n|(refine z23 ?_ ?_ <;> intro hg)|fail))
      all_goals try (exfalso;omega)
      repeat' (first|(refine dt_bsS opsS rfl rfl rfl rfl rfl rfl rfl rfl rfl rfl rfl rfl rfl rfl ?_)|((fail_if_success (apply dw_stopS 19));(first|refine z5 ?_|apply dw_seq2|refine z20 ?_|refine z22 ?_ (hc:=by apply v0)|fail)))
      all_goals try (exfalso;omega)
      have hrow:rowAt (opsS.map fun s=>[D.str s]) rs[i].body[k].op.toNat=[D.str opsS[rs[i].body[k].op.toNat]]:=by simp [rowAt,List.getD,ho]
      rw [hrow]
      generalize opsS[rs[i].body[k].op.toNat]=OP at *
      generalize hT0:showTm rs[i].body[k].terms[0]=T0 at *
      generalize hT1:showTm rs[i].body[k].terms[1]=T1 at *
      repeat' ((fail_if_success (apply dw_stopS 19));(first|refine z5 ?_|refine z10 ?_|apply thenD_n|refine z22 ?_ (hc:=by apply v1)|fail))
      all_goals try (exfalso;omega)
      by_cases k3:rs[i].body[k].kind=3
      ·have hsl:showLt rs[i].body[k]=T0++⟨#[32]⟩++OP++⟨#[32]⟩++T1:=by unfold showLt;rw [if_neg k1,if_neg k2,if_pos k3,e0,e1,hT0,hT1,hgo]
       repeat' (first|refine z0 ?_|apply ds_nil|apply dw_seq2|refine z16 ?_|apply dw_skip|apply thenD_n|apply inB_n|(refine z23 ?_ ?_ <;> intro hg)|fail)
       all_goals try (exfalso;omega)
       exact⟨k + 1,hki,ent_ren id ⟨rfl,by rw [hbs,hsl];simp only [← ByteArray.append_assoc];rfl,rfl,rfl,rfl,trivial⟩ ⟨rfl,rfl,trivial⟩ rfl rfl rfl rfl rfl rfl,by omega⟩
      ·have k4:rs[i].body[k].kind=4:=by omega
       have g3:=hx.three k1 k2 k3
       have e2:rs[i].body[k].terms.getD 2 t0S=rs[i].body[k].terms[2]:=by rw [List.getD_eq_getElem?_getD,List.getElem?_eq_getElem (by omega)];rfl
       have v2:=termText_fn rs[i].body[k].terms[2] (hx.terms _ (List.getElem_mem _))
       have y2:=showTm_size (hx.terms _ (List.getElem_mem (by omega:2 < rs[i].body[k].terms.length)))
       have hsl:showLt rs[i].body[k]=T0++⟨#[32]⟩++OP++⟨#[32]⟩++T1++⟨#[32,61,32]⟩++showTm rs[i].body[k].terms[2]:=by unfold showLt;rw [if_neg k1,if_neg k2,if_neg k3,e0,e1,e2,hT0,hT1,hgo]
       generalize showTm rs[i].body[k].terms[2]=T2 at *
       repeat' (first|refine z0 ?_|apply ds_nil|apply dw_seq2|refine z16 ?_|apply dw_skip|apply thenD_n|apply inB_n|refine z21 ?_ (hc:=by apply v2)|(refine z23 ?_ ?_ <;> intro hg)|fail)
       all_goals try (exfalso;omega)
       exact⟨k + 1,hki,ent_ren id ⟨rfl,by rw [hbs,hsl];simp only [← ByteArray.append_assoc];rfl,rfl,rfl,rfl,trivial⟩ ⟨rfl,rfl,trivial⟩ rfl rfl rfl rfl rfl rfl,by omega⟩
  ·obtain rfl:k=rs[i].body.length:=by omega
   repeat' (first|refine z0 ?_|apply ds_nil|refine z5 ?_|apply dw_seq2|refine z16 ?_|refine z20 ?_|apply dw_block|apply dw_skip|apply dw_exit|apply thenD_n|apply thenD_e|apply inB_n|refine z17 ?_|refine z1 ?_|refine z3 ?_|(refine z23 ?_ ?_ <;> intro hg)|fail)
   all_goals try (exfalso;omega)
   exact⟨i + 1,hi,ent_ren id ⟨rfl,by rw [hst];simp only [← ByteArray.append_assoc];rfl,rfl,trivial⟩ ⟨rfl,trivial⟩ rfl rfl rfl rfl rfl rfl,by omega⟩
 ·rw [List.take_of_length_le (by omega)]
  repeat' (first|refine z0 ?_|apply ds_nil|apply dw_seq2|refine z16 ?_|apply dw_block|apply dw_skip|apply dw_exit|apply dw_ret|apply thenD_n|apply thenD_e|refine z17 ?_|refine z1 ?_|refine z3 ?_|(refine z23 ?_ ?_ <;> intro hg)|fail)
  all_goals try (exfalso;omega)
  exact⟨.inl rfl,_,rfl,rfl,rfl⟩
theorem isT_pos {bs:List Bool} {t:Trm} (h:t.var < 0):isT bs t=true:=by unfold isT;rw [decide_eq_true h];rfl
theorem isT_neg {bs:List Bool} {t:Trm} (h:¬ t.var < 0) (h2:t.var < (bs.length:Int)):isT bs t=bs[t.var.toNat]'(by omega):=by
 unfold isT
 rw [decide_eq_false h,Bool.false_or,List.getD,List.getElem?_eq_getElem (by omega)];rfl
def Fl (b0 bs:List Bool) (ch:Bool):Prop:=bs.length=b0.length∧bs.count false≤b0.count false∧(ch=false→bs=b0)∧(ch=true→bs.count false < b0.count false)
theorem Fl.refl (b0:List Bool):Fl b0 b0 false:=⟨rfl,Nat.le_refl _,fun _=>rfl,fun h=>by cases h⟩
theorem count_set:∀ {bs:List Bool} {i:Nat} (_:i < bs.length),bs[i]? = some false→(bs.set i true).count false + 1=bs.count false
 | [],_,h,_=>by simp at h
 | b::bs,0,_,hb=>by simp at hb;subst hb;simp
 | b::bs,i + 1,h,hb=>by
  have:=count_set (bs:=bs) (i:=i) (by simpa using h) (by simpa using hb)
  rw [List.set_cons_succ,List.count_cons,List.count_cons]
  omega
theorem setT_count {bs:List Bool} {t:Trm} (hok:okT bs.length t) (h:isT bs t=false):(setT bs t).count false + 1=bs.count false∧¬ t.var < 0:=by
 have hn:¬ t.var < 0:=fun hn=>by rw [isT_pos hn] at h;cases h
 unfold okT at hok
 rw [isT_neg hn hok] at h
 unfold setT
 rw [if_neg hn]
 exact⟨count_set (by omega) (by rw [List.getElem?_eq_getElem (by omega),h]),hn⟩
theorem Fl.step {b0 bs:List Bool} {ch:Bool} {t:Trm} (h:Fl b0 bs ch) (hok:okT bs.length t):Fl b0 (setT bs t) (ch || !isT bs t):=by
 obtain⟨h1,h2,h3,h4⟩:=h
 cases ht:isT bs t with
 | true=>rw [setT_same ht,Bool.not_true,Bool.or_false];exact⟨h1,h2,h3,h4⟩
 | false =>
  obtain⟨g1,_⟩:=setT_count hok ht
  rw [Bool.not_false,Bool.or_true]
  exact⟨by rw [setT_len,h1],by omega,fun h=>by (cases h),fun _=>by omega⟩

set_option maxHeartbeats 8000000 in
theorem isWord_fn (s:ByteArray):Fn 55 [.d (.str s)] (fun r=>r = .d (.bool (wordB s))):=by
 refine fnp_enter' _ Tryz.func55 rfl rfl (by kernel_rfl) ?_
 intro O w0 E0 β0
 unfold wordB wordsL
 repeat' (first|refine z0 ?_|refine z12 ?_|apply ds_nil|apply dw_seq2|refine z16 ?_|apply dw_ret|apply thenD_n|((fail_if_success (apply ds_known;exact rfl));apply ds_guardP;exact rfl;exact rfl;exact rfl;all_goals intro hg))
 all_goals exact ret_b rfl (by simp_all [eqS])
def nameR (s:ByteArray):Bool:=isTok 1 s && !wordB s
set_option maxHeartbeats 8000000 in
theorem isName_fn (s:ByteArray):Fn 26 [.d (.str s)] (fun r=>r = .d (.bool (nameR s))):=by
 refine fnp_enter' _ Tryz.func26 rfl rfl (by kernel_rfl) ?_
 intro O w0 E0 β0
 unfold nameR
 repeat' (first|refine z0 ?_|refine z12 ?_|apply ds_nil|apply dw_seq2|refine z16 ?_|apply dw_ret|apply thenD_n|refine z21 ?_ (hc:=by apply isToken_fn)|refine z21 ?_ (hc:=by apply isWord_fn)|((fail_if_success (apply ds_known;exact rfl));apply ds_guardB;exact rfl;exact rfl;exact rfl;all_goals intro hg))
 all_goals exact ret_b rfl (by simp_all)
theorem checkT_2 {rs:List TRu} (h:12 < rs.length∨∃ i,∃ h:i < rs.length,muchT rs[i]=true):checkT rs=2:=by
 unfold checkT
 rw [if_pos]
 rcases h with h|⟨i,hi,h⟩
 ·exact .inl h
 ·exact .inr (List.any_eq_true.2 ⟨_,List.getElem_mem hi,h⟩)
theorem checkT_no {rs:List TRu} (h1:¬ 12 < rs.length) (h2:∀ i (h:i < rs.length),muchT rs[i]=false):checkT rs=if rs.all truOk=true then 0 else 1:=by
 unfold checkT
 rw [if_neg]
 rintro (h|h)
 ·exact h1 h
 ·obtain⟨x,hx,hm⟩:=List.any_eq_true.1 h
  obtain⟨i,hi,rfl⟩:=List.mem_iff_getElem.1 hx
  rw [h2 i hi] at hm
  cases hm
theorem checkT_1 {rs:List TRu} (h1:¬ 12 < rs.length) (h2:∀ i (h:i < rs.length),muchT rs[i]=false) {i:Nat} (hi:i < rs.length) (h3:truOk rs[i]=false):checkT rs=1:=by
 rw [checkT_no h1 h2,if_neg]
 intro h
 rw [List.all_eq_true.1 h _ (List.getElem_mem hi)] at h3
 cases h3
theorem checkT_0 {rs:List TRu} (h1:¬ 12 < rs.length) (h2:∀ i (h:i < rs.length),muchT rs[i]=false) (h3:∀ i (h:i < rs.length),truOk rs[i]=true):checkT rs=0:=by
 rw [checkT_no h1 h2,if_pos]
 refine List.all_eq_true.2 fun x hx=>?_
 obtain⟨i,hi,rfl⟩:=List.mem_iff_getElem.1 hx
 exact h3 i hi
theorem muchT_1 {r:TRu} (h:3 < r.terms.length∨4 < r.body.length∨∃ i,∃ h:i < r.body.length,3 < r.body[i].terms.length):muchT r=true:=by
 unfold muchT
 simp only [Bool.or_eq_true,decide_eq_true_eq]
 rcases h with h|h|⟨i,hi,h⟩
 ·exact .inl (.inl h)
 ·exact .inl (.inr h)
 ·exact .inr (List.any_eq_true.2 ⟨_,List.getElem_mem hi,decide_eq_true h⟩)
theorem muchT_0 {r:TRu} (h1:¬ 3 < r.terms.length) (h2:¬ 4 < r.body.length) (h3:∀ i (h:i < r.body.length),¬ 3 < r.body[i].terms.length):muchT r=false:=by
 unfold muchT
 rw [decide_eq_false h1,decide_eq_false h2,Bool.false_or,Bool.false_or]
 cases h:r.body.any fun x=>decide (3 < x.terms.length) with
 | false=>rfl
 | true =>
  obtain⟨x,hx,hm⟩:=List.any_eq_true.1 h
  obtain⟨i,hi,rfl⟩:=List.mem_iff_getElem.1 hx
  exact absurd (of_decide_eq_true hm) (h3 i hi)
def headOk (r:TRu):Bool:=nameS r.name && tmsOk r.terms && decide (0≤r.fold∧r.fold≤4) && (decide (r.fold=0) || (decide (r.terms≠[]) && decide (r.body≠[])))
theorem truOk_eq (r:TRu):truOk r=(headOk r && r.body.all tlOk):=rfl
theorem tms_step {l:List TTm} {i:Nat} (hi:i < l.length) (h:tmOk l[i]=false):tmsOk l=false:=by
 unfold tmsOk
 cases hb:l.all tmOk with
 | false=>rfl
 | true=>rw [List.all_eq_true.1 hb _ (List.getElem_mem hi)] at h;cases h
theorem tms_end {l:List TTm} (h:∀ i (h:i < l.length),tmOk l[i]=true):tmsOk l=true:=by
 refine List.all_eq_true.2 fun x hx=>?_
 obtain⟨i,hi,rfl⟩:=List.mem_iff_getElem.1 hx
 exact h i hi
theorem nameR_eq (s:ByteArray):nameR s=nameS s:=by unfold nameR nameS;rw [oneS_eq]
set_option maxHeartbeats 8000000 in
theorem areTerms_fn (l:List TTm):Fn 27 [.d (.slice 2 (l.map encTTm))] (fun r=>r = .d (.bool (tmsOk l))):=by
 refine fnp_enter' _ Tryz.func27 rfl rfl (by kernel_rfl) ?_
 intro O w0 E0 β0
 have ll:(l.map encTTm).length=l.length:=List.length_map _
 refine dw_len (t:=0) rfl (fun hml=>?_)
 rw [ll] at hml
 have hml:l.length≤9223372036854775807:=Nat.le_trans hml (by decide)
 repeat' (first|refine z0 ?_|apply ds_nil|apply dw_seq2|refine z16 ?_|apply dw_block|apply thenD_n)
 refine ds_loop (ι:=Nat) (fun i=>⟨0,[(0,.d (.slice 2 (l.map encTTm))),(3,.d (.int .i64 i))],[]⟩)
  (fun i=>i≤l.length∧∀ j (hj:j < l.length),j < i→tmOk l[j]=true) (fun i=>l.length - i) 0 ⟨Nat.zero_le _,fun j _ h=>absurd h (Nat.not_lt_zero j)⟩ (ent_ren id ⟨rfl,rfl,trivial⟩ trivial rfl rfl rfl rfl rfl rfl) ?_
 rintro i ⟨hi,hk⟩
 dsimp only at hi hk ⊢
 by_cases hil:i < l.length
 ·have w1:=between_fn l[i].n (-9999999) 9999999
  have w2:=isToken_fn 2 l[i].var
  rw [← oneS_eq] at w2
  have hm:tmOk l[i]=if l[i].var=⟨#[]⟩ then decide (-9999999≤l[i].n) && decide (l[i].n≤9999999) else oneS 2 l[i].var && decide (l[i].n=0):=rfl
  cases hb:tmOk l[i] with
  | true =>
   have hnext:∀ j (hj:j < l.length),j < i + 1→tmOk l[j]=true:=fun j hj h=>by
    rcases Nat.lt_or_ge j i with h1|h1
    ·exact hk j hj h1
    ·have:j=i:=by omega
     subst this
     exact hb
   rw [hb] at hm
   by_cases hv:l[i].var=⟨#[]⟩
   ·rw [if_pos hv] at hm
    rw [← hm] at w1
    repeat' (first|refine z0 ?_|refine z12 ?_|apply ds_nil|apply dw_seq2|refine z16 ?_|apply dw_block|apply dw_skip|apply dw_exit|apply dw_ret|refine z18 ?_|refine z19 ?_|apply thenD_n|apply thenD_e|apply thenD_r|apply inB_n|apply inB_r|refine z17 ?_|refine z21 ?_ (hc:=by apply w1)|refine z21 ?_ (hc:=by apply w2)|refine z1 ?_|refine z3 ?_|(refine z23 ?_ ?_ <;> intro hg)|(apply dw_cond;exact rfl;all_goals intro hg)|((fail_if_success (apply ds_known;exact rfl));apply ds_guardP;exact rfl;exact rfl;exact rfl;all_goals intro hg))
    all_goals try (exfalso;first|omega|exact absurd hv (by assumption)|exact absurd (by assumption) hv)
    all_goals exact⟨i + 1,⟨by omega,hnext⟩,ent_ren id ⟨rfl,rfl,trivial⟩ trivial rfl rfl rfl rfl rfl rfl,by show l.length - (i + 1) < l.length - i;omega⟩
   ·rw [if_neg hv] at hm
    have h2:=(Bool.and_eq_true _ _).mp hm.symm
    have h0:=of_decide_eq_true h2.2
    rw [h2.1] at w2
    repeat' (first|refine z0 ?_|refine z12 ?_|apply ds_nil|apply dw_seq2|refine z16 ?_|apply dw_block|apply dw_skip|apply dw_exit|apply dw_ret|refine z18 ?_|refine z19 ?_|apply thenD_n|apply thenD_e|apply thenD_r|apply inB_n|apply inB_r|refine z17 ?_|refine z21 ?_ (hc:=by apply w1)|refine z21 ?_ (hc:=by apply w2)|refine z1 ?_|refine z3 ?_|(refine z23 ?_ ?_ <;> intro hg)|((fail_if_success (apply ds_known;exact rfl));apply ds_guardP;exact rfl;exact rfl;exact rfl;all_goals intro hg)|((fail_if_success (apply ds_known;exact rfl));apply ds_guardB;exact rfl;exact rfl;exact rfl;all_goals intro hg))
    all_goals try (exfalso;first|omega|exact absurd hv (by assumption)|exact absurd (by assumption) hv)
    all_goals exact⟨i + 1,⟨by omega,hnext⟩,ent_ren id ⟨rfl,rfl,trivial⟩ trivial rfl rfl rfl rfl rfl rfl,by show l.length - (i + 1) < l.length - i;omega⟩
  | false =>
   have hend:=tms_step hil hb
   rw [hb] at hm
   by_cases hv:l[i].var=⟨#[]⟩
   ·rw [if_pos hv] at hm
    rw [← hm] at w1
    repeat' (first|refine z0 ?_|refine z12 ?_|apply ds_nil|apply dw_seq2|refine z16 ?_|apply dw_block|apply dw_skip|apply dw_exit|apply dw_ret|refine z18 ?_|refine z19 ?_|apply thenD_n|apply thenD_e|apply thenD_r|apply inB_n|apply inB_r|refine z17 ?_|refine z21 ?_ (hc:=by apply w1)|refine z21 ?_ (hc:=by apply w2)|refine z1 ?_|refine z3 ?_|(refine z23 ?_ ?_ <;> intro hg)|(apply dw_cond;exact rfl;all_goals intro hg)|((fail_if_success (apply ds_known;exact rfl));apply ds_guardP;exact rfl;exact rfl;exact rfl;all_goals intro hg))
    all_goals try (exfalso;first|omega|exact absurd hv (by assumption)|exact absurd (by assumption) hv)
    all_goals exact ret_b rfl hend.symm
   ·rw [if_neg hv] at hm
    cases h2:oneS 2 l[i].var with
    | true =>
     rw [h2] at hm w2
     have h0:=of_decide_eq_false hm.symm
     repeat' (first|refine z0 ?_|refine z12 ?_|apply ds_nil|apply dw_seq2|refine z16 ?_|apply dw_block|apply dw_skip|apply dw_exit|apply dw_ret|refine z18 ?_|refine z19 ?_|apply thenD_n|apply thenD_e|apply thenD_r|apply inB_n|apply inB_r|refine z17 ?_|refine z21 ?_ (hc:=by apply w1)|refine z21 ?_ (hc:=by apply w2)|refine z1 ?_|refine z3 ?_|(refine z23 ?_ ?_ <;> intro hg)|((fail_if_success (apply ds_known;exact rfl));apply ds_guardP;exact rfl;exact rfl;exact rfl;all_goals intro hg)|((fail_if_success (apply ds_known;exact rfl));apply ds_guardB;exact rfl;exact rfl;exact rfl;all_goals intro hg))
     all_goals try (exfalso;first|omega|exact absurd hv (by assumption)|exact absurd (by assumption) hv)
     all_goals exact ret_b rfl hend.symm
    | false =>
     rw [h2] at w2
     repeat' (first|refine z0 ?_|refine z12 ?_|apply ds_nil|apply dw_seq2|refine z16 ?_|apply dw_block|apply dw_skip|apply dw_exit|apply dw_ret|refine z18 ?_|refine z19 ?_|apply thenD_n|apply thenD_e|apply thenD_r|apply inB_n|apply inB_r|refine z17 ?_|refine z21 ?_ (hc:=by apply w1)|refine z21 ?_ (hc:=by apply w2)|refine z1 ?_|refine z3 ?_|(refine z23 ?_ ?_ <;> intro hg)|((fail_if_success (apply ds_known;exact rfl));apply ds_guardP;exact rfl;exact rfl;exact rfl;all_goals intro hg)|((fail_if_success (apply ds_known;exact rfl));apply ds_guardB;exact rfl;exact rfl;exact rfl;all_goals intro hg))
     all_goals try (exfalso;first|omega|exact absurd hv (by assumption)|exact absurd (by assumption) hv)
     all_goals exact ret_b rfl hend.symm
 ·have hend:tmsOk l=true:=tms_end fun j hj=>hk j hj (by omega)
  repeat' (first|refine z0 ?_|refine z12 ?_|apply ds_nil|apply dw_seq2|refine z16 ?_|apply dw_block|apply dw_skip|apply dw_exit|apply dw_ret|refine z18 ?_|refine z19 ?_|apply thenD_n|apply thenD_e|apply thenD_r|apply inB_n|apply inB_r|refine z17 ?_|refine z1 ?_|refine z3 ?_|(refine z23 ?_ ?_ <;> intro hg)|((fail_if_success (apply ds_known;exact rfl));apply ds_guardP;exact rfl;exact rfl;exact rfl;all_goals intro hg))
  all_goals try (exfalso;omega)
  exact ret_b rfl hend.symm
abbrev truB (r:TRu):HB:=.blk 47 [.d (.int .i64 r.at_),.d (.str r.name),.d (.slice 2 (r.terms.map encTTm)),.d (.int .i64 r.fold),.d (.slice 5 (r.body.map encTLt))]
abbrev treeB (rs:List TRu):HB:=.blk 24 [.d (.slice 5 (rs.map encTRu))]
theorem next_all {α:Type} {p:α→Bool} {b:Bool} {l:List α} {i:Nat} (hk:∀ j (hj:j < l.length),j < i→p l[j]=b) (hi:i < l.length) (hb:p l[i]=b):∀ j (hj:j < l.length),j < i + 1→p l[j]=b:=fun j hj h=>by
 rcases Nat.lt_or_ge j i with h1|h1
 ·exact hk j hj h1
 ·have:j=i:=by omega
  subst this
  exact hb
theorem truOk_lit {r:TRu} {k:Nat} (hk:k < r.body.length) (h:tlOk r.body[k]=false):truOk r=false:=by
 rw [truOk_eq]
 cases hb:r.body.all tlOk with
 | false=>exact Bool.and_false _
 | true=>rw [List.all_eq_true.1 hb _ (List.getElem_mem hk)] at h;cases h
theorem truOk_all {r:TRu} (h0:headOk r=true) (h:∀ k (hk:k < r.body.length),tlOk r.body[k]=true):truOk r=true:=by
 rw [truOk_eq,h0,Bool.true_and]
 refine List.all_eq_true.2 fun x hx=>?_
 obtain⟨i,hi,rfl⟩:=List.mem_iff_getElem.1 hx
 exact h i hi
theorem headOk_true {r:TRu} (h:headOk r=true):nameS r.name=true∧tmsOk r.terms=true∧(0≤r.fold∧r.fold≤4)∧(r.fold=0∨(r.terms.length≠0∧r.body.length≠0)):=by
 unfold headOk at h
 simp only [Bool.and_eq_true,Bool.or_eq_true,decide_eq_true_eq] at h
 obtain⟨⟨⟨h1,h2⟩,h3⟩,h4⟩:=h
 exact⟨h1,h2,h3,h4.imp id fun⟨a,b⟩=>⟨fun e=>a (List.length_eq_zero_iff.1 e),fun e=>b (List.length_eq_zero_iff.1 e)⟩⟩
theorem headOk_false {r:TRu} (h:headOk r=false):nameS r.name=false∨tmsOk r.terms=false∨¬(0≤r.fold∧r.fold≤4)∨(r.fold≠0∧(r.terms.length=0∨r.body.length=0)):=by
 unfold headOk at h
 simp only [Bool.and_eq_false_iff,Bool.or_eq_false_iff,decide_eq_false_iff_not] at h
 rcases h with ((h|h)|h)|⟨h,h2⟩
 ·exact .inl h
 ·exact .inr (.inl h)
 ·exact .inr (.inr (.inl h))
 ·refine .inr (.inr (.inr ⟨h,?_⟩))
  rcases h2 with h2|h2
  ·exact .inl (by rw [Classical.not_not.1 h2];rfl)
  ·exact .inr (by rw [Classical.not_not.1 h2];rfl)
set_option maxHeartbeats 8000000 in
theorem checkTree_fn (rs:List TRu):Fn 9 [.agg [.d (.slice 5 (rs.map encTRu))]] (fun o=>o = .d (.int .i64 (checkT rs))):=by
 refine fnp_enter' _ Tryz.func9 rfl rfl (by kernel_rfl) ?_
 intro O w0 E0 β0
 have lr:(rs.map encTRu).length=rs.length:=List.length_map _
 by_cases h12:12 < rs.length
 ·have he:=checkT_2 (rs:=rs) (.inl h12)
  repeat' (first|refine z0 ?_|apply ds_nil|apply dw_seq2|refine z16 ?_|apply dw_block|apply dw_skip|apply dw_ret|apply thenD_n|apply thenD_r|refine z1 ?_|(refine z23 ?_ ?_ <;> intro hg)|fail)
  all_goals try (exfalso;omega)
  exact ret_i rfl he.symm
 repeat' (first|refine z0 ?_|apply ds_nil|apply dw_seq2|refine z16 ?_|apply dw_block|apply dw_skip|apply dw_ret|apply thenD_n|apply thenD_r|refine z1 ?_|(refine z23 ?_ ?_ <;> intro hg)|fail)
 all_goals try (exfalso;omega)
 refine ds_loop (ι:=Nat) (fun i=>⟨1,[(1,.loc 0 0),(3,.d (.int .i64 i))],[(0,treeB rs)]⟩)
  (fun i=>i≤rs.length∧∀ j (hj:j < rs.length),j < i→muchT rs[j]=false) (fun i=>rs.length - i) 0 ⟨Nat.zero_le _,fun j _ h=>absurd h (Nat.not_lt_zero j)⟩ (ent_ren id ⟨rfl,rfl,trivial⟩ ⟨rfl,trivial⟩ rfl rfl rfl rfl rfl rfl) ?_
 rintro i ⟨hi,hk⟩
 dsimp only at hi hk ⊢
 by_cases hil:i < rs.length
 ·have lt:(rs[i].terms.map encTTm).length=rs[i].terms.length:=List.length_map _
  have lb:(rs[i].body.map encTLt).length=rs[i].body.length:=List.length_map _
  by_cases h3:3 < rs[i].terms.length
  ·have he:=checkT_2 (rs:=rs) (.inr ⟨i,hil,muchT_1 (.inl h3)⟩)
   repeat' (first|refine z0 ?_|refine z12 ?_|apply ds_nil|apply dw_seq2|refine z16 ?_|apply dw_block|apply dw_skip|apply dw_exit|apply dw_ret|refine z18 ?_|apply thenD_n|apply thenD_e|apply thenD_r|apply inB_r|refine z17 ?_|refine z1 ?_|refine z3 ?_|(refine z23 ?_ ?_ <;> intro hg)|((fail_if_success (apply ds_known;exact rfl));apply ds_guardP;exact rfl;exact rfl;exact rfl;all_goals intro hg))
   all_goals try (exfalso;omega)
   all_goals exact ret_i rfl he.symm
  by_cases h4:4 < rs[i].body.length
  ·have he:=checkT_2 (rs:=rs) (.inr ⟨i,hil,muchT_1 (.inr (.inl h4))⟩)
   repeat' (first|refine z0 ?_|refine z12 ?_|apply ds_nil|apply dw_seq2|refine z16 ?_|apply dw_block|apply dw_skip|apply dw_exit|apply dw_ret|refine z18 ?_|apply thenD_n|apply thenD_e|apply thenD_r|apply inB_r|refine z17 ?_|refine z1 ?_|refine z3 ?_|(refine z23 ?_ ?_ <;> intro hg)|((fail_if_success (apply ds_known;exact rfl));apply ds_guardP;exact rfl;exact rfl;exact rfl;all_goals intro hg))
   all_goals try (exfalso;omega)
   all_goals exact ret_i rfl he.symm
  repeat' (first|refine z0 ?_|refine z12 ?_|apply ds_nil|apply dw_seq2|refine z16 ?_|apply dw_block|apply dw_skip|apply dw_exit|apply dw_ret|refine z18 ?_|apply thenD_n|apply thenD_e|apply thenD_r|apply inB_r|refine z17 ?_|refine z1 ?_|refine z3 ?_|(refine z23 ?_ ?_ <;> intro hg)|((fail_if_success (apply ds_known;exact rfl));apply ds_guardP;exact rfl;exact rfl;exact rfl;all_goals intro hg))
  all_goals try (exfalso;omega)
  refine ds_loop (ι:=Nat) (fun k=>⟨2,[(1,.loc 0 0),(3,.d (.int .i64 i)),(4,.loc 1 0),(5,.d (.int .i64 k))],[(0,treeB rs),(1,truB rs[i])]⟩)
   (fun k=>k≤rs[i].body.length∧∀ j (hj:j < rs[i].body.length),j < k→decide (3 < rs[i].body[j].terms.length)=false) (fun k=>rs[i].body.length - k) 0 ⟨Nat.zero_le _,fun j _ h=>absurd h (Nat.not_lt_zero j)⟩ (ent_ren id ⟨rfl,rfl,rfl,rfl,trivial⟩ ⟨rfl,rfl,trivial⟩ rfl rfl rfl rfl rfl rfl) ?_
  rintro k ⟨hkl,hkk⟩
  dsimp only at hkl hkk ⊢
  by_cases hkb:k < rs[i].body.length
  ·have lt2:(rs[i].body[k].terms.map encTTm).length=rs[i].body[k].terms.length:=List.length_map _
   by_cases h5:3 < rs[i].body[k].terms.length
   ·have he:=checkT_2 (rs:=rs) (.inr ⟨i,hil,muchT_1 (.inr (.inr ⟨k,hkb,h5⟩))⟩)
    repeat' (first|refine z0 ?_|apply ds_nil|apply dw_seq2|refine z16 ?_|apply dw_block|apply dw_skip|apply dw_exit|apply dw_ret|apply thenD_n|apply thenD_e|apply thenD_r|apply inB_n|apply inB_r|refine z17 ?_|(refine z23 ?_ ?_ <;> intro hg)|fail)
    all_goals try (exfalso;omega)
    all_goals exact ret_i rfl he.symm
   ·have hn:=next_all (p:=fun x:TLt=>decide (3 < x.terms.length)) hkk hkb (decide_eq_false h5)
    repeat' (first|refine z0 ?_|apply ds_nil|apply dw_seq2|refine z16 ?_|apply dw_block|apply dw_skip|apply dw_exit|apply dw_ret|apply thenD_n|apply thenD_e|apply thenD_r|apply inB_n|apply inB_r|refine z17 ?_|(refine z23 ?_ ?_ <;> intro hg)|fail)
    all_goals try (exfalso;omega)
    exact⟨k + 1,⟨by omega,hn⟩,ent_ren id ⟨rfl,rfl,rfl,rfl,trivial⟩ ⟨rfl,rfl,trivial⟩ rfl rfl rfl rfl rfl rfl,by show rs[i].body.length - (k + 1) < rs[i].body.length - k;omega⟩
  ·have hn:=next_all (p:=muchT) hk hil (muchT_0 h3 h4 fun j hj=>of_decide_eq_false (hkk j hj (by omega)))
   repeat' (first|refine z0 ?_|apply ds_nil|apply dw_seq2|refine z16 ?_|apply dw_block|apply dw_skip|apply dw_exit|apply dw_ret|apply thenD_n|apply thenD_e|apply thenD_r|apply inB_n|apply inB_r|refine z17 ?_|(refine z23 ?_ ?_ <;> intro hg)|fail)
   all_goals try (exfalso;omega)
   exact⟨i + 1,⟨by omega,hn⟩,ent_ren id ⟨rfl,rfl,trivial⟩ ⟨rfl,trivial⟩ rfl rfl rfl rfl rfl rfl,by show rs.length - (i + 1) < rs.length - i;omega⟩
 have hno:∀ j (hj:j < rs.length),muchT rs[j]=false:=fun j hj=>hk j hj (by omega)
 clear hk
 repeat' (first|refine z0 ?_|refine z12 ?_|apply ds_nil|apply dw_seq2|refine z16 ?_|apply dw_block|apply dw_skip|apply dw_exit|apply dw_ret|refine z18 ?_|apply thenD_n|apply thenD_e|apply thenD_r|apply inB_r|refine z17 ?_|refine z1 ?_|refine z3 ?_|(refine z23 ?_ ?_ <;> intro hg)|((fail_if_success (apply ds_known;exact rfl));apply ds_guardP;exact rfl;exact rfl;exact rfl;all_goals intro hg))
 all_goals try (exfalso;omega)
 refine ds_loop (ι:=Nat) (fun i=>⟨1,[(1,.loc 0 0),(6,.d (.int .i64 i))],[(0,treeB rs)]⟩)
  (fun i=>i≤rs.length∧∀ j (hj:j < rs.length),j < i→truOk rs[j]=true) (fun i=>rs.length - i) 0 ⟨Nat.zero_le _,fun j _ h=>absurd h (Nat.not_lt_zero j)⟩ (ent_ren id ⟨rfl,rfl,trivial⟩ ⟨rfl,trivial⟩ rfl rfl rfl rfl rfl rfl) ?_
 clear hi hil
 rintro i ⟨hi,hk⟩
 dsimp only at hi hk ⊢
 by_cases hil:i < rs.length
 ·have lt:(rs[i].terms.map encTTm).length=rs[i].terms.length:=List.length_map _
  have lb:(rs[i].body.map encTLt).length=rs[i].body.length:=List.length_map _
  have w1:=isName_fn rs[i].name
  rw [nameR_eq] at w1
  have w2:=areTerms_fn rs[i].terms
  have w3:=between_fn rs[i].fold 0 4
  repeat' ((fail_if_success (apply dw_stopR 18));(first|refine z0 ?_|apply ds_nil|apply dw_seq2|refine z16 ?_|apply dw_block|apply dw_skip|apply dw_exit|apply dw_ret|apply thenD_n|apply thenD_e|refine z17 ?_|refine z1 ?_|refine z3 ?_|(refine z23 ?_ ?_ <;> intro hg)|fail))
  all_goals try (exfalso;omega)
  refine dw_cut (ι:=Unit) (fun _=>⟨2,[(1,.loc 0 0),(6,.d (.int .i64 i)),(7,.loc 1 0)],[(0,treeB rs),(1,truB rs[i])]⟩) (fun _=>headOk rs[i]=true) ?_ ?_
  ·cases hh:headOk rs[i] with
   | false =>
    have he:=checkT_1 h12 hno hil (by rw [truOk_eq,hh];rfl)
    rcases headOk_false hh with h|h|h|⟨h,h'⟩
    ·rw [h] at w1
     repeat' (first|refine z0 ?_|refine z12 ?_|apply ds_nil|apply dw_seq2|refine z16 ?_|apply dw_ret|refine z18 ?_|apply thenD_n|apply thenD_r|apply inB_r|refine z21 ?_ (hc:=by apply w1)|fail)
     all_goals try (exfalso;omega)
     all_goals exact ret_i rfl he.symm
    ·rw [h] at w2
     cases hn:nameS rs[i].name
     all_goals
      rw [hn] at w1
      repeat' (first|refine z0 ?_|refine z12 ?_|apply ds_nil|apply dw_seq2|refine z16 ?_|apply dw_ret|refine z18 ?_|apply thenD_n|apply thenD_r|apply inB_r|refine z21 ?_ (hc:=by apply w1)|refine z21 ?_ (hc:=by apply w2)|fail)
     all_goals try (exfalso;omega)
     all_goals exact ret_i rfl he.symm
    ·rw [show (decide (0≤rs[i].fold) && decide (rs[i].fold≤4))=false by simp;omega] at w3
     cases hn:nameS rs[i].name <;> cases ht:tmsOk rs[i].terms
     all_goals
      rw [hn] at w1
      rw [ht] at w2
      repeat' (first|refine z0 ?_|refine z12 ?_|apply ds_nil|apply dw_seq2|refine z16 ?_|apply dw_ret|refine z18 ?_|apply thenD_n|apply thenD_r|apply inB_r|refine z21 ?_ (hc:=by apply w1)|refine z21 ?_ (hc:=by apply w2)|refine z21 ?_ (hc:=by apply w3)|fail)
     all_goals try (exfalso;omega)
     all_goals exact ret_i rfl he.symm
    ·cases hn:nameS rs[i].name <;> cases ht:tmsOk rs[i].terms <;> cases hf:(decide (0≤rs[i].fold) && decide (rs[i].fold≤4))
     all_goals
      rw [hn] at w1
      rw [ht] at w2
      rw [hf] at w3
      try simp only [Bool.and_eq_true,decide_eq_true_eq] at hf
      repeat' (first|refine z0 ?_|refine z12 ?_|apply ds_nil|apply dw_seq2|refine z16 ?_|apply dw_skip|apply dw_ret|refine z18 ?_|refine z19 ?_|apply thenD_n|apply thenD_r|apply inB_r|refine z21 ?_ (hc:=by apply w1)|refine z21 ?_ (hc:=by apply w2)|refine z21 ?_ (hc:=by apply w3)|(refine z23 ?_ ?_ <;> intro hg)|((fail_if_success (apply ds_known;exact rfl));apply ds_guardP;exact rfl;exact rfl;exact rfl;all_goals intro hg))
     all_goals try (exfalso;omega)
     all_goals exact ret_i rfl he.symm
   | true =>
    obtain⟨a1,a2,a3,a4⟩:=headOk_true hh
    rw [a1] at w1
    rw [a2] at w2
    rw [show (decide (0≤rs[i].fold) && decide (rs[i].fold≤4))=true by simp;omega] at w3
    repeat' (first|refine z0 ?_|refine z12 ?_|apply ds_nil|apply dw_seq2|refine z16 ?_|apply dw_skip|apply dw_ret|refine z18 ?_|refine z19 ?_|apply thenD_n|apply thenD_r|apply inB_r|refine z21 ?_ (hc:=by apply w1)|refine z21 ?_ (hc:=by apply w2)|refine z21 ?_ (hc:=by apply w3)|(refine z23 ?_ ?_ <;> intro hg)|((fail_if_success (apply ds_known;exact rfl));apply ds_guardP;exact rfl;exact rfl;exact rfl;all_goals intro hg))
    all_goals try (exfalso;omega)
    all_goals exact⟨(),rfl,ent_ren id ⟨rfl,rfl,rfl,trivial⟩ ⟨rfl,rfl,trivial⟩ rfl rfl rfl rfl rfl rfl⟩
  ·intro _ hh
   clear w1 w2 w3
   have hb4:rs[i].body.length≤4:=by
    have:=hno i hil
    unfold muchT at this
    simp only [Bool.or_eq_false_iff,decide_eq_false_iff_not] at this
    omega
   repeat' (first|refine z0 ?_|apply ds_nil|apply dw_seq2|refine z16 ?_|apply dw_block|apply thenD_n)
   refine ds_loop (ι:=Nat) (fun k=>⟨2,[(1,.loc 0 0),(6,.d (.int .i64 i)),(7,.loc 1 0),(8,.d (.int .i64 k))],[(0,treeB rs),(1,truB rs[i])]⟩)
    (fun k=>k≤rs[i].body.length∧∀ j (hj:j < rs[i].body.length),j < k→tlOk rs[i].body[j]=true) (fun k=>rs[i].body.length - k) 0 ⟨Nat.zero_le _,fun j _ h=>absurd h (Nat.not_lt_zero j)⟩ (ent_ren id ⟨rfl,rfl,rfl,rfl,trivial⟩ ⟨rfl,rfl,trivial⟩ rfl rfl rfl rfl rfl rfl) ?_
   rintro k ⟨hkl,hkk⟩
   dsimp only at hkl hkk ⊢
   by_cases hkb:k < rs[i].body.length
   ·have lt2:(rs[i].body[k].terms.map encTTm).length=rs[i].body[k].terms.length:=List.length_map _
    have v1:=areTerms_fn rs[i].body[k].terms
    have v2:=isName_fn rs[i].body[k].name
    have v3:=between_fn rs[i].body[k].op 1 4
    have v4:=between_fn rs[i].body[k].op 5 7
    rw [nameR_eq] at v2
    cases hb1:tmsOk rs[i].body[k].terms <;> cases hb2:nameS rs[i].body[k].name
    all_goals
     rw [hb1] at v1
     rw [hb2] at v2
     repeat' (first|refine z0 ?_|refine z12 ?_|apply ds_nil|apply dw_seq2|refine z16 ?_|apply dw_block|apply dw_skip|apply dw_exit|apply dw_ret|refine z18 ?_|refine z19 ?_|apply thenD_n|apply thenD_e|apply thenD_r|apply inB_n|apply inB_r|refine z17 ?_|refine z21 ?_ (hc:=by apply v1)|refine z21 ?_ (hc:=by apply v2)|refine z21 ?_ (hc:=by apply v3)|refine z21 ?_ (hc:=by apply v4)|refine z1 ?_|refine z3 ?_|(refine z23 ?_ ?_ <;> intro hg)|(apply dw_cond;exact rfl;all_goals intro hg)|((fail_if_success (apply ds_known;exact rfl));apply ds_guardP;exact rfl;exact rfl;exact rfl;all_goals intro hg)|((fail_if_success (apply ds_known;exact rfl));apply ds_guardB;exact rfl;exact rfl;exact rfl;all_goals intro hg))
    all_goals try (exfalso;omega)
    all_goals first
     | exact ret_i rfl (checkT_1 h12 hno hil (truOk_lit hkb (by unfold tlOk;first|(simp_all;done)|(simp_all;omega)))).symm
     | exact⟨k + 1,⟨by omega,next_all hkk hkb (by unfold tlOk;first|(simp_all;done)|(simp_all;omega))⟩,ent_ren id ⟨rfl,rfl,rfl,rfl,trivial⟩ ⟨rfl,rfl,trivial⟩ rfl rfl rfl rfl rfl rfl,by show rs[i].body.length - (k + 1) < rs[i].body.length - k;omega⟩
   ·have hn:=next_all (p:=truOk) hk hil (truOk_all hh fun j hj=>hkk j hj (by omega))
    repeat' (first|refine z0 ?_|apply ds_nil|apply dw_seq2|refine z16 ?_|apply dw_block|apply dw_skip|apply dw_exit|apply thenD_n|apply thenD_e|apply inB_n|refine z17 ?_|refine z1 ?_|refine z3 ?_|(refine z23 ?_ ?_ <;> intro hg)|fail)
    all_goals try (exfalso;omega)
    exact⟨i + 1,⟨by omega,hn⟩,ent_ren id ⟨rfl,rfl,trivial⟩ ⟨rfl,trivial⟩ rfl rfl rfl rfl rfl rfl,by show rs.length - (i + 1) < rs.length - i;omega⟩
 ·have he:=checkT_0 h12 hno fun j hj=>hk j hj (by omega)
  repeat' (first|refine z0 ?_|apply ds_nil|apply dw_seq2|refine z16 ?_|apply dw_block|apply dw_skip|apply dw_exit|apply dw_ret|apply thenD_n|apply thenD_e|refine z17 ?_|refine z1 ?_|refine z3 ?_|(refine z23 ?_ ?_ <;> intro hg)|fail)
  all_goals try (exfalso;omega)
  exact ret_i rfl he.symm
def sameTTm (a b:TTm):Bool:=decide (a.var=b.var) && decide (a.n=b.n)
def sameTLt (at_:Bool) (x y:TLt):Bool:=(!at_ || decide (x.at_=y.at_)) && (decide (x.kind=y.kind) && (decide (x.op=y.op) && (decide (x.name=y.name) && sameL sameTTm x.terms y.terms)))
def sameTRu (at_:Bool) (a b:TRu):Bool:=(!at_ || decide (a.at_=b.at_)) && (decide (a.name=b.name) && (decide (a.fold=b.fold) && (sameL sameTTm a.terms b.terms && sameL (sameTLt at_) a.body b.body)))
theorem ttm_not {x y:TTm} {b:Bool} (h:(!(decide (x.var=y.var) && (decide (x.n=y.n) && true))) = !b):sameTTm x y=b:=by
 unfold sameTTm
 rw [Bool.and_true] at h
 exact Bool.not_inj h
def headSame (at_:Bool) (a b:TRu):Bool:=(!at_ || decide (a.at_=b.at_)) && (decide (a.name=b.name) && (decide (a.fold=b.fold) && sameL sameTTm a.terms b.terms))
theorem sameTRu_eq (at_:Bool) (a b:TRu):sameTRu at_ a b=(headSame at_ a b && sameL (sameTLt at_) a.body b.body):=by
 unfold sameTRu headSame
 simp only [Bool.and_assoc]
set_option maxHeartbeats 8000000 in
theorem sameTTms_fn (l m:List (TTm)):Fn 39 [.d (.slice 2 (l.map encTTm)),.d (.slice 2 (m.map encTTm))] (fun r=>r = .d (.bool (sameL sameTTm l m))):=by
 refine fnp_enter' _ Tryz.func39 rfl rfl (by kernel_rfl) ?_
 intro O w0 E0 β0
 refine dw_len_map (t:=0) rfl fun hb=>?_
 repeat' (first|refine z0 ?_|apply ds_nil|apply dw_seq2|refine z16 ?_|apply thenD_n)
 refine dw_condP rfl (fun h=>?_) (fun h=>?_)
 ·have hne:l.length≠m.length:=by rw [List.length_map,List.length_map] at h;omega
  repeat' (first|refine z0 ?_|apply ds_nil|apply dw_seq2|refine z16 ?_|apply dw_ret|apply thenD_n|apply thenD_r)
  exact ret_b rfl (sameL_len _ _ _ hne).symm
 ·have hlen:l.length=m.length:=by rw [List.length_map,List.length_map] at h;omega
  repeat' (first|refine z0 ?_|apply ds_nil|apply dw_seq2|refine z16 ?_|apply dw_block|apply dw_skip|apply thenD_n)
  refine ds_loop (ι:=Nat) (fun i=>⟨0,[(0,.d (.slice 2 (l.map encTTm))),(1,.d (.slice 2 (m.map encTTm))),(5,.d (.int .i64 i))],[]⟩)
   (fun i=>i≤l.length∧sameL sameTTm l m=sameL sameTTm (l.drop i) (m.drop i)) (fun i=>l.length - i) 0 ⟨Nat.zero_le _,rfl⟩
   (ent_ren id ⟨rfl,rfl,rfl,trivial⟩ trivial rfl rfl rfl rfl rfl rfl) ?_
  rintro i ⟨h1,h2⟩
  repeat' (first|refine z0 ?_|apply ds_nil|apply dw_seq2|refine z16 ?_|apply thenD_n)
  refine dw_condP rfl (fun h=>?_) (fun h=>?_)
  ·have hi:i < l.length:=by rw [List.length_map] at h;omega
   have hm:i < m.length:=by omega
   have hd:=sameL_drop sameTTm l m i hi hm
   repeat' (first|refine z5 ?_|refine z10 ?_|apply dw_seq2|refine z20 ?_|apply dw_block|apply dw_skip|apply thenD_n)
   refine dw_cond rfl (fun hb=>?_) (fun hb=>?_)
   ·have hp:sameTTm l[i] m[i]=false:=by exact ttm_not hb
    repeat' (first|refine z0 ?_|apply ds_nil|apply dw_seq2|refine z16 ?_|apply dw_ret|apply thenD_n|apply thenD_r|apply inB_r)
    exact ret_b rfl (by rw [h2,hd,hp];rfl)
   ·have hp:sameTTm l[i] m[i]=true:=by exact ttm_not hb
    repeat' (first|refine z0 ?_|apply ds_nil|refine z16 ?_|apply dw_skip|apply thenD_n|apply inB_n)
    exact⟨i + 1,⟨hi,by rw [h2,hd,hp];rfl⟩,ent_ren id ⟨rfl,rfl,rfl,trivial⟩ trivial rfl rfl rfl rfl rfl rfl,by omega⟩
  ·repeat' (first|refine z0 ?_|apply ds_nil|apply dw_seq2|refine z16 ?_|apply dw_exit|apply dw_ret|apply thenD_n|apply thenD_e|refine z17 ?_|fail)
   exact ret_b rfl (by rw [h2,sameL_end _ _ _ _ (by rw [List.length_map] at h;omega) (by rw [List.length_map] at h;omega)])
set_option maxHeartbeats 8000000 in
theorem sameTree_fn (rs us:List TRu) (atb:Bool):Fn 15 [.agg [.d (.slice 5 (rs.map encTRu))],.agg [.d (.slice 5 (us.map encTRu))],.d (.bool atb)] (fun o=>o = .d (.bool (sameL (sameTRu atb) rs us))):=by
 refine fnp_enter' _ Tryz.func15 rfl rfl (by kernel_rfl) ?_
 intro O w0 E0 β0
 have lr:(rs.map encTRu).length=rs.length:=List.length_map _
 have lu:(us.map encTRu).length=us.length:=List.length_map _
 refine dw_lenA 0 0 rfl rfl (fun hml=>?_)
 rw [lr] at hml
 have hml:rs.length≤9223372036854775807:=hml
 by_cases hlen:rs.length=us.length
 ·repeat' (first|refine z0 ?_|apply ds_nil|apply dw_seq2|refine z16 ?_|apply dw_block|apply dw_skip|apply dw_ret|apply thenD_n|apply thenD_r|refine z1 ?_|(refine z23 ?_ ?_ <;> intro hg)|fail)
  all_goals try (exfalso;omega)
  refine ds_loop (ι:=Nat) (fun i=>⟨2,[(2,.d (.bool atb)),(3,.loc 0 0),(4,.loc 1 0),(7,.d (.int .i64 i))],[(0,treeB rs),(1,treeB us)]⟩)
   (fun i=>i≤rs.length∧sameL (sameTRu atb) rs us=sameL (sameTRu atb) (rs.drop i) (us.drop i)) (fun i=>rs.length - i) 0 ⟨Nat.zero_le _,rfl⟩ (ent_ren id ⟨rfl,rfl,rfl,rfl,trivial⟩ ⟨rfl,rfl,trivial⟩ rfl rfl rfl rfl rfl rfl) ?_
  rintro i ⟨hi,hs⟩
  dsimp only at hi hs ⊢
  by_cases hil:i < rs.length
  ·have hiu:i < us.length:=by omega
   rw [sameL_drop _ rs us i hil hiu] at hs
   have w1:=sameTTms_fn rs[i].terms us[i].terms
   have lb:(rs[i].body.map encTLt).length=rs[i].body.length:=List.length_map _
   have lc:(us[i].body.map encTLt).length=us[i].body.length:=List.length_map _
   repeat' ((fail_if_success (apply dw_stopR 7));(first|refine z0 ?_|apply ds_nil|refine z5 ?_|refine z6 ?_|refine z7 ?_|refine z11 ?_|apply dw_seq2|refine z16 ?_|refine z20 ?_|apply dw_block|apply dw_skip|apply dw_exit|apply thenD_n|apply thenD_e|refine z17 ?_|(refine z23 ?_ ?_ <;> intro hg)|fail))
   all_goals try (exfalso;omega)
   refine dw_cut (ι:=Unit) (fun _=>⟨4,[(2,.d (.bool atb)),(3,.loc 0 0),(4,.loc 1 0),(7,.d (.int .i64 i)),(8,.loc 2 0),(9,.loc 3 0)],[(0,treeB rs),(1,treeB us),(2,truB rs[i]),(3,truB us[i])]⟩) (fun _=>headSame atb rs[i] us[i]=true∧rs[i].body.length=us[i].body.length) ?_ ?_
   ·have hret:headSame atb rs[i] us[i]=false∨rs[i].body.length≠us[i].body.length→sameL (sameTRu atb) rs us=false:=by
     intro h
     rw [hs,sameTRu_eq]
     rcases h with h|h
     ·rw [h];rfl
     ·rw [sameL_len _ _ _ h,Bool.and_false];rfl
    cases atb <;> cases hb1:sameL sameTTm rs[i].terms us[i].terms
    all_goals
     rw [hb1] at w1
     repeat' (first|refine z0 ?_|refine z12 ?_|apply ds_nil|apply dw_seq2|refine z16 ?_|apply dw_skip|apply dw_ret|refine z18 ?_|apply thenD_n|apply thenD_r|apply inB_r|refine z21 ?_ (hc:=by apply w1)|(refine z23 ?_ ?_ <;> intro hg)|((fail_if_success (apply ds_known;exact rfl));apply ds_guardP;exact rfl;exact rfl;exact rfl;all_goals intro hg))
    all_goals try (exfalso;omega)
    all_goals first
     | exact ret_b rfl (hret (.inl (by unfold headSame;first|(simp_all;done)|(simp_all;omega)))).symm
     | exact ret_b rfl (hret (.inr (by omega))).symm
     | exact⟨(),⟨by unfold headSame;first|(simp_all;done)|(simp_all;omega),by omega⟩,ent_ren (fun x=>match x with|0=>0|1=>1|2=>12|_=>13) ⟨rfl,rfl,rfl,rfl,rfl,rfl,trivial⟩ ⟨rfl,rfl,rfl,rfl,trivial⟩ rfl rfl rfl rfl rfl rfl⟩
   ·rintro _ ⟨hh,hbl⟩
    rw [sameTRu_eq,hh,Bool.true_and] at hs
    clear w1
    repeat' (first|refine z0 ?_|apply ds_nil|apply dw_seq2|refine z16 ?_|apply dw_block|apply thenD_n)
    refine ds_loop (ι:=Nat) (fun k=>⟨4,[(2,.d (.bool atb)),(3,.loc 0 0),(4,.loc 1 0),(7,.d (.int .i64 i)),(8,.loc 2 0),(9,.loc 3 0),(10,.d (.int .i64 k))],[(0,treeB rs),(1,treeB us),(2,truB rs[i]),(3,truB us[i])]⟩)
     (fun k=>k≤rs[i].body.length∧sameL (sameTLt atb) rs[i].body us[i].body=sameL (sameTLt atb) (rs[i].body.drop k) (us[i].body.drop k)) (fun k=>rs[i].body.length - k) 0 ⟨Nat.zero_le _,rfl⟩ (ent_ren id ⟨rfl,rfl,rfl,rfl,rfl,rfl,rfl,trivial⟩ ⟨rfl,rfl,rfl,rfl,trivial⟩ rfl rfl rfl rfl rfl rfl) ?_
    rintro k ⟨hk,hks⟩
    dsimp only at hk hks ⊢
    by_cases hkb:k < rs[i].body.length
    ·have hkc:k < us[i].body.length:=by omega
     rw [sameL_drop _ rs[i].body us[i].body k hkb hkc] at hks
     have w1:=sameTTms_fn rs[i].body[k].terms us[i].body[k].terms
     have hret:sameTLt atb rs[i].body[k] us[i].body[k]=false→sameL (sameTRu atb) rs us=false:=by
      intro h
      rw [hs,hks,h];rfl
     have hnext:sameTLt atb rs[i].body[k] us[i].body[k]=true→sameL (sameTLt atb) rs[i].body us[i].body=sameL (sameTLt atb) (rs[i].body.drop (k + 1)) (us[i].body.drop (k + 1)):=by
      intro h
      rw [hks,h];rfl
     repeat' (first|refine z0 ?_|apply ds_nil|apply dw_seq2|refine z16 ?_|apply thenD_n)
     refine dw_len (t:=78) rfl (fun hm2=>?_)
     have hm2:rs[i].body.length≤9223372036854775807:=by rw [lb] at hm2;exact hm2
     repeat' ((fail_if_success (apply dw_stopR 13));(first|refine z0 ?_|refine z12 ?_|apply ds_nil|refine z5 ?_|refine z6 ?_|refine z7 ?_|refine z11 ?_|apply dw_seq2|refine z16 ?_|refine z20 ?_|apply dw_block|apply dw_skip|apply dw_exit|refine z18 ?_|apply thenD_n|apply thenD_e|apply inB_n|refine z17 ?_|(refine z23 ?_ ?_ <;> intro hg)|((fail_if_success (apply ds_known;exact rfl));apply ds_guardP;exact rfl;exact rfl;exact rfl;all_goals intro hg)|((fail_if_success (apply ds_known;exact rfl));apply ds_guardB;exact rfl;exact rfl;exact rfl;all_goals intro hg)))
     all_goals try (exfalso;omega)
     all_goals (cases atb <;> cases hb1:sameL sameTTm rs[i].body[k].terms us[i].body[k].terms)
     all_goals
      rw [hb1] at w1
      repeat' (first|refine z0 ?_|apply ds_nil|apply dw_seq2|refine z16 ?_|apply dw_skip|apply dw_ret|refine z18 ?_|refine z19 ?_|apply thenD_n|apply thenD_r|apply inB_n|apply inB_r|refine z21 ?_ (hc:=by apply w1)|fail)
     all_goals try (exfalso;omega)
     all_goals first
      | exact ret_b rfl (hret (by unfold sameTLt;first|(simp_all;done)|(simp_all;omega))).symm
      | exact⟨k + 1,⟨by omega,hnext (by unfold sameTLt;first|(simp_all;done)|(simp_all;omega))⟩,ent_ren id ⟨rfl,rfl,rfl,rfl,rfl,rfl,rfl,trivial⟩ ⟨rfl,rfl,rfl,rfl,trivial⟩ rfl rfl rfl rfl rfl rfl,by show rs[i].body.length - (k + 1) < rs[i].body.length - k;omega⟩
    ·rw [sameL_end _ _ _ _ (by omega) (by omega)] at hks
     rw [hks,Bool.true_and] at hs
     repeat' (first|refine z0 ?_|refine z12 ?_|apply ds_nil|refine z5 ?_|refine z6 ?_|refine z7 ?_|refine z11 ?_|apply dw_seq2|refine z16 ?_|refine z20 ?_|apply dw_block|apply dw_skip|apply dw_exit|apply dw_ret|refine z18 ?_|apply thenD_n|apply thenD_e|apply thenD_r|apply inB_n|apply inB_r|refine z17 ?_|(refine z23 ?_ ?_ <;> intro hg)|((fail_if_success (apply ds_known;exact rfl));apply ds_guardP;exact rfl;exact rfl;exact rfl;all_goals intro hg)|((fail_if_success (apply ds_known;exact rfl));apply ds_guardB;exact rfl;exact rfl;exact rfl;all_goals intro hg))
     all_goals try (exfalso;omega)
     exact⟨i + 1,⟨by omega,hs⟩,ent_ren id ⟨rfl,rfl,rfl,rfl,trivial⟩ ⟨rfl,rfl,trivial⟩ rfl rfl rfl rfl rfl rfl,by show rs.length - (i + 1) < rs.length - i;omega⟩
  ·repeat' (first|refine z0 ?_|refine z12 ?_|apply ds_nil|refine z5 ?_|refine z6 ?_|refine z7 ?_|refine z11 ?_|apply dw_seq2|refine z16 ?_|refine z20 ?_|apply dw_block|apply dw_skip|apply dw_exit|apply dw_ret|refine z18 ?_|apply thenD_n|apply thenD_e|apply thenD_r|apply inB_r|refine z17 ?_|(refine z23 ?_ ?_ <;> intro hg)|((fail_if_success (apply ds_known;exact rfl));apply ds_guardP;exact rfl;exact rfl;exact rfl;all_goals intro hg)|((fail_if_success (apply ds_known;exact rfl));apply ds_guardB;exact rfl;exact rfl;exact rfl;all_goals intro hg))
   all_goals try (exfalso;omega)
   exact ret_b rfl (by rw [hs,sameL_end _ _ _ _ (by omega) (by omega)])
 ·repeat' (first|refine z0 ?_|apply ds_nil|apply dw_seq2|refine z16 ?_|apply dw_block|apply dw_skip|apply dw_ret|apply thenD_n|apply thenD_r|refine z1 ?_|(refine z23 ?_ ?_ <;> intro hg)|fail)
  all_goals try (exfalso;omega)
  exact ret_b rfl (sameL_len _ _ _ hlen).symm
set_option maxHeartbeats 8000000 in
theorem eqTerms_fn (l m:List TTm):Fn 82 [.d (.slice 2 (l.map encTTm)),.d (.slice 2 (m.map encTTm))] (fun r=>r = .d (.bool (sameL sameTTm l m))):=by
 refine fnp_enter' _ Tryz.func82 rfl rfl (by kernel_rfl) ?_
 intro O w0 E0 β0
 refine dw_len_map (t:=0) rfl fun hb=>?_
 refine dw_len_map (t:=1) rfl fun hb2=>?_
 have ll:(l.map encTTm).length=l.length:=List.length_map _
 have lm:(m.map encTTm).length=m.length:=List.length_map _
 by_cases hl:l.length=m.length
 ·repeat' (first|refine z0 ?_|apply ds_nil|apply dw_seq2|refine z16 ?_|apply dw_block|apply dw_skip|apply dw_ret|apply thenD_n|apply thenD_r|(refine z23 ?_ ?_ <;> intro hg)|fail)
  all_goals try (exfalso;omega)
  refine ds_loop (ι:=Nat) (fun i=>⟨0,[(0,.d (.slice 2 (l.map encTTm))),(1,.d (.slice 2 (m.map encTTm))),(12,.d (.int .i64 l.length)),(13,.d (.int .i64 i))],[]⟩)
   (fun i=>i≤l.length∧sameL sameTTm l m=sameL sameTTm (l.drop i) (m.drop i)) (fun i=>l.length - i) 0 ⟨Nat.zero_le _,rfl⟩ (ent_ren id ⟨rfl,rfl,by rw [← ll];rfl,rfl,trivial⟩ trivial rfl rfl rfl rfl rfl rfl) ?_
  rintro i ⟨g1,g2⟩
  dsimp only at g1 g2 ⊢
  by_cases hi:i < l.length
  ·have hm:i < m.length:=by omega
   rw [sameL_drop sameTTm l m i hi hm] at g2
   repeat' (first|refine z0 ?_|apply ds_nil|apply dw_seq2|refine z16 ?_|apply thenD_n)
   refine dw_condP rfl (fun h=>?_) (fun h=>?_)
   rotate_left
   ·exact absurd h (by omega)
   repeat' (first|refine z0 ?_|apply ds_nil|refine z5 ?_|refine z10 ?_|apply dw_seq2|refine z16 ?_|refine z20 ?_|apply dw_block|apply dw_skip|apply thenD_n)
   refine dw_cond rfl (fun hb=>?_) (fun hb=>?_)
   ·have hp:sameTTm l[i] m[i]=false:=ttm_not hb
    repeat' (first|refine z0 ?_|apply ds_nil|apply dw_seq2|refine z16 ?_|apply dw_ret|apply thenD_n|apply thenD_r|apply inB_r)
    exact ret_b rfl (by rw [g2,hp];rfl)
   ·have hp:sameTTm l[i] m[i]=true:=ttm_not hb
    repeat' (first|refine z0 ?_|apply ds_nil|refine z16 ?_|apply dw_skip|apply thenD_n|apply inB_n)
    all_goals try (exfalso;omega)
    exact⟨i + 1,⟨hi,by rw [g2,hp];rfl⟩,ent_ren id ⟨rfl,rfl,rfl,rfl,trivial⟩ trivial rfl rfl rfl rfl rfl rfl,by omega⟩
  ·rw [sameL_end sameTTm l m i (by omega) (by omega)] at g2
   repeat' (first|refine z0 ?_|apply ds_nil|refine z5 ?_|refine z10 ?_|apply dw_seq2|refine z16 ?_|refine z20 ?_|apply dw_block|apply dw_skip|apply dw_exit|apply dw_ret|apply thenD_n|apply thenD_e|apply thenD_r|apply inB_n|apply inB_r|refine z17 ?_|(refine z23 ?_ ?_ <;> intro hg)|(apply dw_cond;exact rfl;all_goals intro hg))
   all_goals try (exfalso;omega)
   exact⟨.inl rfl,_,rfl,rfl,by rw [g2];rfl⟩
 ·rw [sameL_len sameTTm l m hl]
  repeat' (first|refine z0 ?_|apply ds_nil|apply dw_seq2|refine z16 ?_|apply dw_block|apply dw_skip|apply dw_ret|apply thenD_n|apply thenD_r|(refine z23 ?_ ?_ <;> intro hg)|fail)
  all_goals try (exfalso;omega)
  exact⟨.inl rfl,_,rfl,rfl,rfl⟩
def sameLtP (x y:TLt):Bool:=decide (x.kind=y.kind) && (decide (x.op=y.op) && (decide (x.name=y.name) && sameL sameTTm x.terms y.terms))
def sameRuP (a b:TRu):Bool:=decide (a.name=b.name) && (sameL sameTTm a.terms b.terms && (decide (a.fold=b.fold) && sameL sameLtP a.body b.body))
set_option maxHeartbeats 8000000 in
theorem sameLit_fn (x y:TLt):Fn 84 ([elTLt x,elTLt y]++[]) (fun r=>r = .d (.bool (sameLtP x y))):=by
 refine fnp_enter' _ Tryz.func84 rfl rfl (by kernel_rfl) ?_
 intro O w0 E0 β0
 have w1:=eqTerms_fn x.terms y.terms
 unfold sameLtP
 cases hb1:sameL sameTTm x.terms y.terms
 all_goals
  rw [hb1] at w1
  repeat' (first|refine z0 ?_|refine z12 ?_|apply ds_nil|apply dw_seq2|refine z16 ?_|apply dw_ret|apply thenD_n|refine z21 ?_ (hc:=by apply w1)|refine z1 ?_|((fail_if_success (apply ds_known;exact rfl));apply ds_guardP;exact rfl;exact rfl;exact rfl;all_goals intro hg))
 all_goals try (exfalso;omega)
 all_goals exact ret_b rfl (by simp_all)
set_option maxHeartbeats 8000000 in
theorem eqLits_fn {f:FuncId} (l m:List (TLt)) (hp:∀ a b,Fn f ([elTLt a,elTLt b]++[]) (fun r=>r = .d (.bool (sameLtP a b)))):Fn 83 [.d (.slice 5 (l.map encTLt)),.d (.slice 5 (m.map encTLt)),.fn f []] (fun r=>r = .d (.bool (sameL sameLtP l m))):=by
 refine fnp_enter' _ Tryz.func83 rfl rfl (by kernel_rfl) ?_
 intro O w0 E0 β0
 refine dw_len_map (t:=0) rfl fun hb=>?_
 refine dw_len_map (t:=1) rfl fun hb2=>?_
 have ll:(l.map encTLt).length=l.length:=List.length_map _
 have lm:(m.map encTLt).length=m.length:=List.length_map _
 by_cases hl:l.length=m.length
 ·repeat' (first|refine z0 ?_|apply ds_nil|apply dw_seq2|refine z16 ?_|apply dw_block|apply dw_skip|apply dw_ret|apply thenD_n|apply thenD_r|(refine z23 ?_ ?_ <;> intro hg)|fail)
  all_goals try (exfalso;omega)
  refine ds_loop (ι:=Nat) (fun i=>⟨0,[(1,.d (.slice 5 (m.map encTLt))),(2,.fn f []),(15,.d (.slice 5 (l.map encTLt))),(16,.d (.int .i64 l.length)),(17,.d (.int .i64 i))],[]⟩)
   (fun i=>i≤l.length∧sameL (sameLtP) l m=sameL (sameLtP) (l.drop i) (m.drop i)) (fun i=>l.length - i) 0 ⟨Nat.zero_le _,rfl⟩ (ent_ren id ⟨rfl,rfl,rfl,by rw [← ll];rfl,rfl,trivial⟩ trivial rfl rfl rfl rfl rfl rfl) ?_
  rintro i ⟨g1,g2⟩
  dsimp only at g1 g2 ⊢
  by_cases hi:i < l.length
  ·have w:=hp l[i] (m[i]'(by omega))
   rw [sameL_drop (sameLtP) l m i hi (by omega)] at g2
   cases hs:sameLtP l[i] (m[i]'(by omega)) with
   | true =>
    rw [hs] at w
    rw [hs,Bool.true_and] at g2
    repeat' (first|refine z0 ?_|apply ds_nil|apply dw_seq2|refine z16 ?_|apply dw_block|apply dw_skip|apply dw_exit|apply dw_ret|refine z19 ?_|apply thenD_n|apply thenD_e|apply inB_n|refine z17 ?_|(apply ds_callV;exact rfl;exact rfl;exact rfl;exact rfl;apply w;exact rfl;(exact rfl);exact rfl;rintro _ rfl)|refine z1 ?_|refine z3 ?_|(refine z23 ?_ ?_ <;> intro hg)|fail)
    all_goals try (exfalso;omega)
    exact⟨i + 1,⟨hi,g2⟩,ent_ren id ⟨rfl,rfl,rfl,rfl,rfl,trivial⟩ trivial rfl rfl rfl rfl rfl rfl,by omega⟩
   | false =>
    rw [hs] at w
    rw [hs,Bool.false_and] at g2
    repeat' (first|refine z0 ?_|apply ds_nil|apply dw_seq2|refine z16 ?_|apply dw_block|apply dw_skip|apply dw_exit|apply dw_ret|refine z18 ?_|apply thenD_n|apply thenD_e|apply thenD_r|apply inB_r|refine z17 ?_|(apply ds_callV;exact rfl;exact rfl;exact rfl;exact rfl;apply w;exact rfl;(exact rfl);exact rfl;rintro _ rfl)|refine z1 ?_|refine z3 ?_|(refine z23 ?_ ?_ <;> intro hg)|fail)
    all_goals try (exfalso;omega)
    exact⟨.inl rfl,_,rfl,rfl,by rw [g2];rfl⟩
  ·rw [sameL_end (sameLtP) l m i (by omega) (by omega)] at g2
   repeat' (first|refine z0 ?_|apply ds_nil|apply dw_seq2|refine z16 ?_|apply dw_block|apply dw_skip|apply dw_exit|apply dw_ret|apply thenD_n|apply thenD_e|refine z17 ?_|refine z1 ?_|refine z3 ?_|(refine z23 ?_ ?_ <;> intro hg)|fail)
   all_goals try (exfalso;omega)
   exact⟨.inl rfl,_,rfl,rfl,by rw [g2];rfl⟩
 ·rw [sameL_len (sameLtP) l m hl]
  repeat' (first|refine z0 ?_|apply ds_nil|apply dw_seq2|refine z16 ?_|apply dw_block|apply dw_skip|apply dw_ret|apply thenD_n|apply thenD_r|(refine z23 ?_ ?_ <;> intro hg)|fail)
  all_goals try (exfalso;omega)
  exact⟨.inl rfl,_,rfl,rfl,rfl⟩
set_option maxHeartbeats 8000000 in
theorem sameRule_fn (a b:TRu):Fn 49 ([elTRu a,elTRu b]++[]) (fun r=>r = .d (.bool (sameRuP a b))):=by
 refine fnp_enter' _ Tryz.func49 rfl rfl (by kernel_rfl) ?_
 intro O w0 E0 β0
 have w1:=eqTerms_fn a.terms b.terms
 have w2:=eqLits_fn a.body b.body sameLit_fn
 unfold sameRuP
 cases hb1:sameL sameTTm a.terms b.terms <;> cases hb2:sameL sameLtP a.body b.body
 all_goals
  rw [hb1] at w1
  rw [hb2] at w2
  repeat' (first|refine z0 ?_|refine z12 ?_|apply ds_nil|apply dw_seq2|refine z16 ?_|apply dw_ret|apply thenD_n|refine z21 ?_ (hc:=by apply w1)|refine z21 ?_ (hc:=by apply w2)|refine z1 ?_|((fail_if_success (apply ds_known;exact rfl));apply ds_guardP;exact rfl;exact rfl;exact rfl;all_goals intro hg))
 all_goals try (exfalso;omega)
 all_goals exact ret_b rfl (by simp_all)
set_option maxHeartbeats 8000000 in
theorem eqRules_fn {f:FuncId} (l m:List (TRu)) (hp:∀ a b,Fn f ([elTRu a,elTRu b]++[]) (fun r=>r = .d (.bool (sameRuP a b)))):Fn 48 [.d (.slice 5 (l.map encTRu)),.d (.slice 5 (m.map encTRu)),.fn f []] (fun r=>r = .d (.bool (sameL sameRuP l m))):=by
 refine fnp_enter' _ Tryz.func48 rfl rfl (by kernel_rfl) ?_
 intro O w0 E0 β0
 refine dw_len_map (t:=0) rfl fun hb=>?_
 refine dw_len_map (t:=1) rfl fun hb2=>?_
 have ll:(l.map encTRu).length=l.length:=List.length_map _
 have lm:(m.map encTRu).length=m.length:=List.length_map _
 by_cases hl:l.length=m.length
 ·repeat' (first|refine z0 ?_|apply ds_nil|apply dw_seq2|refine z16 ?_|apply dw_block|apply dw_skip|apply dw_ret|apply thenD_n|apply thenD_r|(refine z23 ?_ ?_ <;> intro hg)|fail)
  all_goals try (exfalso;omega)
  refine ds_loop (ι:=Nat) (fun i=>⟨0,[(1,.d (.slice 5 (m.map encTRu))),(2,.fn f []),(15,.d (.slice 5 (l.map encTRu))),(16,.d (.int .i64 l.length)),(17,.d (.int .i64 i))],[]⟩)
   (fun i=>i≤l.length∧sameL (sameRuP) l m=sameL (sameRuP) (l.drop i) (m.drop i)) (fun i=>l.length - i) 0 ⟨Nat.zero_le _,rfl⟩ (ent_ren id ⟨rfl,rfl,rfl,by rw [← ll];rfl,rfl,trivial⟩ trivial rfl rfl rfl rfl rfl rfl) ?_
  rintro i ⟨g1,g2⟩
  dsimp only at g1 g2 ⊢
  by_cases hi:i < l.length
  ·have w:=hp l[i] (m[i]'(by omega))
   rw [sameL_drop (sameRuP) l m i hi (by omega)] at g2
   cases hs:sameRuP l[i] (m[i]'(by omega)) with
   | true =>
    rw [hs] at w
    rw [hs,Bool.true_and] at g2
    repeat' (first|refine z0 ?_|apply ds_nil|apply dw_seq2|refine z16 ?_|apply dw_block|apply dw_skip|apply dw_exit|apply dw_ret|refine z19 ?_|apply thenD_n|apply thenD_e|apply inB_n|refine z17 ?_|(apply ds_callV;exact rfl;exact rfl;exact rfl;exact rfl;apply w;exact rfl;(exact rfl);exact rfl;rintro _ rfl)|refine z1 ?_|refine z3 ?_|(refine z23 ?_ ?_ <;> intro hg)|fail)
    all_goals try (exfalso;omega)
    exact⟨i + 1,⟨hi,g2⟩,ent_ren id ⟨rfl,rfl,rfl,rfl,rfl,trivial⟩ trivial rfl rfl rfl rfl rfl rfl,by omega⟩
   | false =>
    rw [hs] at w
    rw [hs,Bool.false_and] at g2
    repeat' (first|refine z0 ?_|apply ds_nil|apply dw_seq2|refine z16 ?_|apply dw_block|apply dw_skip|apply dw_exit|apply dw_ret|refine z18 ?_|apply thenD_n|apply thenD_e|apply thenD_r|apply inB_r|refine z17 ?_|(apply ds_callV;exact rfl;exact rfl;exact rfl;exact rfl;apply w;exact rfl;(exact rfl);exact rfl;rintro _ rfl)|refine z1 ?_|refine z3 ?_|(refine z23 ?_ ?_ <;> intro hg)|fail)
    all_goals try (exfalso;omega)
    exact⟨.inl rfl,_,rfl,rfl,by rw [g2];rfl⟩
  ·rw [sameL_end (sameRuP) l m i (by omega) (by omega)] at g2
   repeat' (first|refine z0 ?_|apply ds_nil|apply dw_seq2|refine z16 ?_|apply dw_block|apply dw_skip|apply dw_exit|apply dw_ret|apply thenD_n|apply thenD_e|refine z17 ?_|refine z1 ?_|refine z3 ?_|(refine z23 ?_ ?_ <;> intro hg)|fail)
   all_goals try (exfalso;omega)
   exact⟨.inl rfl,_,rfl,rfl,by rw [g2];rfl⟩
 ·rw [sameL_len (sameRuP) l m hl]
  repeat' (first|refine z0 ?_|apply ds_nil|apply dw_seq2|refine z16 ?_|apply dw_block|apply dw_skip|apply dw_ret|apply thenD_n|apply thenD_r|(refine z23 ?_ ?_ <;> intro hg)|fail)
  all_goals try (exfalso;omega)
  exact⟨.inl rfl,_,rfl,rfl,rfl⟩
theorem sameLtP_eq:sameLtP=sameTLt false:=by
 funext x y
 unfold sameLtP sameTLt
 rfl
theorem sameRuP_eq:sameRuP=sameTRu false:=by
 funext a b
 unfold sameRuP sameTRu
 rw [sameLtP_eq]
 cases decide (a.name=b.name) <;> cases decide (a.fold=b.fold) <;> cases sameL sameTTm a.terms b.terms <;> rfl
set_option maxHeartbeats 8000000 in
theorem ssame_fn (rs us:List TRu):Fn 20 [.agg [.d (.slice 5 (rs.map encTRu))],.agg [.d (.slice 5 (us.map encTRu))]] (fun r=>r = .d (.bool (sameL (sameTRu false) rs us))):=by
 refine fnp_enter' _ Tryz.func20 rfl rfl (by kernel_rfl) ?_
 intro O w0 E0 β0
 have w1:=eqRules_fn rs us sameRule_fn
 rw [sameRuP_eq] at w1
 repeat' (first|refine z0 ?_|apply ds_nil|apply dw_seq2|refine z16 ?_|apply dw_ret|apply thenD_n|refine z21 ?_ (hc:=by apply w1)|refine z1 ?_|fail)
 exact ret_b rfl rfl
end Go.Proofs.YtapciiffpnociabGreatDoor
