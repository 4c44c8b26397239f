/- Several texts in one: ScoF GxTail GxOrd RuP RuA. Condition: none. -/
import Derived.Test.YtapciiffpnociacGreatD11
import Derived.Test.YtapciiffpnociacGreatD07
import Derived.Test.YtapciiffpnociacGreatD08
import Derived.Test.YtapciiffpnociacGreatD10

/- The document's small words on programs; its IsSafe. Condition: none. -/
namespace Go.Proofs.YtapciiffpnociacGreat
open Go Go.RowKit
attribute [local irreducible] DW DS DL DQ Ev FnOk FnP thenD inBlockD DT
theorem sbetween_fn (n a b:Int):Fn 53 [.d (.int .i64 n),.d (.int .i64 a),.d (.int .i64 b)] (fun r=>r = .d (.bool (inR n a b))):=between_fn n a b
set_option maxHeartbeats 8000000 in
theorem sisNumber_fn (n:Int):Fn 15 [.d (.int .i64 n)] (fun r=>r = .d (.bool (numB n))):=by
 refine fnp_enter' _ Tryz.func15 rfl rfl (by kernel_rfl) ?_
 intro O w0 E0 β0
 unfold numB
 repeat' (first|refine z0 ?_|apply ds_nil|apply dw_seq2|refine z16 ?_|apply dw_ret|apply thenD_n|refine z21 ?_ (hc:=by apply sbetween_fn)|fail)
 exact ret_b rfl rfl
set_option maxHeartbeats 8000000 in
theorem rterms_fn (l:List Trm) (vars:Int) (h0:0≤vars) (h8:vars≤8):Fn 144 [.d (.slice 2 (l.map encTrm)),.d (.int .i64 vars)] (fun r=>r = .d (.int .i64 (termsE vars l))):=by
 refine fnp_enter' _ Tryz.func144 rfl rfl (by kernel_rfl) ?_
 intro O w0 E0 β0
 have la:(l.map encTrm).length=l.length:=List.length_map _
 unfold termsE
 refine dw_len (t:=0) rfl (fun hk=>?_)
 repeat' (first|refine z0 ?_|apply ds_nil|apply dw_seq2|refine z16 ?_|apply dw_block|apply thenD_n)
 refine ds_loop (ι:=Nat) (fun i=>⟨0,[(0,.d (.slice 2 (l.map encTrm))),(1,.d (.int .i64 vars)),(4,.d (.int .i64 0)),(5,.d (.int .i64 i))],[]⟩)
  (fun i=>i≤l.length∧firstL (termE vars) l=firstL (termE vars) (l.drop i)) (fun i=>l.length - i) 0 ⟨Nat.zero_le _,rfl⟩ (ent_ren id ⟨rfl,rfl,rfl,rfl,trivial⟩ trivial rfl rfl rfl rfl rfl rfl) ?_
 rintro i ⟨g1,g2⟩
 by_cases hi:i < l.length
 ·rw [firstL_step hi,show termE vars l[i]=if inR l[i].var (-1) (vars - 1)=false then 5 else if numB l[i].n=false∨(0≤l[i].var∧l[i].n≠0) then 3 else 0 from rfl] at g2
  repeat' (first|refine z0 ?_|refine z12 ?_|apply ds_nil|apply dw_seq2|refine z16 ?_|apply dw_block|apply dw_skip|apply dw_exit|apply dw_ret|refine z18 ?_|refine z19 ?_|apply thenD_n|apply thenD_e|apply thenD_r|apply inB_n|apply inB_r|refine z17 ?_|refine z21 ?_ (hc:=by apply sbetween_fn)|refine z21 ?_ (hc:=by apply sisNumber_fn)|(refine z23 ?_ ?_ <;> intro hg)|(apply dw_cond;exact rfl;all_goals intro hg)|((fail_if_success (apply ds_known;exact rfl));apply ds_guardP;exact rfl;exact rfl;exact rfl;all_goals intro hg)|((fail_if_success (apply ds_known;exact rfl));apply ds_guardB;exact rfl;exact rfl;exact rfl;all_goals intro hg))
  all_goals first
   | exact absurd hg (by omega)
   | exact ret_i rfl (by rw [g2];simp_all <;> omega)
   | exact⟨i + 1,⟨by omega,by rw [g2];simp_all <;> omega⟩,ent_ren id ⟨rfl,rfl,rfl,rfl,trivial⟩ trivial rfl rfl rfl rfl rfl rfl,by show l.length - (i + 1) < l.length - i;omega⟩
 ·rw [firstL_end (by omega)] at g2
  repeat' (first|refine z0 ?_|refine z12 ?_|apply ds_nil|apply dw_seq2|refine z16 ?_|apply dw_block|apply dw_skip|apply dw_exit|apply dw_ret|refine z18 ?_|refine z19 ?_|apply thenD_n|apply thenD_e|apply thenD_r|apply inB_n|apply inB_r|refine z17 ?_|refine z21 ?_ (hc:=by apply sbetween_fn)|refine z21 ?_ (hc:=by apply sisNumber_fn)|(refine z23 ?_ ?_ <;> intro hg)|(apply dw_cond;exact rfl;all_goals intro hg)|((fail_if_success (apply ds_known;exact rfl));apply ds_guardP;exact rfl;exact rfl;exact rfl;all_goals intro hg)|((fail_if_success (apply ds_known;exact rfl));apply ds_guardB;exact rfl;exact rfl;exact rfl;all_goals intro hg))
  all_goals first
   | exact absurd hg (by omega)
   | exact ret_i rfl g2.symm
set_option maxHeartbeats 8000000 in
theorem isWord_fn (s:ByteArray):Fn 143 [.d (.str s)] (fun r=>r = .d (.bool (wordB s))):=by
 refine fnp_enter' _ Tryz.func143 rfl rfl (by kernel_rfl) ?_
 intro O w0 E0 β0
 unfold wordB wordsL
 repeat' (first|refine z0 ?_|refine z12 ?_|apply ds_nil|apply dw_seq2|refine z16 ?_|apply dw_ret|apply thenD_n|((fail_if_success (apply ds_known;exact rfl));apply ds_guardP;exact rfl;exact rfl;exact rfl;all_goals intro hg))
 all_goals exact ret_b rfl (by simp_all [eqS])
def nameR (s:ByteArray):Bool:=isTok 1 s && !wordB s
set_option maxHeartbeats 8000000 in
theorem isName_fn (s:ByteArray):Fn 104 [.d (.str s)] (fun r=>r = .d (.bool (nameR s))):=by
 refine fnp_enter' _ Tryz.func104 rfl rfl (by kernel_rfl) ?_
 intro O w0 E0 β0
 unfold nameR
 repeat' (first|refine z0 ?_|refine z12 ?_|apply ds_nil|apply dw_seq2|refine z16 ?_|apply dw_ret|apply thenD_n|refine z21 ?_ (hc:=by apply isToken_fn)|refine z21 ?_ (hc:=by apply isWord_fn)|((fail_if_success (apply ds_known;exact rfl));apply ds_guardB;exact rfl;exact rfl;exact rfl;all_goals intro hg))
 all_goals exact ret_b rfl (by simp_all)
def firstOf (bs:List Bool) (l:Ltl):Nat:=if l.kind=4 then (if firesB bs l then 2 else 3) else 0
theorem bLit_first {bs:List Bool} {l:Ltl} (h3:l.kind=4→l.terms.length=3):bLit bs l=if l.kind=1∨l.kind=4 then (l.terms.drop (firstOf bs l)).foldl setT bs else bs:=by
 unfold bLit firstOf litTs
 by_cases k1:l.kind=1
 ·have hf:firesB bs l=true:=by unfold firesB;rw [decide_eq_true k1];rfl
  simp [hf,k1]
 ·by_cases k4:l.kind=4
  ·cases hf:firesB bs l with
   | true=>simp [k4]
   | false =>
    have hd:l.terms.drop 3=[]:=List.drop_of_length_le (by have:=h3 k4;omega)
    simp [k4,hd]
  ·have hf:firesB bs l=false:=by unfold firesB;rw [decide_eq_false k1,decide_eq_false k4];rfl
   simp [hf,k1,k4]
abbrev litB (l:Ltl):HB:=.blk 40 [.d (.int .i64 l.kind),.d (.int .i64 l.op),.d (.int .i64 l.pred),.d (.slice 2 (l.terms.map encTrm))]
set_option maxHeartbeats 8000000 in
theorem safe_fn (r:Rul) (hb4:r.body.length≤4) (h0:0≤r.vars) (h8:r.vars≤8) (hok:∀ l∈r.body,∀ t∈l.terms,okT r.vars.toNat t) (h3:∀ l∈r.body,l.kind=4→l.terms.length=3) :
  Fn 145 [elRul r] (fun x=>x = .d (.bool (safeB r))):=by
 refine fnp_enter' _ Tryz.func145 rfl rfl (by kernel_rfl) ?_
 intro O w0 E0 β0
 have lb:(r.body.map encLtl).length=r.body.length:=List.length_map _
 refine dw_lenA 0 3 rfl rfl (fun hk=>?_)
 repeat' (first|refine z0 ?_|apply ds_nil|apply dw_seq2|refine z16 ?_|apply thenD_n|refine z1 ?_|fail)
 refine ds_mk ((List.replicate r.vars.toNat false).map encBl) rfl rfl (Int.toNat_of_nonneg h0).symm rfl rfl rfl rfl rfl rfl (by show 1 * _≤_;omega) (by unfold maxLen;omega) (by rw [List.map_replicate];rfl) rfl rfl ?_
 repeat' (first|refine z0 ?_|apply ds_nil|apply dw_seq2|refine z16 ?_|apply dw_block|apply thenD_n)
 refine ds_loop (ι:=Nat × List Bool) (fun x=>⟨2,[(1,.loc 0 0),(2,.d (.bool false)),(3,.row 1),(4,.d (.int .i64 x.1))],[(0,ruleB r),(1,.row 4 1 (x.2.map encBl))]⟩)
  (fun x=>x.1≤r.body.length + 1∧x.2=bIter r.body x.1 (List.replicate r.vars.toNat false)) (fun x=>r.body.length + 1 - x.1)
  (0,List.replicate r.vars.toNat false) ⟨Nat.zero_le _,rfl⟩ (ent_ren id ⟨rfl,rfl,rfl,rfl,trivial⟩ ⟨rfl,rfl,trivial⟩ rfl rfl rfl rfl rfl rfl) ?_
 rintro⟨n,b0⟩ ⟨g1,g2⟩
 dsimp only at g1 g2 ⊢
 have hlen:b0.length=r.vars.toNat:=by rw [g2,bIter_len,List.length_replicate]
 by_cases hn:n < r.body.length + 1
 ·repeat' (first|refine z0 ?_|apply ds_nil|apply dw_seq2|refine z16 ?_|apply dw_block|apply dw_skip|apply dw_exit|apply thenD_n|apply thenD_e|refine z17 ?_|(refine z23 ?_ ?_ <;> intro hg)|fail)
  all_goals try (exfalso;omega)
  refine ds_loop (ι:=Nat × List Bool) (fun x=>⟨2,[(1,.loc 0 0),(2,.d (.bool false)),(3,.row 1),(4,.d (.int .i64 n)),(5,.d (.int .i64 x.1))],[(0,ruleB r),(1,.row 4 1 (x.2.map encBl))]⟩)
   (fun x=>x.1≤r.body.length∧x.2=(r.body.take x.1).foldl bLit b0) (fun x=>r.body.length - x.1)
   (0,b0) ⟨Nat.zero_le _,rfl⟩ (ent_ren id ⟨rfl,rfl,rfl,rfl,rfl,trivial⟩ ⟨rfl,rfl,trivial⟩ rfl rfl rfl rfl rfl rfl) ?_
  rintro⟨i,bs⟩ ⟨f1,f2⟩
  dsimp only at f1 f2 ⊢
  have hbl:bs.length=r.vars.toNat:=by rw [f2,bLits_len,hlen]
  by_cases hi:i < r.body.length
  ·have hlok:=hok r.body[i] (List.getElem_mem hi)
   have h3':=h3 r.body[i] (List.getElem_mem hi)
   have hf:bLit bs r.body[i]=(r.body.take (i + 1)).foldl bLit b0:=by rw [foldl_take bLit b0 hi,← f2]
   rw [bLit_first h3'] at hf
   repeat' ((fail_if_success (apply dw_stopR 10));(first|refine z0 ?_|apply ds_nil|apply dw_seq2|refine z16 ?_|apply dw_block|apply dw_skip|apply dw_exit|apply thenD_n|apply thenD_e|apply inB_n|refine z17 ?_|refine z1 ?_|refine z3 ?_|(refine z23 ?_ ?_ <;> intro hg)|fail))
   all_goals try (exfalso;omega)
   generalize r.body[i]=l at hlok h3' hf ⊢
   have ll:(l.terms.map encTrm).length=l.terms.length:=List.length_map _
   have lbs:(bs.map encBl).length=bs.length:=List.length_map _
   refine dw_cut (ι:=Unit) (fun _=>⟨3,[(1,.loc 0 0),(2,.d (.bool false)),(3,.row 1),(4,.d (.int .i64 n)),(5,.d (.int .i64 i)),(6,.loc 2 0),(7,.d (.int .i64 (firstOf bs l)))],[(0,ruleB r),(1,.row 4 1 (bs.map encBl)),(2,litB l)]⟩) (fun _=>True) ?_ ?_
   ·by_cases k4:l.kind=4
    ·have h3l:=h3' k4
     have hf4:=fires4 (bs:=bs) (by omega) k4 h3l
     have hlok':∀ t∈l.terms,okT bs.length t:=by rw [hbl];exact hlok
     repeat' (first|refine z0 ?_|apply ds_nil|apply dw_seq2|refine z16 ?_|apply dw_block|apply dw_skip|apply thenD_n|(refine z23 ?_ ?_ <;> intro hg)|fail)
     all_goals try (exfalso;omega)
     refine ds_loop (ι:=Nat × Int) (fun x=>⟨3,[(1,.loc 0 0),(2,.d (.bool false)),(3,.row 1),(4,.d (.int .i64 n)),(5,.d (.int .i64 i)),(6,.loc 2 0),(7,.d (.int .i64 x.2)),(8,.d (.int .i64 x.1))],[(0,ruleB r),(1,.row 4 1 (bs.map encBl)),(2,litB l)]⟩)
      (fun x=>x.1≤2∧x.2=if (l.terms.take x.1).all (isT bs) then 2 else 3) (fun x=>2 - x.1)
      (0,2) ⟨Nat.zero_le _,rfl⟩ (ent_ren id ⟨rfl,rfl,rfl,rfl,rfl,rfl,rfl,rfl,trivial⟩ ⟨rfl,rfl,rfl,trivial⟩ rfl rfl rfl rfl rfl rfl) ?_
     rintro⟨j,f⟩ ⟨e1,e2⟩
     dsimp only at e1 e2 ⊢
     by_cases hj:j < 2
     ·have hq:=hlok' (l.terms[j]'(by omega)) (List.getElem_mem _)
      have e3:(l.terms.take (j + 1)).all (isT bs)=((l.terms.take j).all (isT bs) && isT bs (l.terms[j]'(by omega))):=by
       rw [List.take_succ_eq_append_getElem (by omega),List.all_append]
       simp
      by_cases hneg:(l.terms[j]'(by omega)).var < 0
      ·rw [isT_pos hneg,Bool.and_true] at e3
       repeat' (first|refine z0 ?_|refine z12 ?_|apply ds_nil|apply dw_seq2|refine z16 ?_|apply dw_block|apply dw_skip|apply dw_exit|refine z19 ?_|apply thenD_n|apply thenD_e|apply inB_n|refine z17 ?_|(refine z23 ?_ ?_ <;> intro hg)|(apply dw_cond;exact rfl;all_goals intro hg)|((fail_if_success (apply ds_known;exact rfl));apply ds_guardP;exact rfl;exact rfl;exact rfl;all_goals intro hg))
       all_goals try (exfalso;omega)
       all_goals exact⟨(j + 1,f),⟨by omega,by dsimp only;rw [e3,e2]⟩,ent_ren id ⟨rfl,rfl,rfl,rfl,rfl,rfl,rfl,rfl,trivial⟩ ⟨rfl,rfl,rfl,trivial⟩ rfl rfl rfl rfl rfl rfl,by show 2 - (j + 1) < 2 - j;omega⟩
      ·rw [isT_neg hneg hq] at e3
       unfold okT at hq
       repeat' (first|refine z0 ?_|refine z12 ?_|apply ds_nil|apply dw_seq2|refine z16 ?_|apply dw_block|apply dw_skip|apply dw_exit|refine z19 ?_|apply thenD_n|apply thenD_e|apply inB_n|refine z17 ?_|(refine z23 ?_ ?_ <;> intro hg)|(apply dw_cond;exact rfl;all_goals intro hg)|((fail_if_success (apply ds_known;exact rfl));apply ds_guardP;exact rfl;exact rfl;exact rfl;all_goals intro hg))
       all_goals try (exfalso;omega)
       ·have hb:bs[(l.terms[j]'(by omega)).var.toNat]'(by omega)=false:=by simpa using hg
        exact⟨(j + 1,3),⟨by omega,by dsimp only;rw [e3,hb,Bool.and_false];rfl⟩,ent_ren id ⟨rfl,rfl,rfl,rfl,rfl,rfl,rfl,rfl,trivial⟩ ⟨rfl,rfl,rfl,trivial⟩ rfl rfl rfl rfl rfl rfl,by show 2 - (j + 1) < 2 - j;omega⟩
       ·have hb:bs[(l.terms[j]'(by omega)).var.toNat]'(by omega)=true:=by simpa using hg
        exact⟨(j + 1,f),⟨by omega,by dsimp only;rw [e3,hb,Bool.and_true,e2]⟩,ent_ren id ⟨rfl,rfl,rfl,rfl,rfl,rfl,rfl,rfl,trivial⟩ ⟨rfl,rfl,rfl,trivial⟩ rfl rfl rfl rfl rfl rfl,by show 2 - (j + 1) < 2 - j;omega⟩
     ·repeat' (first|refine z0 ?_|refine z12 ?_|apply ds_nil|apply dw_seq2|refine z16 ?_|apply dw_block|apply dw_skip|apply dw_exit|refine z19 ?_|apply thenD_n|apply thenD_e|apply inB_n|refine z17 ?_|(refine z23 ?_ ?_ <;> intro hg)|(apply dw_cond;exact rfl;all_goals intro hg)|((fail_if_success (apply ds_known;exact rfl));apply ds_guardP;exact rfl;exact rfl;exact rfl;all_goals intro hg))
      all_goals try (exfalso;omega)
      refine⟨(),trivial,?_⟩
      have hff:f=(firstOf bs l:Int):=by
       unfold firstOf
       rw [if_pos k4,e2,show j=2 by omega]
       have:firesB bs l=(l.terms.take 2).all (isT bs):=by unfold firesB;rw [decide_eq_false (by omega),decide_eq_true k4];simp
       rw [this]
       split <;> rfl
      rw [hff]
      exact ent_ren id ⟨rfl,rfl,rfl,rfl,rfl,rfl,rfl,trivial⟩ ⟨rfl,rfl,rfl,trivial⟩ rfl rfl rfl rfl rfl rfl
    ·repeat' (first|refine z0 ?_|apply ds_nil|apply dw_seq2|refine z16 ?_|apply dw_block|apply dw_skip|apply thenD_n|(refine z23 ?_ ?_ <;> intro hg)|fail)
     all_goals try (exfalso;omega)
     refine⟨(),trivial,?_⟩
     unfold firstOf
     rw [if_neg k4]
     exact ent_ren id ⟨rfl,rfl,rfl,rfl,rfl,rfl,rfl,trivial⟩ ⟨rfl,rfl,rfl,trivial⟩ rfl rfl rfl rfl rfl rfl
   ·intro _ _
    have hfl:firstOf bs l≤3:=by unfold firstOf;split <;> (try split) <;> omega
    refine dw_lenC 2 3 rfl rfl (fun hkl=>?_)
    repeat' (first|refine z0 ?_|apply ds_nil|apply dw_seq2|refine z16 ?_|apply dw_block|apply thenD_n)
    by_cases hk14:l.kind=1∨l.kind=4
    ·rw [if_pos hk14] at hf
     have hlok':∀ t∈l.terms,okT bs.length t:=by rw [hbl];exact hlok
     refine ds_loop (ι:=Nat × List Bool) (fun x=>⟨3,[(1,.loc 0 0),(2,.d (.bool false)),(3,.row 1),(4,.d (.int .i64 n)),(5,.d (.int .i64 i)),(6,.loc 2 0),(9,.d (.int .i64 x.1))],[(0,ruleB r),(1,.row 4 1 (x.2.map encBl)),(2,litB l)]⟩)
      (fun x=>x.2.length=bs.length∧(l.terms.drop x.1).foldl setT x.2=(l.terms.drop (firstOf bs l)).foldl setT bs∧x.1≤l.terms.length + 3) (fun x=>l.terms.length + 3 - x.1)
      (firstOf bs l,bs) ⟨rfl,rfl,by dsimp only;omega⟩ (ent_ren id ⟨rfl,rfl,rfl,rfl,rfl,rfl,rfl,trivial⟩ ⟨rfl,rfl,rfl,trivial⟩ rfl rfl rfl rfl rfl rfl) ?_
     rintro⟨j,bj⟩ ⟨e1,e2,e3⟩
     dsimp only at e1 e2 e3 ⊢
     have lbj:(bj.map encBl).length=bj.length:=List.length_map _
     by_cases hj:j < l.terms.length
     ·have hq:=hlok' l.terms[j] (List.getElem_mem hj)
      rw [← e1] at hq
      rw [List.drop_eq_getElem_cons hj,List.foldl_cons] at e2
      by_cases hneg:l.terms[j].var < 0
      ·have hst:setT bj l.terms[j]=bj:=by unfold setT;rw [if_pos hneg]
       rw [hst] at e2
       repeat' (first|refine z0 ?_|refine z12 ?_|apply ds_nil|(apply ds_stP;exact rfl;exact rfl;(apply hv_get;(omega));exact rfl;exact rfl;(exact hv_set rfl);exact rfl;exact rfl;exact rfl;exact rfl;exact rfl;exact rfl)|apply dw_seq2|refine z16 ?_|apply dw_block|apply dw_skip|apply dw_exit|refine z18 ?_|refine z19 ?_|apply thenD_n|apply thenD_e|apply inB_n|refine z17 ?_|(refine z23 ?_ ?_ <;> intro hg)|((fail_if_success (apply ds_known;exact rfl));apply ds_guardP;exact rfl;exact rfl;exact rfl;all_goals intro hg))
       all_goals try (exfalso;omega)
       all_goals exact⟨(j + 1,bj),⟨e1,e2,by dsimp only;omega⟩,ent_ren id ⟨rfl,rfl,rfl,rfl,rfl,rfl,rfl,trivial⟩ ⟨rfl,rfl,rfl,trivial⟩ rfl rfl rfl rfl rfl rfl,by show l.terms.length + 3 - (j + 1) < l.terms.length + 3 - j;omega⟩
      ·have hst:setT bj l.terms[j]=bj.set l.terms[j].var.toNat true:=by unfold setT;rw [if_neg hneg]
       rw [hst] at e2
       unfold okT at hq
       repeat' (first|refine z0 ?_|refine z12 ?_|apply ds_nil|(apply ds_stP;exact rfl;exact rfl;(apply hv_get;(omega));exact rfl;exact rfl;(exact hv_set rfl);exact rfl;exact rfl;exact rfl;exact rfl;exact rfl;exact rfl)|apply dw_seq2|refine z16 ?_|apply dw_block|apply dw_skip|apply dw_exit|refine z18 ?_|refine z19 ?_|apply thenD_n|apply thenD_e|apply inB_n|refine z17 ?_|(refine z23 ?_ ?_ <;> intro hg)|((fail_if_success (apply ds_known;exact rfl));apply ds_guardP;exact rfl;exact rfl;exact rfl;all_goals intro hg))
       all_goals try (exfalso;omega)
       all_goals exact⟨(j + 1,bj.set l.terms[j].var.toNat true),⟨by dsimp only;rw [List.length_set];exact e1,e2,by dsimp only;omega⟩,ent_ren id ⟨rfl,rfl,rfl,rfl,rfl,rfl,rfl,trivial⟩ ⟨rfl,rfl,rfl,trivial⟩ rfl rfl rfl rfl rfl rfl,by show l.terms.length + 3 - (j + 1) < l.terms.length + 3 - j;omega⟩
     ·rw [List.drop_of_length_le (by omega)] at e2
      have e2:bj=(l.terms.drop (firstOf bs l)).foldl setT bs:=e2
      repeat' (first|refine z0 ?_|refine z12 ?_|apply ds_nil|(apply ds_stP;exact rfl;exact rfl;(apply hv_get;(omega));exact rfl;exact rfl;(exact hv_set rfl);exact rfl;exact rfl;exact rfl;exact rfl;exact rfl;exact rfl)|apply dw_seq2|refine z16 ?_|apply dw_block|apply dw_skip|apply dw_exit|refine z18 ?_|refine z19 ?_|apply thenD_n|apply thenD_e|apply inB_n|refine z17 ?_|(refine z23 ?_ ?_ <;> intro hg)|((fail_if_success (apply ds_known;exact rfl));apply ds_guardP;exact rfl;exact rfl;exact rfl;all_goals intro hg))
      all_goals try (exfalso;omega)
      all_goals exact⟨(i + 1,bj),⟨by omega,by dsimp only;rw [e2,hf]⟩,ent_ren id ⟨rfl,rfl,rfl,rfl,rfl,trivial⟩ ⟨rfl,rfl,trivial⟩ rfl rfl rfl rfl rfl rfl,by show r.body.length - (i + 1) < r.body.length - i;omega⟩
    ·rw [if_neg hk14] at hf
     refine ds_loop (ι:=Unit) (fun _=>⟨3,[(1,.loc 0 0),(2,.d (.bool false)),(3,.row 1),(4,.d (.int .i64 n)),(5,.d (.int .i64 i)),(6,.loc 2 0),(9,.d (.int .i64 (firstOf bs l)))],[(0,ruleB r),(1,.row 4 1 (bs.map encBl)),(2,litB l)]⟩)
      (fun _=>True) (fun _=>0) () trivial (ent_ren id ⟨rfl,rfl,rfl,rfl,rfl,rfl,rfl,trivial⟩ ⟨rfl,rfl,rfl,trivial⟩ rfl rfl rfl rfl rfl rfl) ?_
     intro _ _
     repeat' (first|refine z0 ?_|refine z12 ?_|apply ds_nil|(apply ds_stP;exact rfl;exact rfl;(apply hv_get;(omega));exact rfl;exact rfl;(exact hv_set rfl);exact rfl;exact rfl;exact rfl;exact rfl;exact rfl;exact rfl)|apply dw_seq2|refine z16 ?_|apply dw_block|apply dw_skip|apply dw_exit|refine z18 ?_|refine z19 ?_|apply thenD_n|apply thenD_e|apply inB_n|refine z17 ?_|(refine z23 ?_ ?_ <;> intro hg)|((fail_if_success (apply ds_known;exact rfl));apply ds_guardP;exact rfl;exact rfl;exact rfl;all_goals intro hg))
     all_goals try (exfalso;omega)
     all_goals exact⟨(i + 1,bs),⟨by omega,by rw [hf]⟩,ent_ren id ⟨rfl,rfl,rfl,rfl,rfl,trivial⟩ ⟨rfl,rfl,trivial⟩ rfl rfl rfl rfl rfl rfl,by show r.body.length - (i + 1) < r.body.length - i;omega⟩
  ·repeat' (first|refine z0 ?_|apply ds_nil|apply dw_seq2|refine z16 ?_|apply dw_block|apply dw_skip|apply dw_exit|apply thenD_n|apply thenD_e|apply inB_n|refine z17 ?_|refine z1 ?_|refine z3 ?_|(refine z23 ?_ ?_ <;> intro hg)|fail)
   all_goals try (exfalso;omega)
   refine⟨(n + 1,bs),⟨by omega,?_⟩,ent_ren id ⟨rfl,rfl,rfl,rfl,trivial⟩ ⟨rfl,rfl,trivial⟩ rfl rfl rfl rfl rfl rfl,by show r.body.length + 1 - (n + 1) < r.body.length + 1 - n;omega⟩
   dsimp only
   rw [bIter_succ,← g2,f2,List.take_of_length_le (by omega)];rfl
 ·repeat' (first|refine z0 ?_|apply ds_nil|apply dw_seq2|refine z16 ?_|apply dw_block|apply dw_skip|apply dw_exit|apply thenD_n|apply thenD_e|refine z17 ?_|(refine z23 ?_ ?_ <;> intro hg)|fail)
  all_goals try (exfalso;omega)
  have hb:b0=boundL r:=by rw [g2,show n=r.body.length + 1 by omega];rfl
  unfold safeB
  rw [← hb]
  have lb0:(b0.map encBl).length=b0.length:=List.length_map _
  refine ds_loop (ι:=Nat) (fun x=>⟨2,[(1,.loc 0 0),(2,.d (.bool false)),(3,.row 1),(10,.d (.int .i64 x))],[(0,ruleB r),(1,.row 4 1 (b0.map encBl))]⟩)
   (fun x=>x≤b0.length∧b0.all id=(b0.drop x).all id) (fun x=>b0.length - x)
   0 ⟨Nat.zero_le _,rfl⟩ (ent_ren id ⟨rfl,rfl,rfl,rfl,trivial⟩ ⟨rfl,rfl,trivial⟩ rfl rfl rfl rfl rfl rfl) ?_
  rintro j ⟨e1,e2⟩
  dsimp only at e1 e2 ⊢
  by_cases hj:j < b0.length
  ·rw [List.drop_eq_getElem_cons hj,List.all_cons] at e2
   repeat' (first|refine z0 ?_|apply ds_nil|apply dw_seq2|refine z16 ?_|apply dw_block|apply dw_skip|apply dw_exit|apply dw_ret|apply thenD_n|apply thenD_e|apply thenD_r|apply inB_n|apply inB_r|refine z17 ?_|(refine z23 ?_ ?_ <;> intro hg)|(apply dw_cond;exact rfl;all_goals intro hg))
   all_goals try (exfalso;omega)
   ·refine ret_b rfl ?_
    have hbj:b0[j]=false:=by simpa using hg
    rw [e2,hbj];rfl
   ·have hbj:b0[j]=true:=by simpa using hg
    exact⟨j + 1,⟨by omega,by rw [e2,hbj];rfl⟩,ent_ren id ⟨rfl,rfl,rfl,rfl,trivial⟩ ⟨rfl,rfl,trivial⟩ rfl rfl rfl rfl rfl rfl,by show b0.length - (j + 1) < b0.length - j;omega⟩
  ·rw [List.drop_of_length_le (by omega)] at e2
   repeat' (first|refine z0 ?_|apply ds_nil|apply dw_seq2|refine z16 ?_|apply dw_block|apply dw_skip|apply dw_exit|apply dw_ret|apply thenD_n|apply thenD_e|apply thenD_r|apply inB_n|apply inB_r|refine z17 ?_|(refine z23 ?_ ?_ <;> intro hg)|(apply dw_cond;exact rfl;all_goals intro hg))
   all_goals try (exfalso;omega)
   all_goals exact ret_b rfl (by rw [e2];rfl)
end Go.Proofs.YtapciiffpnociacGreat

/- A plain logic over the walk: regions that draw their order, whose last operations can go in one order alone. No program is named here. Condition: none. -/
namespace Go.Proofs.YtapciiffpnociacGreat
open Go Go.RowKit
section
variable {Γ : Ctx} {l : List Oper} {κ c : Nat}
def tailB (l:List Oper) (c:Nat):Bool:=(enumO 0 l).all fun q=>Nat.blt q.1 c || (List.range q.1).all fun i=>reachB l l.length q.1 i
theorem tailB_spec (h:tailB l c=true) {j i:Nat} {o:Oper} (hj:l[j]? = some o) (hc:c≤j) (hi:i < j):reachB l l.length j i=true:=by
 unfold tailB at h
 rw [List.all_eq_true] at h
 have h1:=h (j,o) ((enumO_mem l 0 (j,o)).2 ⟨Nat.zero_le _,by simpa using hj⟩)
 rw [Bool.or_eq_true] at h1
 rcases h1 with h1|h1
 ·have:j < c:=Nat.le_of_ble_eq_true h1
  omega
 ·exact List.all_eq_true.1 h1 i (List.mem_range.2 hi)
theorem enumO_app:∀ (a b:List Oper) (n:Nat),enumO n (a++b)=enumO n a++enumO (n + a.length) b
 | [],b,n=>rfl
 | o::a,b,n=>by
  rw [List.cons_append,enumO,enumO,enumO_app a b (n + 1),List.cons_append,List.length_cons,show n + 1 + a.length=n + (a.length + 1) by omega]
theorem down_spec (hdown:regDownB l=true):∀ j o,l[j]? = some o→∀ e∈o.after,Region.binds .any e=true→e.on < j:=by
 intro j o hj e he hb
 unfold regDownB at hdown
 rw [List.all_eq_true] at hdown
 have h1:=hdown (j,o) ((enumO_mem l 0 (j,o)).2 ⟨Nat.zero_le _,by simpa using hj⟩)
 rw [List.all_eq_true] at h1
 have h2:=h1 e (by simpa using he)
 simp only [hb,Bool.not_true,Bool.false_or] at h2
 exact Nat.le_of_ble_eq_true h2
theorem first_ready (hdown:regDownB l=true) {listed:Array Bool} {q:Nat × Oper} {rem':List (Nat × Oper)} (g:Going l listed (q::rem')):q.1∈Region.ready .any l.toArray listed:=by
 obtain⟨h1,h2⟩:=(g.left q).1 (List.mem_cons_self ..)
 refine mem_ready.2 ⟨h2,q.2,by simpa using h1,fun e' he hb=>?_⟩
 have hlt:=down_spec hdown q.1 q.2 h1 e' he hb
 have hln:e'.on < listed.size:=by rw [g.size];have:=lt_of_some h1;omega
 cases hx:listed.getD e'.on false with
 | true=>rfl
 | false =>
  exfalso
  have hx':listed.getD e'.on true=false:=(getD_flip hln).trans hx
  have hlen':e'.on < l.length:=by rw [← g.size];exact hln
  have hm:=(g.left (e'.on,l[e'.on])).2 ⟨by simp [hlen'],hx'⟩
  rcases List.mem_cons.1 hm with h|h
  ·have:e'.on=q.1:=by rw [← h]
   omega
  ·have:=(List.pairwise_cons.1 g.sorted).1 _ h
   simp at this
   omega
theorem tail_run (hdown:regDownB l=true) (hT:tailB l c=true) {Q:Exit→Act→World→Prop}:∀ (m:Nat) (listed:Array Bool) (a:Act) (w:World),Going l listed (enumO (l.length - m) (l.drop (l.length - m)))→m≤l.length - c→wpList Γ.P l.toArray Q (l.drop (l.length - m)) a w→wpAny Γ.P .any l.toArray Q m listed a w
 | 0,listed,a,w,g,_,h=>by
  have hn:l.drop (l.length - 0)=[]:=List.drop_eq_nil_of_le (by omega)
  rw [hn] at g h
  refine⟨?_,h⟩
  apply List.eq_nil_iff_forall_not_mem.2
  intro j hj
  obtain⟨h1,o,ho,_⟩:=mem_ready.1 hj
  have:=(g.left (j,o)).2 ⟨by simpa using ho,h1⟩
  simp [enumO] at this
 | m + 1,listed,a,w,g,hm,h=>by
  have hj:l.length - (m + 1) < l.length:=by omega
  have hd:l.drop (l.length - (m + 1))=l[l.length - (m + 1)]::l.drop (l.length - m):=by
   rw [List.drop_eq_getElem_cons hj]
   congr 2
   omega
  have hen:enumO (l.length - (m + 1)) (l.drop (l.length - (m + 1)))=(l.length - (m + 1),l[l.length - (m + 1)])::enumO (l.length - m) (l.drop (l.length - m)):=by
   rw [hd,enumO]
   congr 2
   omega
  rw [hen] at g
  rw [hd] at h
  generalize hJ:l.length - (m + 1)=J at *
  have hr:=first_ready hdown g
  refine⟨fun h0=>?_,fun i hi=>?_⟩
  ·rw [h0] at hr;simp at hr
  ·obtain⟨h1,o,ho,hall⟩:=mem_ready.1 hi
   have hio:l[i]? = some o:=by simpa using ho
   have hij:i=J:=by
    have hmem:=(g.left (i,o)).2 ⟨hio,h1⟩
    rcases List.mem_cons.1 hmem with h|h
    ·exact congrArg Prod.fst h
    ·exfalso
     have hlt:J < i:=by simpa using (List.pairwise_cons.1 g.sorted).1 _ h
     have:=reach_done g l.length i o (tailB_spec hT hio (by omega) hlt) hio hall
     have h3:=((g.left (J,l[J])).1 (List.mem_cons_self ..)).2
     have hJs:J < listed.size:=by rw [g.size];exact hj
     rw [getD_flip hJs] at h3
     rw [h3] at this
     cases this
   subst hij
   have g':=Going.rest (pre:=[]) (i:=i) (o:=l[i]) (post:=enumO (l.length - m) (l.drop (l.length - m))) g hi rfl (by rw [List.getElem?_eq_getElem hj])
   unfold wpOp
   have hlk:l.toArray[i]? = some l[i]:=by simp [hj]
   rw [hlk]
   unfold wpList at h
   split at h
   ·rename_i hw
    simp only [hw,if_true]
    exact h.imp (fun h=>Oper.wp_mono (fun a' w' hk=>tail_run hdown hT m _ a' w' g' (by omega) hk) h) id
   ·rename_i hw
    simp only [hw]
    exact tail_run hdown hT m _ _ w g' (by omega) h
theorem tail_sim (hB:regAnyB l=true) (hT:tailB l c=true) (hcl:c≤l.length) {K:FS→Prop} {Q:Exit→Act→World→Prop} (hQ:∀ s e a w,K s→Rep Γ (lo (κ + c)) s e a w→wpList Γ.P l.toArray Q (l.drop c) a w) :
  ∀ (fuel:Nat) (listed:Array Bool) (a:Act) (w:World) (s:FS) (e:Env) (D:Nat→Prop) (rem:List (Nat × Oper)) (lg:Log),Going l listed (rem++enumO c (l.drop c))→(∀ q∈rem,q.1 < c)→rem.length=fuel→Rep Γ D s e a w →
   (∀ x,D x→x < κ + c∧∀ j,x=κ + j→listed.getD j false=true)→DR Γ l κ rem lg K s→wpAny Γ.P .any l.toArray Q (fuel + (l.length - c)) listed a w:=by
 simp only [regAnyB,Bool.and_eq_true] at hB
 obtain⟨hdown,hpair,hcall⟩:=hB
 intro fuel
 induction fuel with
 | zero =>
  intro listed a w s e D rem lg g hrc hlen hr hD hd
  have hrem:rem=[]:=List.eq_nil_of_length_eq_zero hlen
  subst hrem
  rw [Nat.zero_add]
  have hcc:l.length - (l.length - c)=c:=by omega
  refine tail_run hdown hT (l.length - c) listed a w (by rw [hcc];exact g) (Nat.le_refl _) ?_
  rw [hcc]
  cases hd with
  | nil hk =>
   obtain⟨L,H,m,hs⟩:=hr
   obtain⟨e',m'⟩:=m.widenTo (k':=lo (κ + c)) fun x hx=>(hD x hx).1
   exact hQ s e' a w hk ⟨L,H,m',hs⟩
 | succ fuel ih =>
  intro listed a w s e D rem lg g hrc hlen hr hD hd
  rw [show fuel + 1 + (l.length - c)=(fuel + (l.length - c)) + 1 by omega]
  obtain⟨q0,rem0,hq0⟩:∃ q r,rem=q::r:=by
   cases rem with
   | nil=>simp at hlen
   | cons q r=>exact⟨q,r,rfl⟩
  refine⟨fun h0=>?_,fun i hi=>?_⟩
  ·exfalso
   have hg:=g
   rw [hq0,List.cons_append] at hg
   have:=first_ready hdown hg
   rw [h0] at this
   simp at this
  ·obtain⟨h1,o,ho,hall⟩:=mem_ready.1 hi
   have hio:l[i]? = some o:=by simpa using ho
   have hic:i < c:=by
    apply Classical.byContradiction
    intro hn
    have hq0c:q0.1 < c:=hrc q0 (by rw [hq0];exact List.mem_cons_self ..)
    have hrd:=reach_done g l.length i o (tailB_spec hT hio (by omega) (show q0.1 < i by omega)) hio hall
    have h3:=(g.left q0).1 (List.mem_append_left _ (by rw [hq0];exact List.mem_cons_self ..))
    have hs:q0.1 < listed.size:=by rw [g.size];exact lt_of_some h3.1
    have h4:=h3.2
    rw [getD_flip hs,hrd] at h4
    cases h4
   have hmem:(i,o)∈rem:=by
    rcases List.mem_append.1 ((g.left (i,o)).2 ⟨hio,h1⟩) with h|h
    ·exact h
    ·exfalso
     have:=((enumO_mem _ _ _).1 h).1
     simp only at this
     omega
   obtain⟨pre,post,hre⟩:=List.append_of_mem hmem
   have g0:=g
   rw [hre,List.append_assoc,List.cons_append] at g0
   have g':=g0.rest hi rfl hio
   rw [← List.append_assoc] at g'
   have hpull:DR Γ l κ ((i,o)::(pre++post)) lg K s:=by
    refine DR.pull pre lg s (fun q hq=>?_) (hre▸hd)
    have hqr:q∈rem++enumO c (l.drop c):=List.mem_append_left _ (by rw [hre];exact List.mem_append_left _ hq)
    obtain⟨hq1,hq2⟩:=(g.left q).1 hqr
    have hqi:q.1 < i:=by
     have hs:=g0.sorted
     rw [List.pairwise_append] at hs
     have:=hs.2.2 q hq (i,o) (List.mem_cons_self ..)
     simpa using this
    have hqs:q.1 < listed.size:=by rw [g.size];exact lt_of_some hq1
    have hq2':listed.getD q.1 false=false:=(getD_flip hqs).symm.trans hq2
    have e0:path2B l i q.1=false:=path2_false hio hall g.closed hq2'
    have e1:=path2_edge e0
    have e2:edgeB l q.1 i=false:=by
     cases hx:edgeB l q.1 i with
     | false=>rfl
     | true =>
      obtain⟨o',ho',e',he',hb',hon⟩:=edgeB_spec.1 hx
      have:=down_spec hdown q.1 o' ho' e' he' hb'
      omega
    refine⟨e0,e2,?_,fun hcq=>?_⟩
    ·unfold regPairB at hpair
     rw [List.all_eq_true] at hpair
     have p1:=hpair (i,o) ((enumO_mem l 0 (i,o)).2 ⟨Nat.zero_le _,by simpa using hio⟩)
     rw [List.all_eq_true] at p1
     have p2:=p1 q ((enumO_mem l 0 q).2 ⟨Nat.zero_le _,by simpa using hq1⟩)
     have hnb:Nat.ble i q.1=false:=by
      cases hb:Nat.ble i q.1 with
      | false=>rfl
      | true=>have:=Nat.le_of_ble_eq_true hb;omega
     simp only [hnb,Bool.false_or,e1] at p2
     exact p2
    ·cases hci:isCall o with
     | false=>rfl
     | true =>
      have:=calls_done g hcall hq1 hcq i o hio hci hqi hall
      rw [hq2'] at this
      cases this
   cases hpull with
   | cons cc S rd wr hm hl hne hn hk =>
    have hz:¬ D (κ + i):=by
     intro hx
     have:=(hD _ hx).2 i rfl
     have hin:i < listed.size:=by rw [g.size];exact lt_of_some hio
     rw [← getD_flip hin,h1] at this
     cases this
    refine Mv.sound hm hr ⟨κ + c,fun x hx=>(hD x hx).1⟩ hz hio Q _ fun v u a' w' e' hv hr'=>?_
    refine ih (listed.setIfInBounds i true) a' w' _ e' _ (pre++post) _ g' (fun q hq=>hrc q ?_) ?_ hr' (fun x hx=>?_) (hk v u hv)
    ·rw [hre];rcases List.mem_append.1 hq with h|h <;> simp [h]
    ·rw [hre] at hlen
     simp only [List.length_append,List.length_cons] at hlen ⊢
     omega
    ·have hin:i < listed.size:=by rw [g.size];exact lt_of_some hio
     rcases hx with hx|hx
     ·refine⟨(hD x hx).1,fun j hj=>?_⟩
      have:=(hD x hx).2 j hj
      by_cases hij:i=j
      ·subst hij;simp [hin]
      ·rw [getD_set_ne false hij];exact this
     ·subst hx
      refine⟨by omega,fun j hj=>?_⟩
      have:i=j:=by omega
      subst this
      simp [hin]
theorem dw_tail {id k m:Nat} {L:Sl} {H:Hp} {Q:Post} (c:Nat) (hm:Γ.P.follows .mixedOrders=true) (hB:regAnyB l=true) (hT:tailB l c=true) (hcl:Nat.ble c l.length=true) (hnd:noDefer l=true) (hl:lenIs (l.take c) k m)
  (h:DT Γ l k (enumO 0 (l.take c)) [] (endK Γ m (fun k' L' H'=>DS false Γ l (l.drop c) (Q .normal) k' L' H')) L H):DW Γ (.region id l.toArray true) Q k L H:=by
 have hcl:=Nat.le_of_ble_eq_true hcl
 have hmc:k + c=m:=by
  have:=lenIs_spec (l.take c) k m hl
  rw [List.length_take] at this
  omega
 subst hmc
 intro e a w mm
 refine wpIn_mono (wpIn_region_any hm (wpAny_in (letsOut_lift (Γ:=Γ) (K:=Q .normal)) hnd _ _ _ _ ?_)) (lift_mono (fun ex k' L' H' (⟨h1,h2⟩:onNormal (Q .normal) ex k' L' H')=>h1▸h2))
 have m0:=mm.below (w':={ w with drawn:=w.drawn + 1 }) ((Beld.refl _ _ _).drew)
 have hsp:enumO 0 (l.take c)++enumO c (l.drop c)=enumO 0 l:=by
  have:=enumO_app (l.take c) (l.drop c) 0
  rw [List.take_append_drop,List.length_take,Nat.zero_add,Nat.min_eq_left hcl] at this
  exact this.symm
 have hg:Going l (Array.replicate l.length false) (enumO 0 l):=by
  refine⟨by simp,fun j o hj hl=>?_,fun q=>?_,enumO_sorted l 0⟩
  ·have hlt:=lt_of_some hj
   simp [hlt] at hl
  ·rw [enumO_mem l 0 q]
   simp only [Nat.zero_le,Nat.sub_zero,true_and]
   constructor
   ·intro hq;exact⟨hq,by have:=lt_of_some hq;simp [this]⟩
   ·exact fun h=>h.1
 have hlenO:∀ (l:List Oper) b,(enumO b l).length=l.length:=by
  intro l
  induction l with
  | nil=>intro b;rfl
  | cons o l ih=>intro b;simp [enumO,ih]
 have hsize:l.toArray.size=c + (l.length - c):=by simp;omega
 rw [hsize]
 refine tail_sim hB hT hcl (K:=endK Γ (k + c) (fun k' L' H'=>DS false Γ l (l.drop c) (Q .normal) k' L' H')) (Q:=lift Γ (onNormal (Q .normal))) (fun s e a w hk hr=>?_) c _ a _ (ofL L H) e (lo k) (enumO 0 (l.take c)) [] (by rw [hsp,← hsize];simpa using hg) (fun q hq=>?_) (by rw [hlenO,List.length_take];omega) ⟨L,H,m0,rfl⟩ (fun x hx=>⟨Nat.lt_of_lt_of_le hx (Nat.le_add_right _ _),fun j hj=>?_⟩) h
 ·obtain⟨k',L',H',e',m',hq⟩:=hk e a w hr
  exact hq e' a w m'
 ·have h2:=((enumO_mem _ _ _).1 hq).2
  have:=lt_of_some h2
  rw [List.length_take] at this
  omega
 ·have:x < k:=hx
  omega
theorem dw_stopT (id:Nat) {k:Nat} {L:Sl} {H:Hp} {ops:Array Oper} {b:Bool} {Q:Post} (h:DW Γ (.region id ops b) Q k L H):DW Γ (.region id ops b) Q k L H:=h
end
end Go.Proofs.YtapciiffpnociacGreat

/- A plain logic over the walk: regions that draw their order, gone through in an order that is told: first such as can go in many orders, then such as can go in one alone. No program is named here. Condition: none. -/
namespace Go.Proofs.YtapciiffpnociacGreat
open Go Go.RowKit
section
variable {Γ : Ctx} {l : List Oper} {κ : Nat}
structure GoO (l:List Oper) (listed:Array Bool) (rem:List (Nat × Oper)):Prop where
 size:listed.size=l.length
 closed:∀ j o,l[j]? = some o→listed.getD j false=true→∀ e∈o.after,Region.binds .any e=true→listed.getD e.on false=true
 left:∀ q,q∈rem↔l[q.1]? = some q.2∧listed.getD q.1 true=false
 sorted:rem.Pairwise (fun p q=>p.1≠q.1∧edgeB l p.1 q.1=false)
theorem GoO.rest {listed:Array Bool} {rem pre post:List (Nat × Oper)} {i:Nat} {o:Oper} (g:GoO l listed rem) (hr:i∈Region.ready .any l.toArray listed) (he:rem=pre++(i,o)::post) (hi:l[i]? = some o):GoO l (listed.setIfInBounds i true) (pre++post) where
 size:=by simp [g.size]
 closed j oj hj hl e he' hb:=by
  have key:∀ x,listed.getD x false=true→(listed.setIfInBounds i true).getD x false=true:=by
   intro x hx
   by_cases hix:i=x
   ·subst hix
    have:i < listed.size:=by rw [g.size];exact lt_of_some hi
    simp [this]
   ·rw [getD_set_ne false hix];exact hx
  by_cases hij:i=j
  ·subst hij
   obtain⟨_,o',ho',hall⟩:=mem_ready.1 hr
   have ho2:l[i]? = some o':=by simpa using ho'
   rw [hj] at ho2
   cases ho2
   exact key _ (hall e he' hb)
  ·rw [getD_set_ne false hij] at hl
   exact key _ (g.closed j oj hj hl e he' hb)
 left q:=by
  have hs:=g.sorted
  rw [he] at hs
  have hne:∀ q∈pre++post,q.1≠i:=by
   intro q hq hqi
   rw [List.pairwise_append] at hs
   obtain⟨_,h2,h3⟩:=hs
   rcases List.mem_append.1 hq with h|h
   ·exact (h3 q h (i,o) (List.mem_cons_self ..)).1 hqi
   ·exact ((List.pairwise_cons.1 h2).1 q h).1 hqi.symm
  constructor
  ·intro hq
   have h1:q∈rem:=by rw [he];rcases List.mem_append.1 hq with h|h <;> simp [h]
   obtain⟨a,b⟩:=(g.left q).1 h1
   exact⟨a,by rw [getD_set_ne true (Ne.symm (hne q hq))];exact b⟩
  ·rintro⟨a,b⟩
   have hqi:i≠q.1:=by
    intro h
    have:i < listed.size:=by rw [g.size];exact lt_of_some hi
    rw [← h] at b
    simp [this] at b
   rw [getD_set_ne true hqi] at b
   have h1:=(g.left q).2 ⟨a,b⟩
   rw [he] at h1
   simp only [List.mem_append,List.mem_cons] at h1 ⊢
   rcases h1 with h|h|h
   ·exact .inl h
   ·exact absurd (by rw [h]) hqi
   ·exact .inr h
 sorted:=by
  have hs:=g.sorted
  rw [he] at hs
  exact hs.sublist (List.Sublist.append (List.Sublist.refl _) (List.sublist_cons_self _ _))
end
end Go.Proofs.YtapciiffpnociacGreat

/- Plain words on ways of a rule: values of terms, what is matched, what holds. No program is in sight. Condition: none. -/
namespace Go.Proofs.YtapciiffpnociacGreat
abbrev RE:=List (Option Int)
def vOf (e:RE) (t:Trm):Option Int:=if t.var < 0 then some t.n else e.getD t.var.toNat none
def vA (a:List Int) (t:Trm):Int:=if t.var < 0 then t.n else a.getD t.var.toNat 0
def hasE (e:RE):List Bool:=e.map Option.isSome
def outE (e:RE):List Int:=e.map fun x=>x.getD 0
def extE (e:RE) (a:List Int):Prop:=a.length=e.length∧∀ (v:Nat) (x:Int),e[v]? = some (some x)→a[v]? = some x
def matchE:RE→List Trm→List Int→Option RE
 | e,t::ts,n::ns=>match vOf e t with
  | some x=>if x=n then matchE e ts ns else none
  | none=>matchE (e.set t.var.toNat (some n)) ts ns
 | e,_,_=>some e
theorem hasE_len (e:RE):(hasE e).length=e.length:=List.length_map _
theorem outE_len (e:RE):(outE e).length=e.length:=List.length_map _
theorem isT_hasE (e:RE) (t:Trm):isT (hasE e) t=(vOf e t).isSome:=by
 unfold isT vOf hasE
 by_cases h:t.var < 0
 ·simp [h]
 ·simp only [h,decide_false,Bool.false_or,if_false,List.getD,List.getElem?_map]
  cases e[t.var.toNat]? <;> rfl
theorem vOf_out {e:RE} {t:Trm} {x:Int} (h:vOf e t=some x):vA (outE e) t=x:=by
 unfold vOf at h
 unfold vA outE
 by_cases hv:t.var < 0
 ·simp [hv] at h ⊢;exact h
 ·simp only [hv,if_false,List.getD,List.getElem?_map] at h ⊢
  cases he:e[t.var.toNat]? with
  | none=>rw [he] at h;simp at h
  | some y=>rw [he] at h;simp at h;subst h;rfl
theorem vOf_ext {e:RE} {a:List Int} {t:Trm} {x:Int} (h:extE e a) (hx:vOf e t=some x):vA a t=x:=by
 unfold vOf at hx
 unfold vA
 by_cases hv:t.var < 0
 ·simp [hv] at hx ⊢;exact hx
 ·simp only [hv,if_false,List.getD] at hx ⊢
  cases he:e[t.var.toNat]? with
  | none=>rw [he] at hx;simp at hx
  | some y =>
   rw [he] at hx
   simp at hx
   subst hx
   rw [h.2 _ _ he];rfl
theorem vA_same {e:RE} {a:List Int} {t:Trm} (h:extE e a) (hx:(vOf e t).isSome=true):vA a t=vA (outE e) t:=by
 obtain⟨x,hx⟩:=Option.isSome_iff_exists.1 hx
 rw [vOf_ext h hx,vOf_out hx]
theorem set_ext' {e:RE} {a:List Int} {t:Trm} {n:Int} (ho:okT e.length t) (hn:vOf e t=none):extE (e.set t.var.toNat (some n)) a↔extE e a∧vA a t=n:=by
 unfold vOf at hn
 unfold okT at ho
 have hv:¬ t.var < 0:=fun h=>by simp [h] at hn
 simp only [hv,if_false,List.getD] at hn
 have hlt:t.var.toNat < e.length:=by omega
 have he:e[t.var.toNat]? = some none:=by
  rw [List.getElem?_eq_getElem hlt] at hn ⊢
  simpa using hn
 unfold extE vA
 rw [List.length_set]
 simp only [hv,if_false]
 constructor
 ·rintro⟨h1,h2⟩
  have h3:=h2 t.var.toNat n (by rw [List.getElem?_set_self hlt])
  refine⟨⟨h1,fun v x hx=>?_⟩,by rw [List.getD,h3];rfl⟩
  by_cases hq:t.var.toNat=v
  ·subst hq;rw [he] at hx;cases hx
  ·exact h2 v x (by rw [List.getElem?_set_ne hq];exact hx)
 ·rintro⟨⟨h1,h2⟩,h3⟩
  refine⟨h1,fun v x hx=>?_⟩
  by_cases hq:t.var.toNat=v
  ·subst hq
   rw [List.getElem?_set_self hlt] at hx
   simp at hx
   subst hx
   rw [List.getD,List.getElem?_eq_getElem (by omega)] at h3
   rw [List.getElem?_eq_getElem (by omega)]
   simpa using h3
  ·exact h2 v x (by rw [List.getElem?_set_ne hq] at hx;exact hx)
theorem set_has {e:RE} {t:Trm} {n:Int} (hn:vOf e t=none):hasE (e.set t.var.toNat (some n))=setT (hasE e) t:=by
 have hv:¬ t.var < 0:=fun h=>by unfold vOf at hn;simp [h] at hn
 unfold hasE setT
 rw [if_neg hv,List.map_set];rfl
theorem matchE_some:∀ {ts:List Trm} {ns:List Int} {e e':RE},ts.length=ns.length→(∀ t∈ts,okT e.length t)→matchE e ts ns=some e' →
  e'.length=e.length∧(∀ a,extE e' a↔extE e a∧ts.map (vA a)=ns)∧hasE e' = ts.foldl setT (hasE e)
 | [],[],e,e',_,_,h=>by
  simp only [matchE,Option.some.injEq] at h
  subst h
  exact⟨rfl,fun a=>by simp,rfl⟩
 | t::ts,n::ns,e,e',hl,ho,h=>by
  have hl':ts.length=ns.length:=by simpa using hl
  rw [matchE] at h
  cases hv:vOf e t with
  | some x =>
   rw [hv] at h
   simp only at h
   split at h
   ·rename_i hx
    subst hx
    obtain⟨h1,h2,h3⟩:=matchE_some hl' (fun y hy=>ho y (List.mem_cons_of_mem _ hy)) h
    refine⟨h1,fun a=>?_,?_⟩
    ·rw [h2,List.map_cons,List.cons.injEq]
     exact⟨fun⟨g1,g2⟩=>⟨g1,vOf_ext g1 hv,g2⟩,fun⟨g1,_,g2⟩=>⟨g1,g2⟩⟩
    ·rw [h3,List.foldl_cons,setT_same (by rw [isT_hasE,hv];rfl)]
   ·cases h
  | none =>
   rw [hv] at h
   simp only at h
   obtain⟨h1,h2,h3⟩:=matchE_some hl' (fun y hy=>by rw [List.length_set];exact ho y (List.mem_cons_of_mem _ hy)) h
   refine⟨by rw [h1,List.length_set],fun a=>?_,?_⟩
   ·rw [h2,set_ext' (ho t (List.mem_cons_self ..)) hv,List.map_cons,List.cons.injEq,and_assoc]
   ·rw [h3,List.foldl_cons,set_has hv]
 | [],_::_,_,_,hl,_,_=>by simp at hl
 | _::_,[],_,_,hl,_,_=>by simp at hl
theorem matchE_none:∀ {ts:List Trm} {ns:List Int} {e:RE},ts.length=ns.length→(∀ t∈ts,okT e.length t)→matchE e ts ns=none→∀ a,extE e a→ts.map (vA a)≠ns
 | [],[],e,_,_,h,_,_=>by simp [matchE] at h
 | t::ts,n::ns,e,hl,ho,h,a,ha=>by
  have hl':ts.length=ns.length:=by simpa using hl
  rw [matchE] at h
  intro hm
  rw [List.map_cons,List.cons.injEq] at hm
  cases hv:vOf e t with
  | some x =>
   rw [hv] at h
   simp only at h
   split at h
   ·exact matchE_none hl' (fun y hy=>ho y (List.mem_cons_of_mem _ hy)) h a ha hm.2
   ·rename_i hx
    exact hx ((vOf_ext ha hv).symm.trans hm.1)
  | none =>
   rw [hv] at h
   simp only at h
   exact matchE_none hl' (fun y hy=>by rw [List.length_set];exact ho y (List.mem_cons_of_mem _ hy)) h a ((set_ext' (ho t (List.mem_cons_self ..)) hv).2 ⟨ha,hm.1⟩) hm.2
 | [],_::_,_,hl,_,_,_,_=>by simp at hl
 | _::_,[],_,hl,_,_,_,_=>by simp at hl
def testE (op a b:Int):Bool:=if op=1 then decide (a < b) else if op=2 then decide (a≤b) else if op=3 then decide (a=b) else decide (a≠b)
def calcE (op a b:Int):Int:=if op=5 then a + b else if op=6 then a - b else a * b
def calcL (l:Ltl) (a:List Int):Int:=calcE l.op ((l.terms.map (vA a)).getD 0 0) ((l.terms.map (vA a)).getD 1 0)
def holdE (S:List Fct) (l:Ltl) (a:List Int):Bool :=
 if l.kind=1 then hasF S ⟨l.pred,l.terms.map (vA a)⟩
 else if l.kind=2 then !hasF S ⟨l.pred,l.terms.map (vA a)⟩
 else if l.kind=3 then testE l.op ((l.terms.map (vA a)).getD 0 0) ((l.terms.map (vA a)).getD 1 0)
 else numB (calcL l a) && decide (calcL l a=(l.terms.map (vA a)).getD 2 0)
theorem map_same {e:RE} {a:List Int} (h:extE e a) {ts:List Trm} (hr:∀ t∈ts,(vOf e t).isSome=true):ts.map (vA a)=ts.map (vA (outE e)) :=
 List.map_congr_left fun t ht=>vA_same h (hr t ht)
theorem holdE_same {S:List Fct} {l:Ltl} {e:RE} {a:List Int} (h:extE e a) (hr:∀ t∈l.terms,(vOf e t).isSome=true):holdE S l a=holdE S l (outE e):=by
 unfold holdE calcL
 rw [map_same h hr]
structure okL (S:List Fct) (v:Nat) (l:Ltl):Prop where
 kind:1≤l.kind∧l.kind≤4
 terms:∀ t∈l.terms,okT v t
 test2:l.kind=3→l.terms.length=2
 calc3:l.kind=4→l.terms.length=3
 facts:l.kind=1→∀ x∈S,x.pred=l.pred→x.args.length=l.terms.length
def closedB (body:List Ltl) (bs:List Bool):Prop:=∀ l∈body,firesB bs l=true→∀ t∈litTs l,isT bs t=true
def Bd (body:List Ltl) (bs:List Bool):Prop:=∀ cs,leB bs cs→closedB body cs→∀ v,v < cs.length→cs.getD v false=true
theorem full_out {e:RE} (h:∀ v,v < (hasE e).length→(hasE e).getD v false=true) (a:List Int):extE e a↔a=outE e:=by
 rw [hasE_len] at h
 have he:∀ v,v < e.length→∃ x,e[v]? = some (some x):=fun v hv=>by
  have:=h v hv
  unfold hasE at this
  rw [List.getD,List.getElem?_map,List.getElem?_eq_getElem hv] at this
  simp at this
  obtain⟨x,hx⟩:=Option.isSome_iff_exists.1 this
  exact⟨x,by rw [List.getElem?_eq_getElem hv,hx]⟩
 constructor
 ·rintro⟨h1,h2⟩
  refine List.ext_getElem? fun v=>?_
  by_cases hv:v < e.length
  ·obtain⟨x,hx⟩:=he v hv
   rw [h2 v x hx]
   unfold outE
   rw [List.getElem?_map,hx];rfl
  ·rw [List.getElem?_eq_none (by omega),List.getElem?_eq_none (by rw [outE_len];omega)]
 ·rintro rfl
  refine⟨outE_len e,fun v x hx=>?_⟩
  unfold outE
  rw [List.getElem?_map,hx];rfl
theorem full_some {e:RE} (h:∀ v,v < (hasE e).length→(hasE e).getD v false=true) {t:Trm} (ho:okT e.length t):(vOf e t).isSome=true:=by
 rw [← isT_hasE]
 unfold isT
 unfold okT at ho
 by_cases hv:t.var < 0
 ·rw [decide_eq_true hv];rfl
 ·rw [h _ (by rw [hasE_len];omega),Bool.or_true]
end Go.Proofs.YtapciiffpnociacGreat

/- The document's CalcOf, isReady, ArgsOf. Condition: none. -/
namespace Go.Proofs.YtapciiffpnociacGreat
open Go Go.RowKit
theorem numB_iff {n:Int}:numB n=true↔-1000000≤n∧n≤1000000:=by unfold numB inR;simp
theorem mul_small {a b:Int} (ha:-1000000≤a∧a≤1000000) (hb:-1000000≤b∧b≤1000000):-1000000000000≤a * b∧a * b≤1000000000000:=by
 have h1:a.natAbs≤1000000:=by omega
 have h2:b.natAbs≤1000000:=by omega
 have h3:(a * b).natAbs≤1000000 * 1000000:=by rw [Int.natAbs_mul];exact Nat.mul_le_mul h1 h2
 omega
attribute [local irreducible] DW DS DL DQ Ev FnOk FnP thenD inBlockD DT
set_option maxHeartbeats 8000000 in
theorem calcOf_fn (op a b:Int) (ha:-1000000≤a∧a≤1000000) (hb:-1000000≤b∧b≤1000000):Fn 55 [.d (.int .i64 op),.d (.int .i64 a),.d (.int .i64 b)] (fun r=>r = .d (.int .i64 (calcE op a b))):=by
 refine fnp_enter' _ Tryz.func55 rfl rfl (by kernel_rfl) ?_
 intro O w0 E0 β0
 have hm:=mul_small ha hb
 unfold calcE
 by_cases h5:op=5
 ·rw [if_pos h5]
  repeat' (first|refine z0 ?_|apply ds_nil|apply dw_seq2|refine z16 ?_|apply dw_skip|apply dw_ret|apply thenD_n|apply thenD_r|(refine z23 ?_ ?_ <;> intro hg)|fail)
  all_goals try (exfalso;omega)
  all_goals exact⟨.inl rfl,_,rfl,rfl,rfl⟩
 ·rw [if_neg h5]
  by_cases h6:op=6
  ·rw [if_pos h6]
   repeat' (first|refine z0 ?_|apply ds_nil|apply dw_seq2|refine z16 ?_|apply dw_skip|apply dw_ret|apply thenD_n|apply thenD_r|(refine z23 ?_ ?_ <;> intro hg)|fail)
   all_goals try (exfalso;omega)
   all_goals exact⟨.inl rfl,_,rfl,rfl,rfl⟩
  ·rw [if_neg h6]
   repeat' (first|refine z0 ?_|apply ds_nil|apply dw_seq2|refine z16 ?_|apply dw_skip|apply dw_ret|apply thenD_n|apply thenD_r|(refine z23 ?_ ?_ <;> intro hg)|fail)
   all_goals try (exfalso;omega)
   exact⟨.inl rfl,_,rfl,rfl,rfl⟩
set_option maxHeartbeats 8000000 in
theorem isReady_fn (l:List Trm) (bs:List Bool) (hok:∀ t∈l,okT bs.length t):Fn 201 [.d (.slice 2 (l.map encTrm)),.d (.slice 1 (bs.map encBl))] (fun r=>r = .d (.bool (l.all (isT bs)))):=by
 refine fnp_enter' _ Tryz.func201 rfl rfl (by kernel_rfl) ?_
 intro O w0 E0 β0
 have ll:(l.map encTrm).length=l.length:=List.length_map _
 have lb:(bs.map encBl).length=bs.length:=List.length_map _
 refine dw_len (t:=0) rfl (fun hk=>?_)
 repeat' (first|refine z0 ?_|apply ds_nil|apply dw_seq2|refine z16 ?_|apply dw_block|apply thenD_n)
 refine ds_loop (ι:=Nat) (fun i=>⟨0,[(0,.d (.slice 2 (l.map encTrm))),(1,.d (.slice 1 (bs.map encBl))),(5,.d (.int .i64 i))],[]⟩)
  (fun i=>i≤l.length∧l.all (isT bs)=(l.drop i).all (isT bs)) (fun i=>l.length - i) 0 ⟨Nat.zero_le _,rfl⟩ (ent_ren id ⟨rfl,rfl,rfl,trivial⟩ trivial rfl rfl rfl rfl rfl rfl) ?_
 rintro i ⟨g1,g2⟩
 dsimp only at g1 g2 ⊢
 by_cases hi:i < l.length
 ·have ho:=hok l[i] (List.getElem_mem hi)
  unfold okT at ho
  rw [List.drop_eq_getElem_cons hi,List.all_cons] at g2
  by_cases hv:l[i].var < 0
  ·have ht:isT bs l[i]=true:=by unfold isT;rw [decide_eq_true hv];rfl
   rw [ht,Bool.true_and] at g2
   repeat' (first|refine z0 ?_|refine z12 ?_|apply ds_nil|apply dw_seq2|refine z16 ?_|apply dw_block|apply dw_skip|apply dw_exit|refine z19 ?_|apply thenD_n|apply thenD_e|apply inB_n|refine z17 ?_|(refine z23 ?_ ?_ <;> intro hg)|(apply dw_cond;exact rfl;all_goals intro hg)|((fail_if_success (apply ds_known;exact rfl));apply ds_guardP;exact rfl;exact rfl;exact rfl;all_goals intro hg))
   all_goals try (exfalso;omega)
   all_goals exact⟨i + 1,⟨hi,g2⟩,ent_ren id ⟨rfl,rfl,rfl,trivial⟩ trivial rfl rfl rfl rfl rfl rfl,by omega⟩
  ·have hlt:l[i].var.toNat < bs.length:=by omega
   have hve:l[i].var=((l[i].var.toNat:Nat):Int):=by omega
   have ht:isT bs l[i]=bs[l[i].var.toNat]:=by
    unfold isT
    rw [decide_eq_false hv,Bool.false_or,List.getD,List.getElem?_eq_getElem hlt];rfl
   rw [ht] at g2
   cases hb:bs[l[i].var.toNat] with
   | false =>
    rw [hb,Bool.false_and] at g2
    rw [g2]
    repeat' (first|refine z0 ?_|refine z12 ?_|apply ds_nil|apply dw_seq2|refine z16 ?_|apply dw_block|apply dw_skip|apply dw_exit|apply dw_ret|refine z19 ?_|apply thenD_n|apply thenD_e|apply thenD_r|apply inB_n|apply inB_r|refine z17 ?_|(refine z23 ?_ ?_ <;> intro hg)|(apply dw_cond;exact rfl;all_goals intro hg)|((fail_if_success (apply ds_known;exact rfl));apply ds_guardP;exact rfl;exact rfl;exact rfl;all_goals intro hg))
    all_goals try (exfalso;omega)
    all_goals try (exfalso;rw [hb] at hg;cases hg;done)
    exact⟨.inl rfl,_,rfl,rfl,rfl⟩
   | true =>
    rw [hb,Bool.true_and] at g2
    repeat' (first|refine z0 ?_|refine z12 ?_|apply ds_nil|apply dw_seq2|refine z16 ?_|apply dw_block|apply dw_skip|apply dw_exit|refine z19 ?_|apply thenD_n|apply thenD_e|apply inB_n|refine z17 ?_|(refine z23 ?_ ?_ <;> intro hg)|(apply dw_cond;exact rfl;all_goals intro hg)|((fail_if_success (apply ds_known;exact rfl));apply ds_guardP;exact rfl;exact rfl;exact rfl;all_goals intro hg))
    all_goals try (exfalso;omega)
    all_goals try (exfalso;rw [hb] at hg;cases hg;done)
    exact⟨i + 1,⟨hi,g2⟩,ent_ren id ⟨rfl,rfl,rfl,trivial⟩ trivial rfl rfl rfl rfl rfl rfl,by omega⟩
 ·rw [List.drop_of_length_le (by omega)] at g2
  rw [g2]
  repeat' (first|refine z0 ?_|refine z12 ?_|apply ds_nil|apply dw_seq2|refine z16 ?_|apply dw_block|apply dw_skip|apply dw_exit|apply dw_ret|refine z19 ?_|apply thenD_n|apply thenD_e|apply thenD_r|apply inB_n|apply inB_r|refine z17 ?_|(refine z23 ?_ ?_ <;> intro hg)|(apply dw_cond;exact rfl;all_goals intro hg)|((fail_if_success (apply ds_known;exact rfl));apply ds_guardP;exact rfl;exact rfl;exact rfl;all_goals intro hg))
  all_goals try (exfalso;omega)
  exact⟨.inl rfl,_,rfl,rfl,rfl⟩
set_option maxHeartbeats 8000000 in
theorem isReadyR_fn (l:List Trm) (bs:List Bool) (hok:∀ t∈l,okT bs.length t):FnOk false Tryz.prog tab tab_ok 201 [.d (.slice 2 (l.map encTrm)),.row 0] 1 1 [(0,.row 4 1 (bs.map encBl))] (fun _ r H=>r = .d (.bool (l.all (isT bs)))∧H=[(0,.row 4 1 (bs.map encBl))]):=by
 refine fn_enterR _ Tryz.func201 rfl rfl (by kernel_rfl) ?_
 intro O w0 E0 β0
 have ll:(l.map encTrm).length=l.length:=List.length_map _
 have lb:(bs.map encBl).length=bs.length:=List.length_map _
 refine dw_len (t:=0) rfl (fun hk=>?_)
 repeat' (first|refine z0 ?_|apply ds_nil|apply dw_seq2|refine z16 ?_|apply dw_block|apply thenD_n)
 refine ds_loop (ι:=Nat) (fun i=>⟨1,[(0,.d (.slice 2 (l.map encTrm))),(1,.row 0),(5,.d (.int .i64 i))],[(0,.row 4 1 (bs.map encBl))]⟩)
  (fun i=>i≤l.length∧l.all (isT bs)=(l.drop i).all (isT bs)) (fun i=>l.length - i) 0 ⟨Nat.zero_le _,rfl⟩ (ent_ren id ⟨rfl,rfl,rfl,trivial⟩ ⟨rfl,trivial⟩ rfl rfl rfl rfl rfl rfl) ?_
 rintro i ⟨g1,g2⟩
 dsimp only at g1 g2 ⊢
 by_cases hi:i < l.length
 ·have ho:=hok l[i] (List.getElem_mem hi)
  unfold okT at ho
  rw [List.drop_eq_getElem_cons hi,List.all_cons] at g2
  by_cases hv:l[i].var < 0
  ·have ht:isT bs l[i]=true:=by unfold isT;rw [decide_eq_true hv];rfl
   rw [ht,Bool.true_and] at g2
   repeat' (first|refine z0 ?_|refine z12 ?_|apply ds_nil|apply dw_seq2|refine z16 ?_|apply dw_block|apply dw_skip|apply dw_exit|refine z19 ?_|apply thenD_n|apply thenD_e|apply inB_n|refine z17 ?_|(refine z23 ?_ ?_ <;> intro hg)|(apply dw_cond;exact rfl;all_goals intro hg)|((fail_if_success (apply ds_known;exact rfl));apply ds_guardP;exact rfl;exact rfl;exact rfl;all_goals intro hg))
   all_goals try (exfalso;omega)
   all_goals exact⟨i + 1,⟨hi,g2⟩,ent_ren id ⟨rfl,rfl,rfl,trivial⟩ ⟨rfl,trivial⟩ rfl rfl rfl rfl rfl rfl,by omega⟩
  ·have hlt:l[i].var.toNat < bs.length:=by omega
   have hve:l[i].var=((l[i].var.toNat:Nat):Int):=by omega
   have ht:isT bs l[i]=bs[l[i].var.toNat]:=by
    unfold isT
    rw [decide_eq_false hv,Bool.false_or,List.getD,List.getElem?_eq_getElem hlt];rfl
   rw [ht] at g2
   cases hb:bs[l[i].var.toNat] with
   | false =>
    rw [hb,Bool.false_and] at g2
    rw [g2]
    repeat' (first|refine z0 ?_|refine z12 ?_|apply ds_nil|apply dw_seq2|refine z16 ?_|apply dw_block|apply dw_skip|apply dw_exit|apply dw_ret|refine z19 ?_|apply thenD_n|apply thenD_e|apply thenD_r|apply inB_n|apply inB_r|refine z17 ?_|(refine z23 ?_ ?_ <;> intro hg)|(apply dw_cond;exact rfl;all_goals intro hg)|((fail_if_success (apply ds_known;exact rfl));apply ds_guardP;exact rfl;exact rfl;exact rfl;all_goals intro hg))
    all_goals try (exfalso;omega)
    all_goals try (exfalso;rw [hb] at hg;cases hg;done)
    exact⟨.inl rfl,_,rfl,id,1,_,[(0,.row 4 1 (bs.map encBl))],rfl,⟨rfl,trivial⟩,rfl,rfl,rfl,rfl,rfl,rfl,rfl,rfl⟩
   | true =>
    rw [hb,Bool.true_and] at g2
    repeat' (first|refine z0 ?_|refine z12 ?_|apply ds_nil|apply dw_seq2|refine z16 ?_|apply dw_block|apply dw_skip|apply dw_exit|refine z19 ?_|apply thenD_n|apply thenD_e|apply inB_n|refine z17 ?_|(refine z23 ?_ ?_ <;> intro hg)|(apply dw_cond;exact rfl;all_goals intro hg)|((fail_if_success (apply ds_known;exact rfl));apply ds_guardP;exact rfl;exact rfl;exact rfl;all_goals intro hg))
    all_goals try (exfalso;omega)
    all_goals try (exfalso;rw [hb] at hg;cases hg;done)
    exact⟨i + 1,⟨hi,g2⟩,ent_ren id ⟨rfl,rfl,rfl,trivial⟩ ⟨rfl,trivial⟩ rfl rfl rfl rfl rfl rfl,by omega⟩
 ·rw [List.drop_of_length_le (by omega)] at g2
  rw [g2]
  repeat' (first|refine z0 ?_|refine z12 ?_|apply ds_nil|apply dw_seq2|refine z16 ?_|apply dw_block|apply dw_skip|apply dw_exit|apply dw_ret|refine z19 ?_|apply thenD_n|apply thenD_e|apply thenD_r|apply inB_n|apply inB_r|refine z17 ?_|(refine z23 ?_ ?_ <;> intro hg)|(apply dw_cond;exact rfl;all_goals intro hg)|((fail_if_success (apply ds_known;exact rfl));apply ds_guardP;exact rfl;exact rfl;exact rfl;all_goals intro hg))
  all_goals try (exfalso;omega)
  exact⟨.inl rfl,_,rfl,id,1,_,[(0,.row 4 1 (bs.map encBl))],rfl,⟨rfl,trivial⟩,rfl,rfl,rfl,rfl,rfl,rfl,rfl,rfl⟩
set_option maxHeartbeats 8000000 in
theorem argsOf_fn (l:List Trm) (a:List Int) (hok:∀ t∈l,okT a.length t) (hl:l.length≤4398046511104):Fn 54 [.d (.slice 2 (l.map encTrm)),.d (.slice 1 (a.map encI))] (fun r=>r = .d (.slice 1 ((l.map (vA a)).map encI))):=by
 refine fnp_enter' _ Tryz.func54 rfl rfl (by kernel_rfl) ?_
 intro O w0 E0 β0
 have ll:(l.map encTrm).length=l.length:=List.length_map _
 have la:(a.map encI).length=a.length:=List.length_map _
 repeat' (first|refine z0 ?_|apply ds_nil|apply dw_seq2|refine z16 ?_|apply dw_block|apply thenD_n)
 refine dw_ent (ent_nilrow (t:=5) 3 1 rfl) ?_
 refine ds_loop (ι:=Nat) (fun i=>⟨1,[(0,.d (.slice 2 (l.map encTrm))),(1,.d (.slice 1 (a.map encI))),(5,.row 0),(6,.d (.int .i64 i))],(0,.row 3 1 (((l.take i).map (vA a)).map encI))::[]⟩)
  (fun i=>i≤l.length) (fun i=>l.length - i) 0 (Nat.zero_le _) (ent_ren id ⟨rfl,rfl,rfl,rfl,trivial⟩ ⟨rfl,trivial⟩ rfl rfl rfl rfl rfl rfl) ?_
 intro i g1
 by_cases hi:i < l.length
 ·have ho:=hok l[i] (List.getElem_mem hi)
  unfold okT at ho
  have lr:(((l.take i).map (vA a)).map encI).length=i:=by rw [List.length_map,List.length_map,List.length_take];omega
  have hst:((l.take (i + 1)).map (vA a)).map encI=((l.take i).map (vA a)).map encI++[encI (vA a l[i])]:=by rw [List.take_succ_eq_append_getElem hi,List.map_append,List.map_append];rfl
  by_cases hv:l[i].var < 0
  ·have ht:vA a l[i]=l[i].n:=by unfold vA;rw [if_pos hv]
   rw [ht] at hst
   repeat' (first|refine z0 ?_|apply ds_nil|apply dw_seq2|refine z16 ?_|apply dw_block|apply dw_skip|apply dw_exit|apply thenD_n|apply thenD_e|apply inB_n|refine z17 ?_|refine z4 ?_|refine z2 ?_|(refine z23 ?_ ?_ <;> intro hg)|fail)
   all_goals try (exfalso;omega)
   exact⟨i + 1,by omega,ent_ren (fun _=>1) ⟨rfl,rfl,rfl,rfl,trivial⟩ ⟨by rw [hst];rfl,trivial⟩ rfl rfl rfl rfl rfl rfl,by omega⟩
  ·have hlt:l[i].var.toNat < a.length:=by omega
   have ht:vA a l[i]=a[l[i].var.toNat]:=by
    unfold vA
    rw [if_neg hv,List.getD,List.getElem?_eq_getElem hlt];rfl
   rw [ht] at hst
   repeat' (first|refine z0 ?_|apply ds_nil|apply dw_seq2|refine z16 ?_|apply dw_block|apply dw_skip|apply dw_exit|apply thenD_n|apply thenD_e|apply inB_n|refine z17 ?_|refine z4 ?_|refine z2 ?_|(refine z23 ?_ ?_ <;> intro hg)|fail)
   all_goals try (exfalso;omega)
   exact⟨i + 1,by omega,ent_ren (fun _=>1) ⟨rfl,rfl,rfl,rfl,trivial⟩ ⟨by rw [hst];rfl,trivial⟩ rfl rfl rfl rfl rfl rfl,by omega⟩
 ·rw [List.take_of_length_le (by omega)]
  repeat' (first|refine z0 ?_|apply ds_nil|apply dw_seq2|refine z16 ?_|apply dw_block|apply dw_skip|apply dw_exit|apply thenD_n|apply thenD_e|apply inB_n|refine z17 ?_|refine z4 ?_|refine z2 ?_|(refine z23 ?_ ?_ <;> intro hg)|fail)
  all_goals try (exfalso;omega)
  refine dw_ent (ent_seal 4 rfl rfl rfl) ?_
  repeat' (apply dw_ret)
  exact⟨.inl rfl,_,rfl,rfl,rfl⟩
set_option maxHeartbeats 8000000 in
theorem argsOfR_fn (l:List Trm) (a:List Int) (hok:∀ t∈l,okT a.length t) (hl:l.length≤4398046511104):FnOk false Tryz.prog tab tab_ok 54 [.d (.slice 2 (l.map encTrm)),.row 0] 1 1 [(0,.row 3 1 (a.map encI))] (fun _ r H=>r = .d (.slice 1 ((l.map (vA a)).map encI))∧H=[(0,.row 3 1 (a.map encI))]):=by
 refine fn_enterR _ Tryz.func54 rfl rfl (by kernel_rfl) ?_
 intro O w0 E0 β0
 have ll:(l.map encTrm).length=l.length:=List.length_map _
 have la:(a.map encI).length=a.length:=List.length_map _
 repeat' (first|refine z0 ?_|apply ds_nil|apply dw_seq2|refine z16 ?_|apply dw_block|apply thenD_n)
 refine dw_ent (ent_nilrow (t:=5) 3 1 rfl) ?_
 refine ds_loop (ι:=Nat) (fun i=>⟨2,[(0,.d (.slice 2 (l.map encTrm))),(1,.row 0),(5,.row 1),(6,.d (.int .i64 i))],(1,.row 3 1 (((l.take i).map (vA a)).map encI))::[(0,.row 3 1 (a.map encI))]⟩)
  (fun i=>i≤l.length) (fun i=>l.length - i) 0 (Nat.zero_le _) (ent_ren id ⟨rfl,rfl,rfl,rfl,trivial⟩ ⟨rfl,⟨rfl,trivial⟩⟩ rfl rfl rfl rfl rfl rfl) ?_
 intro i g1
 by_cases hi:i < l.length
 ·have ho:=hok l[i] (List.getElem_mem hi)
  unfold okT at ho
  have lr:(((l.take i).map (vA a)).map encI).length=i:=by rw [List.length_map,List.length_map,List.length_take];omega
  have hst:((l.take (i + 1)).map (vA a)).map encI=((l.take i).map (vA a)).map encI++[encI (vA a l[i])]:=by rw [List.take_succ_eq_append_getElem hi,List.map_append,List.map_append];rfl
  by_cases hv:l[i].var < 0
  ·have ht:vA a l[i]=l[i].n:=by unfold vA;rw [if_pos hv]
   rw [ht] at hst
   repeat' (first|refine z0 ?_|apply ds_nil|apply dw_seq2|refine z16 ?_|apply dw_block|apply dw_skip|apply dw_exit|apply thenD_n|apply thenD_e|apply inB_n|refine z17 ?_|refine z4 ?_|refine z2 ?_|(refine z23 ?_ ?_ <;> intro hg)|fail)
   all_goals try (exfalso;omega)
   exact⟨i + 1,by omega,ent_ren (fun j=>match j with|1=>2|j=>j) ⟨rfl,rfl,rfl,rfl,trivial⟩ ⟨by rw [hst];rfl,⟨rfl,trivial⟩⟩ rfl rfl rfl rfl rfl rfl,by omega⟩
  ·have hlt:l[i].var.toNat < a.length:=by omega
   have ht:vA a l[i]=a[l[i].var.toNat]:=by
    unfold vA
    rw [if_neg hv,List.getD,List.getElem?_eq_getElem hlt];rfl
   rw [ht] at hst
   repeat' (first|refine z0 ?_|apply ds_nil|apply dw_seq2|refine z16 ?_|apply dw_block|apply dw_skip|apply dw_exit|apply thenD_n|apply thenD_e|apply inB_n|refine z17 ?_|refine z4 ?_|refine z2 ?_|(refine z23 ?_ ?_ <;> intro hg)|fail)
   all_goals try (exfalso;omega)
   exact⟨i + 1,by omega,ent_ren (fun j=>match j with|1=>2|j=>j) ⟨rfl,rfl,rfl,rfl,trivial⟩ ⟨by rw [hst];rfl,⟨rfl,trivial⟩⟩ rfl rfl rfl rfl rfl rfl,by omega⟩
 ·rw [List.take_of_length_le (by omega)]
  repeat' (first|refine z0 ?_|apply ds_nil|apply dw_seq2|refine z16 ?_|apply dw_block|apply dw_skip|apply dw_exit|apply thenD_n|apply thenD_e|apply inB_n|refine z17 ?_|refine z4 ?_|refine z2 ?_|(refine z23 ?_ ?_ <;> intro hg)|fail)
  all_goals try (exfalso;omega)
  refine dw_ent (ent_seal 4 rfl rfl rfl) ?_
  repeat' (apply dw_ret)
  exact⟨.inl rfl,_,rfl,id,1,_,[(0,.row 3 1 (a.map encI))],rfl,⟨rfl,trivial⟩,rfl,rfl,rfl,rfl,rfl,rfl,rfl,rfl⟩
end Go.Proofs.YtapciiffpnociacGreat
