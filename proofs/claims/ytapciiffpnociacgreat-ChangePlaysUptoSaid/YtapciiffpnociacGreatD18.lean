/- Several texts in one: RuN RuO StrP StrQ StrN MoQ StrL. Condition: none. -/
import Derived.Test.YtapciiffpnociacGreatD17
import Derived.Test.YtapciiffpnociacGreatD12
import Derived.Test.YtapciiffpnociacGreatD08
import Derived.Test.YtapciiffpnociacGreatD10

/- The document's HeadsOf. Condition: none. -/
namespace Go.Proofs.YtapciiffpnociacGreat
open Go Go.RowKit
structure HeadOk (arity:List Int) (r:Rul) (ways:List (List Int)):Prop where
 rul:RulR arity r
 many:ways.length≤2000
 len:∀ w∈ways,w.length=r.vars.toNat
 nums:∀ w∈ways,∀ y∈w,-1000000≤y∧y≤1000000
 tlen:r.terms.length≤3
def headD (r:Rul) (ways:List (List Int)) (w:List Int):Option Fct:=if r.fold=0 then some ⟨r.pred,aW r w⟩
 else if numB (foldN r.fold (grpL (ways.map (pW r)) (pW r w).1)) then some ⟨r.pred,(pW r w).1++[foldN r.fold (grpL (ways.map (pW r)) (pW r w).1)]⟩ else none
theorem headsD_eq (r:Rul) (ways:List (List Int)):headsD r ways=ways.filterMap (headD r ways):=by
 unfold headsD
 by_cases h:r.fold=0
 ·rw [if_pos h,← List.filterMap_eq_map]
  congr 1
  funext w
  unfold headD
  rw [if_pos h];rfl
 ·rw [if_neg h]
  congr 1
  funext w
  unfold headD
  rw [if_neg h]
theorem HeadOk.terms {arity:List Int} {r:Rul} {ways:List (List Int)} (h:HeadOk arity r ways) {w:List Int} (hw:w∈ways):∀ t∈r.terms,okT w.length t:=by
 intro t ht
 have h1:=h.rul.terms t ht
 have h2:=h.rul.vars
 rw [h.len w hw]
 unfold okT
 omega
theorem HeadOk.vals {arity:List Int} {r:Rul} {ways:List (List Int)} (h:HeadOk arity r ways) {w:List Int} (hw:w∈ways):∀ x∈aW r w,-1000000≤x∧x≤1000000:=by
 intro x hx
 obtain⟨t,ht,rfl⟩:=List.mem_map.1 hx
 unfold vA
 split
 ·exact (h.rul.terms t ht).2.2
 ·rename_i hv
  have hlt:t.var.toNat < w.length:=by have:=h.terms hw t ht;unfold okT at this;omega
  rw [List.getD,List.getElem?_eq_getElem hlt]
  exact h.nums w hw _ (List.getElem_mem hlt)
theorem sameI_eq (a b:List Int):sameL sameI a b=decide (a=b):=by
 by_cases h:a=b
 ·subst h
  rw [decide_eq_true rfl]
  induction a with
  | nil=>rfl
  | cons x a ih=>unfold sameL;simp [sameI,ih]
 ·rw [decide_eq_false h]
  cases hs:sameL sameI a b with
  | false=>rfl
  | true =>
   exfalso;apply h
   clear h
   induction a generalizing b with
   | nil=>cases b with|nil=>rfl|cons y b=>simp [sameL] at hs
   | cons x a ih =>
    cases b with
    | nil=>simp [sameL] at hs
    | cons y b =>
     simp only [sameL,sameI,Bool.and_eq_true,decide_eq_true_eq] at hs
     rw [hs.1,ih b hs.2]
theorem filterMap_take {α β:Type} (f:α→Option β) {l:List α} {i:Nat} (hi:i < l.length):(l.take (i + 1)).filterMap f=(l.take i).filterMap f++(f l[i]).toList:=by
 rw [List.take_succ_eq_append_getElem hi,List.filterMap_append,List.filterMap_cons,List.filterMap_nil]
 cases f l[i] <;> rfl
theorem filterMap_len {α β:Type} (f:α→Option β) (l:List α) (i:Nat):((l.take i).filterMap f).length≤i:=Nat.le_trans (List.length_filterMap_le _ _) (by rw [List.length_take];omega)
theorem fold_small (fold:Int):∀ (l:List Int) (n m B:Int),0≤m→0≤B→-B≤n→n≤B→m≤B→(∀ x∈l,-1000000≤x∧x≤1000000) →
  -(B + 1000000 * l.length)≤(l.foldl (stepN fold) (n,m)).1∧(l.foldl (stepN fold) (n,m)).1≤B + 1000000 * l.length∧(l.foldl (stepN fold) (n,m)).2=m + l.length
 | [],n,m,B,_,_,h1,h2,_,_=>by simp;omega
 | x::l,n,m,B,h0,hB,h1,h2,h3,hl=>by
  have hx:=hl x (List.mem_cons_self ..)
  rw [List.foldl_cons]
  have hs:-(B + 1000000)≤(stepN fold (n,m) x).1∧(stepN fold (n,m) x).1≤B + 1000000∧(stepN fold (n,m) x).2=m + 1:=by
   unfold stepN
   dsimp only
   refine⟨?_,?_,rfl⟩ <;> (repeat' split) <;> omega
  generalize hst:stepN fold (n,m) x=st at hs
  obtain⟨n',m'⟩:=st
  dsimp only at hs
  obtain⟨s1,s2,rfl⟩:=hs
  obtain⟨r1,r2,r3⟩:=fold_small fold l n' (m + 1) (B + 1000000) (by omega) (by omega) s1 s2 (by omega) fun y hy=>hl y (List.mem_cons_of_mem _ hy)
  rw [List.length_cons]
  refine⟨by omega,by omega,by omega⟩
attribute [local irreducible] DW DS DL DQ Ev FnOk FnP thenD inBlockD DT
set_option maxHeartbeats 8000000 in
theorem headsOf_fn (arity:List Int) (r:Rul) (ways:List (List Int)) (hok:HeadOk arity r ways):Fn 103 [elRul r,.d (.slice 1 (ways.map encW))] (fun res=>res = .d (.slice 2 ((setF' (headsD r ways)).map encFct))):=by
 refine fnp_enter' _ Tryz.func103 rfl rfl (by kernel_rfl) ?_
 intro O w0 E0 β0
 rw [headsD_eq]
 have hmany:=hok.many
 have htl:=hok.tlen
 have lw:(ways.map encW).length=ways.length:=List.length_map _
 have lt:(r.terms.map encTrm).length=r.terms.length:=List.length_map _
 have wset:=setOf_fn (ways.filterMap (headD r ways)) (Nat.le_trans (List.length_filterMap_le _ _) (by omega))
 by_cases h0:r.fold=0
 ·repeat' ((fail_if_success (apply dw_stopR 3));(first|refine z0 ?_|apply ds_nil|apply dw_seq2|refine z16 ?_|apply thenD_n|refine z1 ?_|fail))
  refine dw_ent (ent_nilrow (t:=5) 48 2 rfl) ?_
  repeat' (first|refine z0 ?_|apply ds_nil|apply dw_seq2|refine z16 ?_|apply dw_block|apply thenD_n)
  refine ds_loop (ι:=Nat) (fun i=>⟨2,[(1,.d (.slice 1 (ways.map encW))),(2,.loc 0 0),(5,.row 1),(7,.d (.int .i64 i))],[(0,.blk 36 [.d (.int .i64 r.pred),.d (.slice 2 (r.terms.map encTrm)),.d (.int .i64 r.fold),.d (.slice 4 (r.body.map encLtl)),.d (.int .i64 r.vars)]),(1,.row 48 2 (((ways.take i).filterMap (headD r ways)).map encFct))]⟩)
   (fun i=>i≤ways.length) (fun i=>ways.length - i) 0 (Nat.zero_le _) (ent_ren id ⟨rfl,rfl,rfl,rfl,trivial⟩ ⟨rfl,rfl,trivial⟩ rfl rfl rfl rfl rfl rfl) ?_
  intro i g1
  by_cases hi:i < ways.length
  ·have hm:=List.getElem_mem hi
   have w1:=argsOf_fn r.terms ways[i] (hok.terms hm) (by omega)
   have hst:=filterMap_take (headD r ways) hi
   have hhd:headD r ways ways[i]=some ⟨r.pred,aW r ways[i]⟩:=by unfold headD;rw [if_pos h0]
   rw [hhd] at hst
   have lo:((ways.take i).filterMap (headD r ways)).length≤i:=filterMap_len _ _ _
   clear wset
   repeat' (first|refine z0 ?_|apply ds_nil|refine z5 ?_|refine z10 ?_|apply dw_seq2|refine z16 ?_|refine z20 ?_|apply dw_block|apply dw_skip|apply dw_exit|apply thenD_n|apply thenD_e|refine z17 ?_|refine z22 ?_ (hc:=by apply w1)|refine z4 ?_|refine z2 ?_|(refine z23 ?_ ?_ <;> intro hg)|fail)
   all_goals try (exfalso;omega)
   exact⟨i + 1,hi,ent_ren (fun j=>match j with|1=>2|j=>j) ⟨rfl,rfl,rfl,rfl,trivial⟩ ⟨rfl,by rw [hst,List.map_append];rfl,trivial⟩ rfl rfl rfl rfl rfl rfl,by omega⟩
  ·rw [List.take_of_length_le (by omega)]
   repeat' (first|refine z0 ?_|apply ds_nil|refine z5 ?_|apply dw_seq2|refine z16 ?_|refine z20 ?_|apply dw_block|apply dw_skip|apply dw_exit|apply thenD_n|apply thenD_e|refine z17 ?_|(refine z23 ?_ ?_ <;> intro hg)|fail)
   all_goals try (exfalso;omega)
   refine ds_ent (ent_seal 127 rfl rfl rfl) ?_
   repeat' (first|refine z0 ?_|apply ds_nil|apply dw_ret|apply thenD_n|refine z21 ?_ (hc:=by apply wset)|fail)
   exact⟨.inl rfl,_,rfl,rfl,rfl⟩
 ·have hpos:=(hok.rul.folded h0).1
  obtain⟨m,hm⟩:∃ m,r.terms.length=m + 1:=⟨r.terms.length - 1,by omega⟩
  have hfold:=hok.rul.fold
  repeat' ((fail_if_success (apply dw_stopR 3));(first|refine z0 ?_|apply ds_nil|apply dw_seq2|refine z16 ?_|apply thenD_n|refine z1 ?_|fail))
  refine dw_ent (ent_nilrow (t:=5) 48 2 rfl) ?_
  repeat' (first|refine z0 ?_|apply ds_nil|apply dw_seq2|refine z16 ?_|apply dw_block|apply thenD_n)
  refine ds_loop (ι:=Nat) (fun i=>⟨2,[(1,.d (.slice 1 (ways.map encW))),(2,.loc 0 0),(5,.row 1),(6,.d (.int .i64 m)),(7,.d (.int .i64 i))],[(0,.blk 36 [.d (.int .i64 r.pred),.d (.slice 2 (r.terms.map encTrm)),.d (.int .i64 r.fold),.d (.slice 4 (r.body.map encLtl)),.d (.int .i64 r.vars)]),(1,.row 48 2 (((ways.take i).filterMap (headD r ways)).map encFct))]⟩)
   (fun i=>i≤ways.length) (fun i=>ways.length - i) 0 (Nat.zero_le _) (ent_ren id ⟨rfl,rfl,rfl,congrArg (fun z=>SV.d (D.int .i64 z)) (show ((r.terms.map encTrm).length:Int) - 1=m by omega),rfl,trivial⟩ ⟨rfl,rfl,trivial⟩ rfl rfl rfl rfl rfl rfl) ?_
  intro i g1
  dsimp only at g1 ⊢
  by_cases hi:i < ways.length
  ·have hmi:=List.getElem_mem hi
   have w1:=argsOf_fn r.terms ways[i] (hok.terms hmi) (by omega)
   have hst:=filterMap_take (headD r ways) hi
   have lo:((ways.take i).filterMap (headD r ways)).length≤i:=filterMap_len _ _ _
   have hla:(aW r ways[i]).length=m + 1:=by unfold aW;rw [List.length_map];exact hm
   have lla:((aW r ways[i]).map encI).length=m + 1:=by rw [List.length_map];exact hla
   have hp:(pW r ways[i]).1=(aW r ways[i]).take m:=by unfold pW;rw [hm];rfl
   clear wset
   rw [show r.terms.map (vA ways[i])=aW r ways[i] from rfl] at w1
   repeat' ((fail_if_success (apply dw_stopR 10));(first|refine z0 ?_|apply ds_nil|refine z5 ?_|refine z10 ?_|apply dw_seq2|refine z16 ?_|refine z20 ?_|apply dw_block|apply dw_skip|apply dw_exit|apply thenD_n|apply thenD_e|refine z17 ?_|refine z22 ?_ (hc:=by apply w1)|refine z4 ?_|refine z2 ?_|(refine z23 ?_ ?_ <;> intro hg)|fail))
   all_goals try (exfalso;omega)
   generalize hP:(pW r ways[i]).1=P at hp
   refine dw_cut (ι:=Unit) (fun _=>⟨2,[(1,.d (.slice 1 (ways.map encW))),(2,.loc 0 0),(5,.row 1),(6,.d (.int .i64 m)),(7,.d (.int .i64 i)),(8,.d (.slice 1 ((aW r ways[i]).map encI))),(9,.d (.int .i64 (foldN r.fold (grpL (ways.map (pW r)) P))))],[(0,.blk 36 [.d (.int .i64 r.pred),.d (.slice 2 (r.terms.map encTrm)),.d (.int .i64 r.fold),.d (.slice 4 (r.body.map encLtl)),.d (.int .i64 r.vars)]),(1,.row 48 2 (((ways.take i).filterMap (headD r ways)).map encFct))]⟩) (fun _=>True) ?_ ?_
   ·repeat' (first|refine z0 ?_|apply ds_nil|apply dw_seq2|refine z16 ?_|apply dw_block|apply thenD_n)
    refine ds_loop (ι:=Nat × Int × Int) (fun x=>⟨2,[(1,.d (.slice 1 (ways.map encW))),(2,.loc 0 0),(5,.row 1),(6,.d (.int .i64 m)),(7,.d (.int .i64 i)),(8,.d (.slice 1 ((aW r ways[i]).map encI))),(9,.d (.int .i64 x.2.1)),(10,.d (.int .i64 x.2.2)),(11,.d (.int .i64 x.1))],[(0,.blk 36 [.d (.int .i64 r.pred),.d (.slice 2 (r.terms.map encTrm)),.d (.int .i64 r.fold),.d (.slice 4 (r.body.map encLtl)),.d (.int .i64 r.vars)]),(1,.row 48 2 (((ways.take i).filterMap (headD r ways)).map encFct))]⟩)
     (fun x=>x.1≤ways.length∧(grpL ((ways.take x.1).map (pW r)) P).foldl (stepN r.fold) (0,0)=(x.2.1,x.2.2)) (fun x=>ways.length - x.1) (0,0,0) ⟨Nat.zero_le _,rfl⟩ (ent_ren id ⟨rfl,rfl,rfl,rfl,rfl,rfl,rfl,rfl,rfl,trivial⟩ ⟨rfl,rfl,trivial⟩ rfl rfl rfl rfl rfl rfl) ?_
    rintro⟨k,n,mm⟩ ⟨f1,f2⟩
    dsimp only at f1 f2 ⊢
    by_cases hk:k < ways.length
    ·have hmk:=List.getElem_mem hk
     have w2:=argsOf_fn r.terms ways[k] (hok.terms hmk) (by omega)
     rw [show r.terms.map (vA ways[k])=aW r ways[k] from rfl] at w2
     have hlb:(aW r ways[k]).length=m + 1:=by unfold aW;rw [List.length_map];exact hm
     have llb:((aW r ways[k]).map encI).length=m + 1:=by rw [List.length_map];exact hlb
     have hvb:=hok.vals hmk
     have w3:=sameInts_fn ((aW r ways[i]).take m) ((aW r ways[k]).take m)
     rw [sameI_eq] at w3
     have hst2:grpL ((ways.take (k + 1)).map (pW r)) P=grpL ((ways.take k).map (pW r)) P++if (pW r ways[k]).1=P then [(pW r ways[k]).2] else []:=by
      rw [List.take_succ_eq_append_getElem hk,List.map_append];exact grpL_snoc _ _ _
     have hpk:(pW r ways[k]).1=(aW r ways[k]).take m:=by unfold pW;rw [hm];rfl
     have hx:(pW r ways[k]).2=(aW r ways[k])[m]'(by omega):=by
      unfold pW;rw [hm];simp only [Nat.add_sub_cancel];rw [List.getD,List.getElem?_eq_getElem (by omega)];rfl
     have hxb:=hvb _ (List.getElem_mem (show m < (aW r ways[k]).length by omega))
     have hsm:=fold_small r.fold (grpL ((ways.take k).map (pW r)) P) 0 0 0 (Int.le_refl _) (Int.le_refl _) (by omega) (Int.le_refl _) (Int.le_refl _) (fun x hx=>by
      obtain⟨z,hz,rfl⟩:=List.mem_map.1 hx
      obtain⟨u,hu,rfl⟩:=List.mem_map.1 (List.mem_filter.1 hz).1
      have hu':=List.mem_of_mem_take hu
      have:=hok.vals hu'
      unfold pW
      rw [hm]
      simp only [Nat.add_sub_cancel]
      have hlu:m < (aW r u).length:=by unfold aW;rw [List.length_map];omega
      rw [List.getD,List.getElem?_eq_getElem hlu]
      exact this _ (List.getElem_mem hlu))
     have hgl:(grpL ((ways.take k).map (pW r)) P).length≤k:=by
      unfold grpL
      rw [List.length_map]
      refine Nat.le_trans (List.length_filter_le _ _) ?_
      rw [List.length_map,List.length_take];omega
     rw [f2] at hsm
     dsimp only at hsm
     by_cases he:(aW r ways[i]).take m=(aW r ways[k]).take m
     ·rw [decide_eq_true he] at w3
      rw [if_pos (by rw [hpk,← he,← hp])] at hst2
      have f3:(grpL ((ways.take (k + 1)).map (pW r)) P).foldl (stepN r.fold) (0,0)=stepN r.fold (n,mm) ((aW r ways[k])[m]'(by omega)):=by rw [hst2,List.foldl_append,f2,hx];rfl
      clear hst2 w1
      have fin:∀ (val:Int),stepN r.fold (n,mm) ((aW r ways[k])[m]'(by omega))=(val,mm + 1)→(grpL ((ways.take (k + 1)).map (pW r)) P).foldl (stepN r.fold) (0,0)=(val,mm + 1):=fun val h=>f3.trans h
      by_cases q1:r.fold=1
      ·have hs:stepN r.fold (n,mm) ((aW r ways[k])[m]'(by omega))=(mm + 1,mm + 1):=by unfold stepN;dsimp only;rw [if_pos q1]
       repeat' (first|refine z0 ?_|refine z12 ?_|apply ds_nil|refine z5 ?_|refine z10 ?_|apply dw_seq2|refine z16 ?_|refine z20 ?_|apply dw_block|apply dw_skip|apply dw_exit|refine z18 ?_|refine z19 ?_|apply thenD_n|apply thenD_e|apply inB_n|refine z17 ?_|refine z22 ?_ (hc:=by apply w2)|refine z22 ?_ (hc:=by apply w3)|(refine z23 ?_ ?_ <;> intro hg)|((fail_if_success (apply ds_known;exact rfl));apply ds_guardP;exact rfl;exact rfl;exact rfl;all_goals intro hg))
       all_goals try (exfalso;omega)
       all_goals exact⟨(k + 1,mm + 1,mm + 1),⟨hk,fin _ hs⟩,ent_ren id ⟨rfl,rfl,rfl,rfl,rfl,rfl,rfl,rfl,rfl,trivial⟩ ⟨rfl,rfl,trivial⟩ rfl rfl rfl rfl rfl rfl,by show ways.length - (k + 1) < ways.length - k;omega⟩
      ·by_cases q2:r.fold=2
       ·have hs:stepN r.fold (n,mm) ((aW r ways[k])[m]'(by omega))=(n + (aW r ways[k])[m]'(by omega),mm + 1):=by unfold stepN;dsimp only;rw [if_neg q1,if_pos q2]
        repeat' (first|refine z0 ?_|refine z12 ?_|apply ds_nil|refine z5 ?_|refine z10 ?_|apply dw_seq2|refine z16 ?_|refine z20 ?_|apply dw_block|apply dw_skip|apply dw_exit|refine z18 ?_|refine z19 ?_|apply thenD_n|apply thenD_e|apply inB_n|refine z17 ?_|refine z22 ?_ (hc:=by apply w2)|refine z22 ?_ (hc:=by apply w3)|(refine z23 ?_ ?_ <;> intro hg)|((fail_if_success (apply ds_known;exact rfl));apply ds_guardP;exact rfl;exact rfl;exact rfl;all_goals intro hg))
        all_goals try (exfalso;omega)
        all_goals exact⟨(k + 1,n + (aW r ways[k])[m]'(by omega),mm + 1),⟨hk,fin _ hs⟩,ent_ren id ⟨rfl,rfl,rfl,rfl,rfl,rfl,rfl,rfl,rfl,trivial⟩ ⟨rfl,rfl,trivial⟩ rfl rfl rfl rfl rfl rfl,by show ways.length - (k + 1) < ways.length - k;omega⟩
       ·by_cases q3:mm + 1=1
        ·have hs:stepN r.fold (n,mm) ((aW r ways[k])[m]'(by omega))=((aW r ways[k])[m]'(by omega),mm + 1):=by unfold stepN;dsimp only;rw [if_neg q1,if_neg q2,if_pos (.inl q3)]
         repeat' (first|refine z0 ?_|refine z12 ?_|apply ds_nil|refine z5 ?_|refine z10 ?_|apply dw_seq2|refine z16 ?_|refine z20 ?_|apply dw_block|apply dw_skip|apply dw_exit|refine z18 ?_|refine z19 ?_|apply thenD_n|apply thenD_e|apply inB_n|refine z17 ?_|refine z22 ?_ (hc:=by apply w2)|refine z22 ?_ (hc:=by apply w3)|(refine z23 ?_ ?_ <;> intro hg)|((fail_if_success (apply ds_known;exact rfl));apply ds_guardP;exact rfl;exact rfl;exact rfl;all_goals intro hg))
         all_goals try (exfalso;omega)
         all_goals exact⟨(k + 1,(aW r ways[k])[m]'(by omega),mm + 1),⟨hk,fin _ hs⟩,ent_ren id ⟨rfl,rfl,rfl,rfl,rfl,rfl,rfl,rfl,rfl,trivial⟩ ⟨rfl,rfl,trivial⟩ rfl rfl rfl rfl rfl rfl,by show ways.length - (k + 1) < ways.length - k;omega⟩
        ·by_cases q4:r.fold=3
         ·by_cases q5:((aW r ways[k])[m]'(by omega)) < n
          ·have hs:stepN r.fold (n,mm) ((aW r ways[k])[m]'(by omega))=((aW r ways[k])[m]'(by omega),mm + 1):=by unfold stepN;dsimp only;rw [if_neg q1,if_neg q2,if_pos (.inr (.inl ⟨q4,q5⟩))]
           repeat' (first|refine z0 ?_|refine z12 ?_|apply ds_nil|refine z5 ?_|refine z10 ?_|apply dw_seq2|refine z16 ?_|refine z20 ?_|apply dw_block|apply dw_skip|apply dw_exit|refine z18 ?_|refine z19 ?_|apply thenD_n|apply thenD_e|apply inB_n|refine z17 ?_|refine z22 ?_ (hc:=by apply w2)|refine z22 ?_ (hc:=by apply w3)|(refine z23 ?_ ?_ <;> intro hg)|((fail_if_success (apply ds_known;exact rfl));apply ds_guardP;exact rfl;exact rfl;exact rfl;all_goals intro hg))
           all_goals try (exfalso;omega)
           all_goals exact⟨(k + 1,(aW r ways[k])[m]'(by omega),mm + 1),⟨hk,fin _ hs⟩,ent_ren id ⟨rfl,rfl,rfl,rfl,rfl,rfl,rfl,rfl,rfl,trivial⟩ ⟨rfl,rfl,trivial⟩ rfl rfl rfl rfl rfl rfl,by show ways.length - (k + 1) < ways.length - k;omega⟩
          ·have hs:stepN r.fold (n,mm) ((aW r ways[k])[m]'(by omega))=(n,mm + 1):=by unfold stepN;dsimp only;rw [if_neg q1,if_neg q2,if_neg (by omega)]
           repeat' (first|refine z0 ?_|refine z12 ?_|apply ds_nil|refine z5 ?_|refine z10 ?_|apply dw_seq2|refine z16 ?_|refine z20 ?_|apply dw_block|apply dw_skip|apply dw_exit|refine z18 ?_|refine z19 ?_|apply thenD_n|apply thenD_e|apply inB_n|refine z17 ?_|refine z22 ?_ (hc:=by apply w2)|refine z22 ?_ (hc:=by apply w3)|(refine z23 ?_ ?_ <;> intro hg)|((fail_if_success (apply ds_known;exact rfl));apply ds_guardP;exact rfl;exact rfl;exact rfl;all_goals intro hg))
           all_goals try (exfalso;omega)
           all_goals exact⟨(k + 1,n,mm + 1),⟨hk,fin _ hs⟩,ent_ren id ⟨rfl,rfl,rfl,rfl,rfl,rfl,rfl,rfl,rfl,trivial⟩ ⟨rfl,rfl,trivial⟩ rfl rfl rfl rfl rfl rfl,by show ways.length - (k + 1) < ways.length - k;omega⟩
         ·by_cases q5:n < ((aW r ways[k])[m]'(by omega))
          ·have hs:stepN r.fold (n,mm) ((aW r ways[k])[m]'(by omega))=((aW r ways[k])[m]'(by omega),mm + 1):=by unfold stepN;dsimp only;rw [if_neg q1,if_neg q2,if_pos (.inr (.inr ⟨by omega,q5⟩))]
           repeat' (first|refine z0 ?_|refine z12 ?_|apply ds_nil|refine z5 ?_|refine z10 ?_|apply dw_seq2|refine z16 ?_|refine z20 ?_|apply dw_block|apply dw_skip|apply dw_exit|refine z18 ?_|refine z19 ?_|apply thenD_n|apply thenD_e|apply inB_n|refine z17 ?_|refine z22 ?_ (hc:=by apply w2)|refine z22 ?_ (hc:=by apply w3)|(refine z23 ?_ ?_ <;> intro hg)|((fail_if_success (apply ds_known;exact rfl));apply ds_guardP;exact rfl;exact rfl;exact rfl;all_goals intro hg))
           all_goals try (exfalso;omega)
           all_goals exact⟨(k + 1,(aW r ways[k])[m]'(by omega),mm + 1),⟨hk,fin _ hs⟩,ent_ren id ⟨rfl,rfl,rfl,rfl,rfl,rfl,rfl,rfl,rfl,trivial⟩ ⟨rfl,rfl,trivial⟩ rfl rfl rfl rfl rfl rfl,by show ways.length - (k + 1) < ways.length - k;omega⟩
          ·have hs:stepN r.fold (n,mm) ((aW r ways[k])[m]'(by omega))=(n,mm + 1):=by unfold stepN;dsimp only;rw [if_neg q1,if_neg q2,if_neg (by omega)]
           repeat' (first|refine z0 ?_|refine z12 ?_|apply ds_nil|refine z5 ?_|refine z10 ?_|apply dw_seq2|refine z16 ?_|refine z20 ?_|apply dw_block|apply dw_skip|apply dw_exit|refine z18 ?_|refine z19 ?_|apply thenD_n|apply thenD_e|apply inB_n|refine z17 ?_|refine z22 ?_ (hc:=by apply w2)|refine z22 ?_ (hc:=by apply w3)|(refine z23 ?_ ?_ <;> intro hg)|((fail_if_success (apply ds_known;exact rfl));apply ds_guardP;exact rfl;exact rfl;exact rfl;all_goals intro hg))
           all_goals try (exfalso;omega)
           all_goals exact⟨(k + 1,n,mm + 1),⟨hk,fin _ hs⟩,ent_ren id ⟨rfl,rfl,rfl,rfl,rfl,rfl,rfl,rfl,rfl,trivial⟩ ⟨rfl,rfl,trivial⟩ rfl rfl rfl rfl rfl rfl,by show ways.length - (k + 1) < ways.length - k;omega⟩
     ·rw [decide_eq_false he] at w3
      rw [if_neg (by rw [hpk,hp];exact fun h=>he h.symm),List.append_nil] at hst2
      rw [← hst2] at f2
      repeat' (first|refine z0 ?_|apply ds_nil|refine z5 ?_|refine z10 ?_|apply dw_seq2|refine z16 ?_|refine z20 ?_|apply dw_block|apply dw_skip|apply dw_exit|refine z18 ?_|apply thenD_n|apply thenD_e|refine z17 ?_|refine z22 ?_ (hc:=by apply w2)|refine z22 ?_ (hc:=by apply w3)|(refine z23 ?_ ?_ <;> intro hg)|fail)
      all_goals try (exfalso;omega)
      exact⟨(k + 1,n,mm),⟨hk,f2⟩,ent_ren id ⟨rfl,rfl,rfl,rfl,rfl,rfl,rfl,rfl,rfl,trivial⟩ ⟨rfl,rfl,trivial⟩ rfl rfl rfl rfl rfl rfl,by show ways.length - (k + 1) < ways.length - k;omega⟩
    ·rw [List.take_of_length_le (by omega)] at f2
     have hn:foldN r.fold (grpL (ways.map (pW r)) P)=n:=by unfold foldN;rw [f2]
     rw [hn]
     repeat' (first|refine z0 ?_|apply ds_nil|refine z5 ?_|apply dw_seq2|refine z16 ?_|refine z20 ?_|apply dw_block|apply dw_skip|apply dw_exit|apply thenD_n|apply thenD_e|refine z17 ?_|(refine z23 ?_ ?_ <;> intro hg)|fail)
     all_goals try (exfalso;omega)
     exact⟨(),trivial,ent_ren id ⟨rfl,rfl,rfl,rfl,rfl,rfl,rfl,trivial⟩ ⟨rfl,rfl,trivial⟩ rfl rfl rfl rfl rfl rfl⟩
   ·rintro _ _
    dsimp only
    have hhd:headD r ways ways[i]=if numB (foldN r.fold (grpL (ways.map (pW r)) P)) then some ⟨r.pred,P++[foldN r.fold (grpL (ways.map (pW r)) P)]⟩ else none:=by unfold headD;rw [if_neg h0,hP]
    generalize foldN r.fold (grpL (ways.map (pW r)) P)=n at hhd ⊢
    have w4:=sisNumber_fn n
    cases hb:numB n with
    | false =>
     rw [hb] at w4 hhd
     rw [hhd] at hst
     repeat' (first|refine z0 ?_|apply ds_nil|apply dw_seq2|refine z16 ?_|apply dw_skip|refine z19 ?_|apply thenD_n|apply inB_n|refine z21 ?_ (hc:=by apply w4)|fail)
     all_goals try (exfalso;omega)
     exact⟨i + 1,hi,ent_ren id ⟨rfl,rfl,rfl,rfl,rfl,trivial⟩ ⟨rfl,by rw [hst];simp only [Bool.false_eq_true,if_false,Option.toList_none,List.append_nil];rfl,trivial⟩ rfl rfl rfl rfl rfl rfl,by omega⟩
    | true =>
     rw [hb] at w4 hhd
     rw [hhd] at hst
     have hPl:(P.map encI).length≤3:=by rw [List.length_map,hp,List.length_take];omega
     repeat' (first|(apply dt_bs0;exact rfl;exact rfl;exact rfl;exact rfl;exact rfl;exact rfl;exact rfl;exact rfl;exact rfl;exact rfl)|(first|refine z0 ?_|apply ds_nil|refine z5 ?_|refine z8 ?_|refine z9 ?_|refine z11 ?_|apply dw_seq2|refine z16 ?_|refine z20 ?_|refine z18 ?_|apply thenD_n|apply inB_n|refine z21 ?_ (hc:=by apply w4)|fail))
     all_goals try (exfalso;omega)
     have hen:encFct ⟨r.pred,P++[n]⟩=[.int .i64 r.pred,.slice 1 (((aW r ways[i]).take m).map encI++[[.int .i64 n]])]:=by
      unfold encFct;rw [List.map_append,hp];rfl
     exact⟨i + 1,hi,ent_ren (fun j=>match j with|1=>15|j=>j) ⟨rfl,rfl,rfl,rfl,rfl,trivial⟩ ⟨rfl,by rw [hst,if_pos rfl,Option.toList_some,List.map_append,List.map_singleton,hen];rfl,trivial⟩ rfl rfl rfl rfl rfl rfl,by omega⟩
  ·rw [List.take_of_length_le (by omega)]
   repeat' (first|refine z0 ?_|apply ds_nil|refine z5 ?_|apply dw_seq2|refine z16 ?_|refine z20 ?_|apply dw_block|apply dw_skip|apply dw_exit|apply thenD_n|apply thenD_e|refine z17 ?_|(refine z23 ?_ ?_ <;> intro hg)|fail)
   all_goals try (exfalso;omega)
   refine ds_ent (ent_seal 127 rfl rfl rfl) ?_
   repeat' (first|refine z0 ?_|apply ds_nil|apply dw_ret|apply thenD_n|refine z21 ?_ (hc:=by apply wset)|fail)
   exact⟨.inl rfl,_,rfl,rfl,rfl⟩
end Go.Proofs.YtapciiffpnociacGreat

/- The program's rule.Made, Heads, where nothing is folded. Condition: none. -/
namespace Go.Proofs.YtapciiffpnociacGreat
open Go Go.RowKit
theorem outE_num {e:RE} (h:numE e):∀ y∈outE e,-1000000≤y∧y≤1000000:=by
 intro y hy
 obtain⟨x,hx,rfl⟩:=List.mem_map.1 hy
 obtain⟨v,hv⟩:=List.getElem?_of_mem hx
 cases x with
 | none=>simp
 | some z=>exact h v z hv
theorem fromE_num {S:List Fct} {body:List Ltl}:∀ (ys:List Ltl) (e:RE),okB S e.length body→(∀ l∈ys,l∈body∧l.kind=1)→numE e→∀ a∈fromE S body ys e,∀ y∈a,-1000000≤y∧y≤1000000
 | [],e,hok,_,hn,a,ha=>by
  rw [fromE] at ha
  cases hr:recN body (body.length + 1) e with
  | none=>rw [hr] at ha;simp at ha
  | some e' =>
   rw [hr] at ha
   simp only at ha
   split at ha
   ·simp at ha
   ·rw [List.mem_singleton] at ha
    subst ha
    exact outE_num (recN_num hok hn hr)
 | l::ys,e,hok,hys,hn,a,ha=>by
  rw [fromE] at ha
  cases hr:recN body (body.length + 1) e with
  | none=>rw [hr] at ha;simp at ha
  | some e' =>
   rw [hr] at ha
   simp only at ha
   obtain⟨g1,_⟩:=recN_some hok.lit hr
   have hn':=recN_num hok hn hr
   obtain⟨hl,hl1⟩:=hys l (List.mem_cons_self ..)
   split at ha
   ·simp at ha
   ·unfold litW at ha
    rw [if_pos hl1,List.mem_flatMap] at ha
    obtain⟨x,hx,ha⟩:=ha
    split at ha
    ·rename_i hp
     split at ha
     ·rename_i e'' he''
      have hlk:=hok.lit l hl
      obtain⟨k1,_⟩:=matchE_some (hlk.facts hl1 x hx hp).symm (by rw [g1];exact hlk.terms) he''
      exact fromE_num ys e'' (by rw [k1,g1];exact hok) (fun l hl=>hys l (List.mem_cons_of_mem _ hl)) (matchE_num hn' (hok.facts x hx) he'') a ha
     ·simp at ha
    ·simp at ha
theorem way_num {S:List Fct} {v:Nat} {body:List Ltl} (hok:okB S v body) {a:List Int} (ha:a∈fromE S body (yesOf body) (e0 v)):∀ y∈a,-1000000≤y∧y≤1000000 :=
 fromE_num (yesOf body) (e0 v) (by rw [show (e0 v).length=v from List.length_replicate];exact hok) (fun l hl=>⟨(List.mem_filter.1 hl).1,of_decide_eq_true (List.mem_filter.1 hl).2⟩)
  (fun u x hx=>by unfold e0 at hx;rw [List.getElem?_replicate] at hx;split at hx <;> simp at hx) a ha
attribute [local irreducible] DW DS DL DQ Ev FnOk FnP thenD inBlockD DT
set_option maxHeartbeats 8000000 in
theorem made0_fn (arity:List Int) (r:Rul) (ways:List (List Int)) (hok:HeadOk arity r ways) (h0:r.fold=0):Fn 56 [elRul r,.d (.slice 1 (ways.map encW))] (fun res=>res = .d (.slice 2 ((setF' (headsD r ways)).map encFct))):=by
 refine fnp_enter' _ Tryz.func56 rfl rfl (by kernel_rfl) ?_
 intro O w0 E0 β0
 rw [headsD_eq]
 have hmany:=hok.many
 have htl:=hok.tlen
 have lw:(ways.map encW).length=ways.length:=List.length_map _
 have lt:(r.terms.map encTrm).length=r.terms.length:=List.length_map _
 have hal:∀ x∈ways.filterMap (headD r ways),x.args.length≤17592186044416:=by
  intro x hx
  obtain⟨w,hw,hx⟩:=List.mem_filterMap.1 hx
  unfold headD at hx
  rw [if_pos h0] at hx
  simp only [Option.some.injEq] at hx
  subst hx
  unfold aW
  simp only [List.length_map];omega
 have wset:=set_fn (ways.filterMap (headD r ways)) (Nat.le_trans (List.length_filterMap_le _ _) (by omega)) hal
 repeat' ((fail_if_success (apply dw_stopR 2));(first|refine z0 ?_|apply ds_nil|apply dw_seq2|refine z16 ?_|apply thenD_n|refine z1 ?_|fail))
 refine dw_ent (ent_nilrow (t:=5) 48 2 rfl) ?_
 repeat' (first|refine z0 ?_|apply ds_nil|apply dw_seq2|refine z16 ?_|apply dw_block|apply dw_skip|apply thenD_n|refine z1 ?_|refine z3 ?_|(refine z23 ?_ ?_ <;> intro hg)|fail)
 all_goals try (exfalso;omega)
 refine ds_loop (ι:=Nat) (fun i=>⟨2,[(1,.d (.slice 1 (ways.map encW))),(2,.loc 0 0),(5,.row 1),(21,.d (.slice 1 (ways.map encW))),(22,.d (.int .i64 ways.length)),(23,.d (.int .i64 i))],[(0,.blk 36 [.d (.int .i64 r.pred),.d (.slice 2 (r.terms.map encTrm)),.d (.int .i64 r.fold),.d (.slice 4 (r.body.map encLtl)),.d (.int .i64 r.vars)]),(1,.row 48 2 (((ways.take i).filterMap (headD r ways)).map encFct))]⟩)
  (fun i=>i≤ways.length) (fun i=>ways.length - i) 0 (Nat.zero_le _) (ent_ren id ⟨rfl,rfl,rfl,rfl,by rw [← lw];rfl,rfl,trivial⟩ ⟨rfl,rfl,trivial⟩ rfl rfl rfl rfl rfl rfl) ?_
 intro i g1
 by_cases hi:i < ways.length
 ·have hm:=List.getElem_mem hi
  have w1:=args_fn r.terms ways[i] (hok.terms hm) (by omega)
  have hst:=filterMap_take (headD r ways) hi
  have hhd:headD r ways ways[i]=some ⟨r.pred,aW r ways[i]⟩:=by unfold headD;rw [if_pos h0]
  rw [hhd] at hst
  have lo:((ways.take i).filterMap (headD r ways)).length≤i:=filterMap_len _ _ _
  clear wset
  repeat' (first|refine z0 ?_|apply ds_nil|refine z5 ?_|refine z9 ?_|refine z11 ?_|apply dw_seq2|refine z16 ?_|refine z20 ?_|apply dw_block|apply dw_skip|apply dw_exit|apply thenD_n|apply thenD_e|apply inB_n|refine z17 ?_|refine z22 ?_ (hc:=by apply w1)|(refine z23 ?_ ?_ <;> intro hg)|fail)
  all_goals try (exfalso;omega)
  exact⟨i + 1,hi,ent_ren (fun j=>match j with|1=>11|j=>j) ⟨rfl,rfl,rfl,rfl,rfl,rfl,trivial⟩ ⟨rfl,by rw [hst,List.map_append];rfl,trivial⟩ rfl rfl rfl rfl rfl rfl,by omega⟩
 ·rw [List.take_of_length_le (by omega)]
  repeat' (first|refine z0 ?_|apply ds_nil|refine z5 ?_|apply dw_seq2|refine z16 ?_|refine z20 ?_|apply dw_block|apply dw_skip|apply dw_exit|apply thenD_n|apply thenD_e|refine z17 ?_|(refine z23 ?_ ?_ <;> intro hg)|fail)
  all_goals try (exfalso;omega)
  refine ds_ent (ent_seal 38 rfl rfl rfl) ?_
  repeat' (first|refine z0 ?_|apply ds_nil|apply dw_ret|apply thenD_n|apply thenD_r|refine z21 ?_ (hc:=by apply wset)|fail)
  exact⟨.inl rfl,_,rfl,rfl,rfl⟩
end Go.Proofs.YtapciiffpnociacGreat

/- Plain words on levels: no program is in sight. Condition: none. -/
namespace Go.Proofs.YtapciiffpnociacGreat
def liftN (fold:Int) (x:Ltl):Int:=if x.kind=2∨fold≠0 then 1 else 0
def lvLit (fold pred:Int) (lv:List Int) (x:Ltl):List Int :=
 if 2 < x.kind then lv
 else if lv.getD pred.toNat 0 < lv.getD x.pred.toNat 0 + liftN fold x then lv.set pred.toNat (lv.getD x.pred.toNat 0 + liftN fold x) else lv
def lvRule (lv:List Int) (r:Rul):List Int:=r.body.foldl (lvLit r.fold r.pred) lv
def lvRound (l:List Rul) (lv:List Int):List Int:=l.foldl lvRule lv
def lvIter (l:List Rul):Nat→List Int→List Int
 | 0,lv=>lv
 | n + 1,lv=>lvIter l n (lvRound l lv)
def leL (a b:List Int):Prop:=a.length=b.length∧∀ i,a.getD i 0≤b.getD i 0
theorem leL.refl (a:List Int):leL a a:=⟨rfl,fun _=>Int.le_refl _⟩
theorem leL.trans {a b c:List Int} (h:leL a b) (g:leL b c):leL a c:=⟨h.1.trans g.1,fun i=>Int.le_trans (h.2 i) (g.2 i)⟩
end Go.Proofs.YtapciiffpnociacGreat

/- Plain words on the program's levels. Condition: none. -/
namespace Go.Proofs.YtapciiffpnociacGreat
def hangsB (x:Ltl):Bool:=decide (x.kind=1) || decide (x.kind=2)
def strictB (fold:Int) (x:Ltl):Bool:=decide (x.kind=2) || decide (fold≠0)
def liftS (fold:Int) (x:Ltl):Int:=if strictB fold x then 1 else 0
def rawLit (fold pred:Int) (x:Ltl) (lv:List Int) (ch:Bool):List Int × Bool :=
 if lv.getD pred.toNat 0 < lv.getD x.pred.toNat 0 + liftS fold x then (lv.set pred.toNat (lv.getD x.pred.toNat 0 + liftS fold x),true) else (lv,ch)
def rawStep (n fold pred:Int) (st:Option (List Int × Bool)) (x:Ltl):Option (List Int × Bool):=match st with
 | none=>none
 | some (lv,ch)=>if n < lv.getD x.pred.toNat 0 + liftS fold x then none else some (rawLit fold pred x lv ch)
def rawRule (n:Int) (st:Option (List Int × Bool)) (r:Rul):Option (List Int × Bool):=(r.body.filter hangsB).foldl (rawStep n r.fold r.pred) st
def rawRound (n:Int) (l:List Rul) (lv:List Int):Option (List Int × Bool):=l.foldl (rawRule n) (some (lv,false))
def rawIter (n:Int) (l:List Rul):Nat→List Int→Option (List Int)
 | 0,_=>none
 | k + 1,lv=>match rawRound n l lv with
  | none=>none
  | some (lv',true)=>rawIter n l k lv'
  | some (lv',false)=>some lv'
def gap (n:Int) (lv:List Int):Nat:=(lv.map fun v=>(n - v).toNat).sum
def zeros (n:Nat):List Int:=List.replicate n 0
def rawL (p:Prg):Option (List Int):=rawIter p.arity.length p.rules (p.arity.length * p.arity.length + 1) (zeros p.arity.length)
theorem gap_set {n:Int}:∀ {lv:List Int} {i:Nat} {v:Int} (h:i < lv.length),lv[i] < v→v≤n→gap n (lv.set i v) < gap n lv
 | [],_,_,h,_,_=>by simp at h
 | u::lv,0,v,_,hv,hn=>by
  simp only [gap,List.set_cons_zero,List.map_cons,List.sum_cons,List.getElem_cons_zero] at hv ⊢
  omega
 | u::lv,i + 1,v,h,hv,hn=>by
  have:=gap_set (n:=n) (lv:=lv) (i:=i) (v:=v) (by simpa using h) (by simpa using hv) hn
  simp only [gap,List.set_cons_succ,List.map_cons,List.sum_cons] at this ⊢
  omega
theorem gap_zeros (n m:Nat):gap n (zeros m)=m * n:=by
 unfold gap zeros
 rw [List.map_replicate,List.sum_replicate_nat]
 simp
def Rs (n:Int) (lv0 lv:List Int) (ch:Bool):Prop:=lv.length=lv0.length∧(∀ v∈lv,0≤v∧v≤n)∧gap n lv≤gap n lv0∧(ch=true→gap n lv < gap n lv0)
theorem Rs.refl {n:Int} {lv:List Int} (h:∀ v∈lv,0≤v∧v≤n):Rs n lv lv false:=⟨rfl,h,Nat.le_refl _,fun h=>by cases h⟩
theorem Rs.step {n fold pred:Int} {lv0 lv:List Int} {ch:Bool} {x:Ltl} (h:Rs n lv0 lv ch) (hp:pred.toNat < lv0.length) (hl:¬ n < lv.getD x.pred.toNat 0 + liftS fold x):Rs n lv0 (rawLit fold pred x lv ch).1 (rawLit fold pred x lv ch).2:=by
 obtain⟨h1,h2,h3,h4⟩:=h
 unfold rawLit
 split
 ·rename_i hlt
  have hp':pred.toNat < lv.length:=by omega
  rw [List.getD,List.getElem?_eq_getElem hp',Option.getD_some] at hlt
  have:=gap_set (n:=n) hp' hlt (by omega)
  refine⟨by simpa using h1,fun v hv=>?_,by simp only;omega,fun _=>by simp only;omega⟩
  rcases List.mem_or_eq_of_mem_set hv with h|h
  ·exact h2 v h
  ·have:=(h2 _ (List.getElem_mem hp')).1
   omega
 ·exact⟨h1,h2,h3,h4⟩
theorem rawStep_none (n fold pred:Int):∀ (b:List Ltl),b.foldl (rawStep n fold pred) none=none
 | []=>rfl
 | _::b=>rawStep_none n fold pred b
theorem rawRule_none (n:Int):∀ (l:List Rul),l.foldl (rawRule n) none=none
 | []=>rfl
 | r::l=>by
  rw [List.foldl_cons,show rawRule n none r=none from rawStep_none _ _ _ _]
  exact rawRule_none n l
theorem rawStep_if {n fold pred:Int} {lv:List Int} {ch:Bool} {x:Ltl} (h1:x.pred.toNat < lv.length) (h2:pred.toNat < lv.length):rawStep n fold pred (some (lv,ch)) x =
  if n < lv[x.pred.toNat] + liftS fold x then none else if lv[pred.toNat] < lv[x.pred.toNat] + liftS fold x then some (lv.set pred.toNat (lv[x.pred.toNat] + liftS fold x),true) else some (lv,ch):=by
 simp only [rawStep,rawLit,List.getD,List.getElem?_eq_getElem h1,List.getElem?_eq_getElem h2,Option.getD_some]
 split
 ·rfl
 ·split <;> rfl
theorem Rs.next {n fold pred:Int} {lv0 lv lv':List Int} {ch ch':Bool} {x:Ltl} (h:Rs n lv0 lv ch) (hp:pred.toNat < lv0.length) (hs:rawStep n fold pred (some (lv,ch)) x=some (lv',ch')):Rs n lv0 lv' ch':=by
 unfold rawStep at hs
 split at hs
 ·cases hs
 ·rename_i heq
  cases heq
  split at hs
  ·cases hs
  ·rename_i hl
   have:=h.step (fold:=fold) hp hl
   injection hs with hs
   rw [hs] at this
   exact this
end Go.Proofs.YtapciiffpnociacGreat

/- Plain words on what a predicate needs, as the program comes to it. Condition: none. -/
namespace Go.Proofs.YtapciiffpnociacGreat
def nLit (st:List Bool × List Int) (x:Ltl):List Bool × List Int:=if st.1.getD x.pred.toNat false then st else (st.1.set x.pred.toNat true,st.2++[x.pred])
theorem count_set':∀ {bs:List Bool} {i:Nat} (_:i < bs.length),bs[i]? = some false→(bs.set i true).count false + 1=bs.count false
 | [],_,h,_=>by simp at h
 | b::bs,0,_,hb=>by simp at hb;subst hb;simp
 | b::bs,i + 1,h,hb=>by
  have:=count_set' (bs:=bs) (i:=i) (by simpa using h) (by simpa using hb)
  rw [List.set_cons_succ,List.count_cons,List.count_cons]
  omega
def Ns (n m:Nat) (st:List Bool × List Int):Prop:=st.1.length=n∧2 * st.1.count false + st.2.length≤m∧∀ v∈st.2,0≤v∧v < n
theorem Ns.step {n m:Nat} {st:List Bool × List Int} {x:Ltl} (h:Ns n m st) (hx:0≤x.pred∧x.pred < n):Ns n m (nLit st x):=by
 obtain⟨h1,h2,h3⟩:=h
 unfold nLit
 split
 ·exact⟨h1,h2,h3⟩
 ·rename_i hf
  have hl:x.pred.toNat < st.1.length:=by omega
  have hg:st.1[x.pred.toNat]? = some false:=by
   rw [List.getElem?_eq_getElem hl]
   rw [List.getD,List.getElem?_eq_getElem hl,Option.getD_some] at hf
   cases hb:st.1[x.pred.toNat] with
   | true=>exact absurd hb hf
   | false=>rfl
  have:=count_set' hl hg
  refine⟨by simpa using h1,by simp only [List.length_append,List.length_singleton];omega,fun v hv=>?_⟩
  rcases List.mem_append.1 hv with hv|hv
  ·exact h3 v hv
  ·simp at hv;subst hv;exact hx
end Go.Proofs.YtapciiffpnociacGreat

/- Plain words: a program's rules of one level grow with what they see. Condition: none. -/
namespace Go.Proofs.YtapciiffpnociacGreat
structure LvFit (p:Prg) (lv:List Int):Prop where
 len:lv.length=p.arity.length
 fit:∀ r∈p.rules,∀ l∈r.body,l.kind≤2→lv.getD l.pred.toNat 0 + liftN r.fold l≤lv.getD r.pred.toNat 0
structure PrgR (p:Prg):Prop where
 rul:∀ r∈p.rules,RulR p.arity r
 ar:∀ i,0≤p.arity.getD i 0∧p.arity.getD i 0≤3
 alen:p.arity.length≤10
 rlen:p.rules.length≤12
def hdW (S:List Fct) (r:Rul):List Fct:=setF' (headsD r (rawW S r))
def LvA (p:Prg) (lv:List Int) (n:Int) (m0:List Fct) (S:List Fct):Prop :=
 (∀ x∈S,FctOk p.arity x)∧∀ x:Fct,lv.getD x.pred.toNat 0 < n→(x∈S↔x∈m0)
def lvV (p:Prg) (lv:List Int) (n:Int) (m0:List Fct):Lv Rul where
 rs:=p.rules.filter fun r=>decide (lv.getD r.pred.toNat 0=n)
 hd:=hdW
 mw:=manyW
 A:=LvA p lv n m0
theorem raw_sub {S:List Fct} {r:Rul} {w:List Int} (h:w∈rawW S r):w∈fromE S r.body (yesOf r.body) (e0 r.vars.toNat):=by
 unfold rawW at h
 split at h
 ·exact (waysL_perm _ _ _).mem_iff.1 h
 ·simp at h
theorem raw_ok {arity:List Int} {S:List Fct} {r:Rul} (hr:RulR arity r) (ha:∀ i,0≤arity.getD i 0∧arity.getD i 0≤3) (hS:∀ x∈S,FctOk arity x) (hn:S.Nodup):HeadOk arity r (rawW S r):=by
 have hs:=rulS_mk hr ha hS
 obtain⟨_,_,h3⟩:=ways_perm hn hs.ok.lit hs.bd
 refine⟨hr,?_,fun w hw=>((h3 w).1 (raw_sub hw)).1,fun w hw y hy=>way_num hs.ok (raw_sub hw) y hy,?_⟩
 ·unfold rawW
  split
  ·rename_i hm;exact of_decide_eq_true hm
  ·simp
 ·have:=hr.tlen
  have:=ha r.pred.toNat
  omega
theorem head_ok {arity:List Int} {r:Rul} {ways:List (List Int)} (h:HeadOk arity r ways) {x:Fct} (hx:x∈headsD r ways):FctOk arity x∧x.pred=r.pred:=by
 rw [headsD_eq] at hx
 obtain⟨w,hw,hx⟩:=List.mem_filterMap.1 hx
 have hv:=h.vals hw
 have hl:(aW r w).length=r.terms.length:=List.length_map _
 unfold headD at hx
 split at hx
 ·simp only [Option.some.injEq] at hx
  subst hx
  exact⟨⟨h.rul.pred,by rw [hl];exact h.rul.tlen,hv⟩,rfl⟩
 ·rename_i hf
  split at hx
  ·rename_i hn
   simp only [Option.some.injEq] at hx
   subst hx
   have h0:=(h.rul.folded hf).1
   have hl2:(pW r w).1.length=r.terms.length - 1:=by
    show ((aW r w).take (r.terms.length - 1)).length=_
    rw [List.length_take,hl];omega
   refine⟨⟨h.rul.pred,?_,fun y hy=>?_⟩,rfl⟩
   ·simp only [List.length_append,List.length_singleton,hl2]
    rw [show r.terms.length - 1 + 1=r.terms.length by omega]
    exact h.rul.tlen
   ·rcases List.mem_append.1 hy with hy|hy
    ·exact hv y (List.mem_of_mem_take hy)
    ·rw [List.mem_singleton] at hy
     subst hy
     exact numB_in hn
  ·cases hx
theorem hdW_ok {p:Prg} (hp:PrgR p) {S:List Fct} {r:Rul} (hr:r∈p.rules) (hS:∀ x∈S,FctOk p.arity x) (hn:S.Nodup) {x:Fct} (hx:x∈hdW S r):FctOk p.arity x∧x.pred=r.pred :=
 head_ok (raw_ok (hp.rul r hr) hp.ar hS hn) (((setF_spec _).2 x).1 hx)
theorem hasF_mono {S T:List Fct} (h:∀ x∈S,x∈T) {x:Fct} (hx:hasF S x=true):hasF T x=true:=hasF_iff.2 (h x (hasF_iff.1 hx))
theorem hasF_cong {S T:List Fct} {x:Fct} (h:x∈S↔x∈T):hasF S x=hasF T x:=by
 rw [Bool.eq_iff_iff,hasF_iff,hasF_iff];exact h
theorem holdE_grow {S T:List Fct} {l:Ltl} {a:List Int} (h:∀ x∈S,x∈T) (hk:l.kind=2→∀ x:Fct,x.pred=l.pred→(x∈S↔x∈T)) (hh:holdE S l a=true):holdE T l a=true:=by
 unfold holdE at hh ⊢
 split
 ·rename_i h1;rw [if_pos h1] at hh;exact hasF_mono h hh
 ·rename_i h1
  rw [if_neg h1] at hh
  split
  ·rename_i h2
   rw [if_pos h2] at hh
   rw [← hasF_cong (hk h2 ⟨l.pred,l.terms.map (vA a)⟩ rfl)];exact hh
  ·rename_i h2;rw [if_neg h2] at hh;exact hh
theorem holdE_cong {S T:List Fct} {l:Ltl} {a:List Int} (hk:l.kind=1∨l.kind=2→∀ x:Fct,x.pred=l.pred→(x∈S↔x∈T)):holdE S l a=holdE T l a:=by
 unfold holdE
 split
 ·rename_i h1;exact hasF_cong (hk (.inl h1) ⟨l.pred,l.terms.map (vA a)⟩ rfl)
 ·split
  ·rename_i h2;rw [hasF_cong (hk (.inr h2) ⟨l.pred,l.terms.map (vA a)⟩ rfl)]
  ·rfl
theorem ways_grow {arity:List Int} {r:Rul} {S T:List Fct} (hr:RulR arity r) (ha:∀ i,0≤arity.getD i 0∧arity.getD i 0≤3) (hS:∀ x∈S,FctOk arity x) (hT:∀ x∈T,FctOk arity x) (nS:S.Nodup) (nT:T.Nodup)
  (hst:∀ x∈S,x∈T) (hk:∀ l∈r.body,l.kind≤2→liftN r.fold l=1→∀ x:Fct,x.pred=l.pred→(x∈S↔x∈T)) (hm:manyW T r=true) :
  manyW S r=true∧(∀ w∈rawW S r,w∈rawW T r)∧(r.fold≠0→rawW S r=rawW T r):=by
 have sS:=rulS_mk hr ha hS
 have sT:=rulS_mk hr ha hT
 obtain⟨_,p2,p3⟩:=ways_perm nS sS.ok.lit sS.bd
 obtain⟨_,q2,q3⟩:=ways_perm nT sT.ok.lit sT.bd
 have hsub:∀ w∈fromE S r.body (yesOf r.body) (e0 r.vars.toNat),w∈fromE T r.body (yesOf r.body) (e0 r.vars.toNat):=by
  intro w hw
  obtain⟨h1,h2⟩:=(p3 w).1 hw
  exact (q3 w).2 ⟨h1,fun l hl=>holdE_grow hst (fun h2=>hk l hl (by omega) (by unfold liftN;rw [if_pos (.inl h2)])) (h2 l hl)⟩
 have hlen:(waysL S r.vars.toNat r.body).length≤(waysL T r.vars.toNat r.body).length:=by
  rw [(waysL_perm S r.vars.toNat r.body).length_eq,(waysL_perm T r.vars.toNat r.body).length_eq]
  exact nodup_len p2 hsub
 have hmS:manyW S r=true:=by
  unfold manyW at hm ⊢
  exact decide_eq_true (Nat.le_trans hlen (of_decide_eq_true hm))
 refine⟨hmS,fun w hw=>?_,fun hf=>?_⟩
 ·have hw':=hsub w (raw_sub hw)
  unfold rawW
  rw [if_pos hm]
  exact (waysL_perm _ _ _).mem_iff.2 hw'
 ·have heq:∀ w,w∈fromE S r.body (yesOf r.body) (e0 r.vars.toNat)↔w∈fromE T r.body (yesOf r.body) (e0 r.vars.toNat):=by
   intro w
   rw [p3 w,q3 w]
   refine and_congr_right fun _=>forall_congr' fun l=>forall_congr' fun hl=>?_
   rw [holdE_cong (S:=S) (T:=T) fun h12=>hk l hl (by omega) (by unfold liftN;rw [if_pos (.inr hf)])]
  have hp:=same_members p2 q2 heq
  unfold rawW
  rw [if_pos hm,if_pos hmS]
  exact waysL_eq (waysL_sort _ _ _) ((waysL_perm _ _ _).trans hp)
theorem heads_grow {r:Rul} {S T:List Fct} (h2:∀ w∈rawW S r,w∈rawW T r) (h3:r.fold≠0→rawW S r=rawW T r):∀ x∈hdW S r,x∈hdW T r:=by
 intro x hx
 have hx:=((setF_spec _).2 x).1 hx
 refine ((setF_spec _).2 x).2 ?_
 by_cases hf:r.fold=0
 ·unfold headsD at hx ⊢
  rw [if_pos hf] at hx ⊢
  obtain⟨w,hw,rfl⟩:=List.mem_map.1 hx
  exact List.mem_map.2 ⟨w,h2 w hw,rfl⟩
 ·rw [← h3 hf];exact hx
theorem lvV_ok {p:Prg} (hp:PrgR p) {lv:List Int} (hl:LvFit p lv) (n:Int) (m0:List Fct):LvOk (lvV p lv n m0) where
 mono S T hS hT nS nT hst r hr hm:=by
  obtain⟨hr,hn⟩:=List.mem_filter.1 hr
  have hn:=of_decide_eq_true hn
  obtain⟨h1,h2,h3⟩:=ways_grow (hp.rul r hr) hp.ar hS.1 hT.1 nS.nodup nT.nodup hst (fun l hlb hk hlift x hx=>by
   have:=hl.fit r hr l hlb hk
   have hlt:lv.getD x.pred.toNat 0 < n:=by rw [hx];omega
   exact (hS.2 x hlt).trans (hT.2 x hlt).symm) hm
  exact⟨h1,heads_grow h2 h3⟩
 grow S T hS hst hT:=by
  refine⟨fun x hx=>?_,fun x hx=>⟨fun hxT=>?_,fun hx0=>hst x ((hS.2 x hx).2 hx0)⟩⟩
  ·rcases hT x hx with h|⟨r,hr,S',hS',nS',hx'⟩
   ·exact hS.1 x h
   ·exact (hdW_ok hp (List.mem_filter.1 hr).1 hS'.1 nS'.nodup hx').1
  ·rcases hT x hxT with h|⟨r,hr,S',hS',nS',hx'⟩
   ·exact (hS.2 x hx).1 h
   ·obtain⟨hr,hn⟩:=List.mem_filter.1 hr
    have hn:=of_decide_eq_true hn
    rw [(hdW_ok hp hr hS'.1 nS'.nodup hx').2] at hx
    omega
def RunTo (p:Prg) (lv:List Int) (given:List Fct):Nat→List Fct→Prop
 | 0,m=>m=setF' given
 | n + 1,M=>∃ m,RunTo p lv given n m∧Fit (lvV p lv n m) m M
theorem RunTo.unique {p:Prg} {lv:List Int} {given:List Fct}:∀ {n:Nat} {a b:List Fct},RunTo p lv given n a→RunTo p lv given n b→a=b
 | 0,_,_,h,g=>h.trans g.symm
 | _ + 1,_,_,⟨_,h1,h2⟩,⟨_,g1,g2⟩=>by
  have:=RunTo.unique h1 g1
  subst this
  exact h2.unique g2
theorem RunTo.ok {p:Prg} {lv:List Int} {given:List Fct} (hg:∀ x∈given,FctOk p.arity x) (hl:given.length≤60):∀ {n:Nat} {m:List Fct},RunTo p lv given n m→Strict m∧m.length≤60∧(∀ x∈m,FctOk p.arity x)∧∀ x∈given,x∈m
 | 0,m,h=>by
  subst h
  obtain⟨h1,h2⟩:=setF_spec given
  exact⟨h1,Nat.le_trans (setF_lenle _) hl,fun x hx=>hg x ((h2 x).1 hx),fun x hx=>(h2 x).2 hx⟩
 | n + 1,M,⟨m,h1,h2⟩=>by
  have ih:=RunTo.ok hg hl h1
  exact⟨h2.good.strict,h2.len,h2.good.a.1,fun x hx=>h2.good.sub x (ih.2.2.2 x hx)⟩
end Go.Proofs.YtapciiffpnociacGreat

/- Plain words on levels: rounds come to rest just when there are levels that fit; then at the least ones. Condition: none. -/
namespace Go.Proofs.YtapciiffpnociacGreat
structure Edg where
 p:Nat
 q:Nat
 s:Int
def liftE (lv:List Int) (e:Edg):List Int:=if lv.getD e.p 0 < lv.getD e.q 0 + e.s then lv.set e.p (lv.getD e.q 0 + e.s) else lv
def roundE (E:List Edg) (lv:List Int):List Int:=E.foldl liftE lv
def itE (E:List Edg) (lv:List Int):Nat→List Int
 | 0=>lv
 | k + 1=>roundE E (itE E lv k)
def edgOk (n:Nat) (E:List Edg):Prop:=∀ e∈E,e.p < n∧e.q < n∧0≤e.s∧e.s≤1
def FitE (n:Nat) (E:List Edg) (F:List Int):Prop:=F.length=n∧(∀ i,0≤F.getD i 0)∧∀ e∈E,F.getD e.q 0 + e.s≤F.getD e.p 0
theorem liftE_len (lv:List Int) (e:Edg):(liftE lv e).length=lv.length:=by unfold liftE;split <;> simp
theorem roundE_len:∀ (E:List Edg) (lv:List Int),(roundE E lv).length=lv.length
 | [],_=>rfl
 | e::E,lv=>(roundE_len E (liftE lv e)).trans (liftE_len lv e)
theorem itE_len (E:List Edg) (lv:List Int):∀ k,(itE E lv k).length=lv.length
 | 0=>rfl
 | k + 1=>(roundE_len E _).trans (itE_len E lv k)
theorem set_getD (lv:List Int) (i:Nat) (v:Int) (hi:i < lv.length) (j:Nat):(lv.set i v).getD j 0=if i=j then v else lv.getD j 0:=by
 simp only [List.getD,List.getElem?_set]
 split
 ·rename_i h;subst h;first|rfl|(rw [if_pos hi];rfl)
 ·rfl
theorem liftE_le {n:Nat} {lv:List Int} {e:Edg} (hl:lv.length=n) (he:e.p < n) (i:Nat):lv.getD i 0≤(liftE lv e).getD i 0:=by
 unfold liftE
 split
 ·rw [set_getD _ _ _ (by omega)]
  split
  ·rename_i h;subst h;omega
  ·exact Int.le_refl _
 ·exact Int.le_refl _
theorem liftE_edge {n:Nat} {lv:List Int} {e:Edg} (hl:lv.length=n) (he:e.p < n):lv.getD e.q 0 + e.s≤(liftE lv e).getD e.p 0:=by
 unfold liftE
 split
 ·rw [set_getD _ _ _ (by omega),if_pos rfl];omega
 ·omega
theorem roundE_le {n:Nat}:∀ {E:List Edg} {lv:List Int},lv.length=n→edgOk n E→∀ i,lv.getD i 0≤(roundE E lv).getD i 0
 | [],_,_,_,_=>Int.le_refl _
 | e::_,lv,hl,hE,i=>Int.le_trans (liftE_le hl (hE e (List.mem_cons_self ..)).1 i) (roundE_le ((liftE_len lv e).trans hl) (fun x hx=>hE x (List.mem_cons_of_mem _ hx)) i)
theorem roundE_edge {n:Nat}:∀ {E:List Edg} {lv:List Int},lv.length=n→edgOk n E→∀ e∈E,lv.getD e.q 0 + e.s≤(roundE E lv).getD e.p 0
 | [],_,_,_,_,h=>nomatch h
 | x::E,lv,hl,hE,e,he=>by
  have hx:=hE x (List.mem_cons_self ..)
  have hE':edgOk n E:=fun y hy=>hE y (List.mem_cons_of_mem _ hy)
  have hl':=(liftE_len lv x).trans hl
  rcases List.mem_cons.1 he with rfl|he
  ·exact Int.le_trans (liftE_edge hl hx.1) (roundE_le hl' hE' _)
  ·have h1:=roundE_edge hl' hE' e he
   have h2:=liftE_le (e:=x) hl hx.1 e.q
   show _≤(roundE E (liftE lv x)).getD e.p 0
   omega
theorem liftE_below {n:Nat} {E:List Edg} {F lv:List Int} {e:Edg} (hl:lv.length=n) (hF:FitE n E F) (he:e∈E) (hp:e.p < n) (h:∀ i,lv.getD i 0≤F.getD i 0) (i:Nat):(liftE lv e).getD i 0≤F.getD i 0:=by
 unfold liftE
 split
 ·rw [set_getD _ _ _ (by omega)]
  split
  ·rename_i h1;subst h1
   have:=hF.2.2 e he
   have:=h e.q
   omega
  ·exact h i
 ·exact h i
theorem roundE_below' {n:Nat} {E:List Edg} {F:List Int} (hF:FitE n E F) (hE:edgOk n E):∀ (E2:List Edg) (lv:List Int),(∀ e∈E2,e∈E)→lv.length=n→(∀ i,lv.getD i 0≤F.getD i 0)→∀ i,(roundE E2 lv).getD i 0≤F.getD i 0
 | [],_,_,_,h,i=>h i
 | e::E2,lv,hs,hl,h,i=>roundE_below' hF hE E2 (liftE lv e) (fun x hx=>hs x (List.mem_cons_of_mem _ hx)) ((liftE_len lv e).trans hl)
   (fun i=>liftE_below hl hF (hs e (List.mem_cons_self ..)) (hE e (hs e (List.mem_cons_self ..))).1 h i) i
theorem roundE_below {n:Nat} {E:List Edg} {F lv:List Int} (hF:FitE n E F) (hE:edgOk n E) (hl:lv.length=n) (h:∀ i,lv.getD i 0≤F.getD i 0) (i:Nat):(roundE E lv).getD i 0≤F.getD i 0:=roundE_below' hF hE E lv (fun _ h=>h) hl h i
theorem ext_getD {a b:List Int} (hl:a.length=b.length) (h:∀ i,a.getD i 0=b.getD i 0):a=b:=by
 apply List.ext_getElem hl
 intro i h1 h2
 have:=h i
 rwa [List.getD,List.getD,List.getElem?_eq_getElem h1,List.getElem?_eq_getElem h2] at this
theorem rest_edge {n:Nat} {E:List Edg} {lv:List Int} (hl:lv.length=n) (hE:edgOk n E) (hr:roundE E lv=lv):∀ e∈E,lv.getD e.q 0 + e.s≤lv.getD e.p 0:=by
 intro e he
 have:=roundE_edge hl hE e he
 rwa [hr] at this
theorem edge_rest:∀ {E:List Edg} {lv:List Int},(∀ e∈E,lv.getD e.q 0 + e.s≤lv.getD e.p 0)→roundE E lv=lv
 | [],_,_=>rfl
 | e::E,lv,h=>by
  have h1:liftE lv e=lv:=by
   unfold liftE
   rw [if_neg]
   have:=h e (List.mem_cons_self ..)
   omega
  show roundE E (liftE lv e)=lv
  rw [h1]
  exact edge_rest fun x hx=>h x (List.mem_cons_of_mem _ hx)
section
variable {n : Nat} {E : List Edg} (hE : edgOk n E)
abbrev L0 (E:List Edg) (n k:Nat):List Int:=itE E (zeros n) k
theorem L0_len (k:Nat):(L0 E n k).length=n:=by rw [itE_len];simp [zeros]
include hE
theorem L0_up (k i:Nat):(L0 E n k).getD i 0≤(L0 E n (k + 1)).getD i 0:=roundE_le (L0_len k) hE i
omit hE in
theorem zeros_getD (n i:Nat):(zeros n).getD i 0=0:=by
 unfold zeros
 rw [List.getD,List.getElem?_replicate]
 split <;> rfl
theorem L0_pos:∀ (k i:Nat),0≤(L0 E n k).getD i 0
 | 0,i=>by show 0≤(zeros n).getD i 0;rw [zeros_getD n];exact Int.le_refl _
 | k + 1,i=>Int.le_trans (L0_pos k i) (L0_up hE k i)
theorem L0_below {F:List Int} (hF:FitE n E F):∀ (k i:Nat),(L0 E n k).getD i 0≤F.getD i 0
 | 0,i=>by show (zeros n).getD i 0≤_;rw [zeros_getD n];exact hF.2.1 i
 | k + 1,i=>roundE_below hF hE (L0_len k) (L0_below hF k) i
theorem fit_of_rest {k:Nat} (h:L0 E n (k + 1)=L0 E n k):FitE n E (L0 E n k):=⟨L0_len k,L0_pos hE k,rest_edge (L0_len k) hE h⟩
def sett (n:Nat) (a b:List Int):Nat:=((List.range n).filter fun i=>decide (a.getD i 0=b.getD i 0)).length
omit hE in
theorem filter_len_lt {α:Type} (f g:α→Bool):∀ (l:List α),(∀ x∈l,f x=true→g x=true)→(∃ x∈l,f x=false∧g x=true)→(l.filter f).length < (l.filter g).length
 | [],_,⟨_,h,_⟩=>nomatch h
 | y::l,hs,⟨x,hx,h1,h2⟩=>by
  have hle:(l.filter f).length≤(l.filter g).length:=by
   clear hx
   have hs':∀ x∈l,f x=true→g x=true:=fun x hx=>hs x (List.mem_cons_of_mem _ hx)
   clear hs
   induction l with
   | nil=>simp
   | cons z l ih =>
    have ih:=ih fun x hx=>hs' x (List.mem_cons_of_mem _ hx)
    have hz:=hs' z (List.mem_cons_self ..)
    simp only [List.filter_cons]
    cases hf:f z <;> cases hg:g z <;> simp_all <;> omega
  rcases List.mem_cons.1 hx with rfl|hx
  ·simp only [List.filter_cons,h1,h2,if_true,List.length_cons,Bool.false_eq_true,if_false];omega
  ·have ih:=filter_len_lt f g l (fun x hx=>hs x (List.mem_cons_of_mem _ hx)) ⟨x,hx,h1,h2⟩
   have hy:=hs y (List.mem_cons_self ..)
   simp only [List.filter_cons]
   cases hf:f y <;> cases hg:g y <;> simp_all <;> omega
omit hE in
theorem range_map_getD (n:Nat) (f:Nat→Int) (i:Nat):((List.range n).map f).getD i 0=if i < n then f i else 0:=by
 rw [List.getD,List.getElem?_map]
 split
 ·rename_i h;rw [List.getElem?_range h];rfl
 ·rename_i h;rw [List.getElem?_eq_none (by simp;omega)];rfl
theorem settle {S:List Int} (hS:FitE n E S) (hleast:∀ F,FitE n E F→∀ i,S.getD i 0≤F.getD i 0) {k:Nat} (hne:L0 E n k≠S):sett n (L0 E n k) S < sett n (L0 E n (k + 1)) S:=by
 have hb:=L0_below hE hS
 refine filter_len_lt _ _ _ (fun i hi h=>?_) ?_
 ·have h1:=of_decide_eq_true h
  have h2:=L0_up hE k i
  have h3:=hb (k + 1) i
  exact decide_eq_true (by omega)
 ·apply Classical.byContradiction
  intro hno
  have hno:∀ i,i < n→(L0 E n (k + 1)).getD i 0=S.getD i 0→(L0 E n k).getD i 0=S.getD i 0:=by
   intro i hi h1
   apply Classical.byContradiction
   intro h2
   exact hno ⟨i,List.mem_range.2 hi,decide_eq_false h2,decide_eq_true h1⟩
  let M:List Int:=(List.range n).map fun i=>if (L0 E n k).getD i 0=S.getD i 0 then S.getD i 0 else S.getD i 0 - 1
  have hM:∀ i,i < n→M.getD i 0=if (L0 E n k).getD i 0=S.getD i 0 then S.getD i 0 else S.getD i 0 - 1:=fun i hi=>by rw [range_map_getD,if_pos hi]
  have hfit:FitE n E M:=by
   refine⟨by simp [M],fun i=>?_,fun e he=>?_⟩
   ·rw [range_map_getD]
    split
    ·have h1:=hb k i
     have h2:=L0_pos hE k i
     split <;> omega
    ·exact Int.le_refl _
   ·obtain⟨hp,hq,hs0,hs1⟩:=hE e he
    have h1:=hS.2.2 e he
    rw [hM _ hp,hM _ hq]
    by_cases hps:(L0 E n k).getD e.p 0=S.getD e.p 0
    ·rw [if_pos hps]
     split <;> omega
    ·rw [if_neg hps]
     split
     ·rename_i hqs
      have h2:=roundE_edge (L0_len (E:=E) k) hE e he
      have h3:=hb (k + 1) e.p
      have h4:¬ (L0 E n (k + 1)).getD e.p 0=S.getD e.p 0:=fun h=>hps (hno e.p hp h)
      have h5:(L0 E n k).getD e.q 0 + e.s≤(L0 E n (k + 1)).getD e.p 0:=h2
      omega
     ·omega
  apply hne
  refine ext_getD (by rw [L0_len,hS.1]) fun i=>?_
  rcases Nat.lt_or_ge i n with hi|hi
  ·have h1:=hleast M hfit i
   rw [hM i hi] at h1
   split at h1
   ·assumption
   ·omega
  ·rw [List.getD,List.getD,List.getElem?_eq_none (by rw [L0_len];exact hi),List.getElem?_eq_none (by rw [hS.1];exact hi)]
omit hE in
theorem sett_le (a b:List Int):sett n a b≤n:=by
 have:=List.length_filter_le (fun i=>decide (a.getD i 0=b.getD i 0)) (List.range n)
 rw [List.length_range] at this
 exact this
theorem settled {S:List Int} (hS:FitE n E S) (hleast:∀ F,FitE n E F→∀ i,S.getD i 0≤F.getD i 0):L0 E n n=S:=by
 have key:∀ k,L0 E n k=S∨k≤sett n (L0 E n k) S:=by
  intro k
  induction k with
  | zero=>exact .inr (Nat.zero_le _)
  | succ k ih =>
   by_cases h:L0 E n k=S
   ·left
    show roundE E (itE E (zeros n) k)=S
    rw [show itE E (zeros n) k=S from h]
    exact edge_rest hS.2.2
   ·right
    have h1:=settle hE hS hleast h
    rcases ih with h2|h2
    ·exact absurd h2 h
    ·omega
 rcases key n with h|h
 ·exact h
 ·apply Classical.byContradiction
  intro hne
  have h1:=settle hE hS hleast hne
  have h2:=sett_le (n:=n) (L0 E n (n + 1)) S
  omega
omit hE in
theorem pigeon:∀ (m:Nat) (l:List Int),(∀ v:Nat,1≤v→v≤m→(v:Int)∈l)→m≤l.length
 | 0,_,_=>Nat.zero_le _
 | m + 1,l,h=>by
  have h1:=h (m + 1) (by omega) (Nat.le_refl _)
  have h2:=pigeon m (l.erase ((m + 1:Nat):Int)) fun v hv1 hv2=>(List.mem_erase_of_ne (by omega)).2 (h v hv1 (by omega))
  rw [List.length_erase_of_mem h1] at h2
  have:=List.length_pos_of_mem h1
  omega
theorem least_bound (hF:FitE n E (L0 E n n)) (i:Nat):(L0 E n n).getD i 0≤n:=by
 apply Classical.byContradiction
 intro hgt
 have hgt:(n:Int) < (L0 E n n).getD i 0:=by omega
 have hin:∀ v:Nat,1≤v→v≤n + 1→(v:Int)∈L0 E n n:=by
  intro v hv1 hv2
  apply Classical.byContradiction
  intro hnot
  have hnv:∀ j,j < n→(L0 E n n).getD j 0≠v:=by
   intro j hj h
   apply hnot
   rw [List.getD,List.getElem?_eq_getElem (by rw [L0_len];exact hj),Option.getD_some] at h
   rw [← h]
   exact List.getElem_mem _
  let M:List Int:=(List.range n).map fun j=>if (v:Int) < (L0 E n n).getD j 0 then (L0 E n n).getD j 0 - 1 else (L0 E n n).getD j 0
  have hM:∀ j,j < n→M.getD j 0=if (v:Int) < (L0 E n n).getD j 0 then (L0 E n n).getD j 0 - 1 else (L0 E n n).getD j 0:=fun j hj=>by rw [range_map_getD,if_pos hj]
  have hfit:FitE n E M:=by
   refine⟨by simp [M],fun j=>?_,fun e he=>?_⟩
   ·rw [range_map_getD]
    split
    ·have:=hF.2.1 j
     split <;> omega
    ·exact Int.le_refl _
   ·obtain⟨hp,hq,hs0,hs1⟩:=hE e he
    have h1:=hF.2.2 e he
    have h2:=hnv e.q hq
    rw [hM _ hp,hM _ hq]
    split <;> split <;> omega
  have hi:i < n:=by
   apply Classical.byContradiction
   intro h
   rw [List.getD,List.getElem?_eq_none (by rw [L0_len];omega)] at hgt
   simp at hgt
   omega
  have h3:=L0_below hE hfit n i
  have h5:=hnv i hi
  rw [hM i hi,if_pos (by omega)] at h3
  omega
 have:=pigeon (n + 1) _ hin
 rw [L0_len] at this
 omega
end
end Go.Proofs.YtapciiffpnociacGreat
