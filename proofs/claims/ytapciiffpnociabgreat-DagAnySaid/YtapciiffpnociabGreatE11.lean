/- Several texts in one: RelK RelL RelU RelW GxRng GxItr RelV RelX RelB RelC RelM RelY DagA GxMap. Condition: none. -/
import Derived.Test.YtapciiffpnociabGreatE10
import Derived.Test.YtapciiffpnociabGreatE09
import Derived.Test.YtapciiffpnociabGreatE01
import Derived.Maps.Keyed
namespace Go.Proofs.YtapciiffpnociabGreat
open Go Go.RowKit
attribute [local irreducible] DW DS DL DQ Ev FnOk FnP thenD inBlockD DT
def cmpG (p:Fct):List Fct→List Fct
 | []=>[]
 | y::l=>if ordF y p=0 then cmpG y l else y::cmpG y l
def cmpF:List Fct→List Fct
 | []=>[]
 | x::l=>x::cmpG x l
theorem cmpG_snoc:∀ (l:List Fct) (p y:Fct),cmpG p (l++[y])=cmpG p l++(if ordF y ((p::l).getLast (by simp))=0 then [] else [y])
 | [],p,y=>by
  show (if ordF y p=0 then cmpG y [] else y::cmpG y [])=[]++_
  rfl
 | x::l,p,y=>by
  rw [List.cons_append]
  simp only [cmpG]
  rw [cmpG_snoc l x y,List.getLast_cons (by simp:x::l≠[])]
  split <;> simp
theorem cmpF_take {l:List Fct} {n:Nat} (h0:0 < n) (hn:n < l.length):cmpF (l.take (n + 1))=cmpF (l.take n)++(if ordF l[n] (l[n - 1]'(by omega))=0 then [] else [l[n]]):=by
 rw [List.take_succ_eq_append_getElem hn]
 have hne:l.take n≠[]:=by
  intro h
  have:=congrArg List.length h
  rw [List.length_take,List.length_nil] at this
  omega
 obtain⟨x,r,hx⟩:=List.exists_cons_of_ne_nil hne
 have hl:(l.take n).getLast hne=l[n - 1]'(by omega):=by
  rw [List.getLast_eq_getElem,List.getElem_take]
  have:(l.take n).length - 1=n - 1:=by rw [List.length_take,Nat.min_eq_left (by omega)]
  simp only [this]
 simp only [hx,List.cons_append,cmpF]
 rw [cmpG_snoc]
 have:(x::r).getLast (by simp)=l[n - 1]'(by omega):=by rw [← hl];congr 1;exact hx.symm
 rw [this]
theorem cmpF_one {l:List Fct} (h:l.length≤1):cmpF l=l:=by
 match l,h with
 | [],_=>rfl
 | [x],_=>rfl
set_option maxHeartbeats 8000000 in
theorem compact_fn (l:List Fct) (hl:l.length≤4398046511104):FnOk false Tryz.prog tab tab_ok 194 [.row 0,.fn 195 []] 0 1 [(0,.row 95 2 (l.map encFct))] (fun _ r H=>r = .d (.slice 2 ((cmpF l).map encFct))∧H=[]):=by
 refine fn_enterF _ Tryz.func194 rfl rfl (by kernel_rfl) ?_
 intro O w0 E0 β0
 have ll:(l.map encFct).length=l.length:=List.length_map _
 by_cases h2:l.length < 2
 ·rw [cmpF_one (by omega)]
  repeat' (first|refine z0 ?_|apply ds_nil|apply dw_seq2|refine z16 ?_|apply dw_block|apply dw_skip|apply thenD_n|(refine z23 ?_ ?_ <;> intro hg)|fail)
  all_goals try (exfalso;omega)
  refine dw_ent (ent_seal 4 rfl rfl rfl) ?_
  repeat' (first|apply dw_ret|apply thenD_r)
  exact⟨.inl rfl,_,rfl,0,[],trivial,rfl,rfl,rfl,rfl,rfl,rfl⟩
 ·repeat' (first|refine z0 ?_|apply ds_nil|apply dw_seq2|refine z16 ?_|apply dw_block|apply dw_skip|apply thenD_n|(refine z23 ?_ ?_ <;> intro hg)|fail)
  all_goals try (exfalso;omega)
  refine ds_loop (ι:=Nat) (fun i=>⟨1,[(0,.row 0),(1,.fn 195 []),(5,.d (.int .i64 i))],[(0,.row 95 2 (l.map encFct))]⟩)
   (fun i=>1≤i∧i≤l.length∧cmpF (l.take i)=l.take i) (fun i=>l.length - i) 1 ⟨by omega,by omega,cmpF_one (by rw [List.length_take];omega)⟩ (ent_ren id ⟨rfl,rfl,rfl,trivial⟩ ⟨rfl,trivial⟩ rfl rfl rfl rfl rfl rfl) ?_
  rintro i ⟨g0,g1,g2⟩
  by_cases hi:i < l.length
  ·have hs:Fn 195 [elFct l[i],elFct (l[((i:Int) - 1).toNat]'(by omega))] (fun r=>r = .d (.bool (decide (ordF l[i] (l[i - 1]'(by omega))=0)))):=by
    have e:((i:Int) - 1).toNat=i - 1:=by omega
    simp only [e]
    exact rsame_fn _ _
   have ht:=cmpF_take (by omega:0 < i) hi
   cases hb:decide (ordF l[i] (l[i - 1]'(by omega))=0) with
   | false =>
    have hb':=of_decide_eq_false hb
    rw [hb] at hs
    rw [if_neg hb',g2,← List.take_succ_eq_append_getElem hi] at ht
    repeat' (first|refine z0 ?_|apply ds_nil|refine z5 ?_|refine z10 ?_|apply dw_seq2|refine z16 ?_|refine z20 ?_|apply dw_block|apply dw_skip|apply dw_exit|refine z19 ?_|apply thenD_n|apply thenD_e|apply inB_n|refine z17 ?_|(apply dt_callV;exact rfl;exact rfl;exact rfl;exact rfl;apply hs;exact rfl;(exact rfl);exact rfl;exact rfl;exact⟨_,rfl⟩;rintro _ rfl)|(refine z23 ?_ ?_ <;> intro hg)|fail)
    all_goals try (exfalso;omega)
    exact⟨i + 1,⟨by omega,by omega,ht⟩,ent_ren id ⟨rfl,rfl,rfl,trivial⟩ ⟨rfl,trivial⟩ rfl rfl rfl rfl rfl rfl,by show l.length - (i + 1) < l.length - i;omega⟩
   | true =>
    have hb':=of_decide_eq_true hb
    rw [hb] at hs
    rw [if_pos hb',List.append_nil] at ht
    repeat' (first|refine z0 ?_|apply ds_nil|refine z5 ?_|refine z10 ?_|apply dw_seq2|refine z16 ?_|refine z20 ?_|apply dw_block|apply dw_skip|apply dw_exit|refine z18 ?_|apply thenD_n|apply thenD_e|refine z17 ?_|(apply dt_callV;exact rfl;exact rfl;exact rfl;exact rfl;apply hs;exact rfl;(exact rfl);exact rfl;exact rfl;exact⟨_,rfl⟩;rintro _ rfl)|(refine z23 ?_ ?_ <;> intro hg)|fail)
    all_goals try (exfalso;omega)
    refine ds_loop (ι:=Nat × Nat × List Fct) (fun x=>⟨1,[(0,.row 0),(1,.fn 195 []),(5,.d (.int .i64 x.1)),(6,.rsl 0 2 i ((l.map encFct).length - i)),(7,.d (.int .i64 x.2.1))],[(0,.row 95 2 (x.2.2.map encFct))]⟩)
     (fun x=>x.2.2.length=l.length∧1≤x.2.1∧x.2.1≤l.length - i∧i≤x.1∧x.1 + 1≤i + x.2.1∧x.2.2.take x.1=cmpF (l.take (i + x.2.1))∧∀ p,i + x.2.1≤p + 1→x.2.2[p]? = l[p]?) (fun x=>l.length - i - x.2.1)
     (i,1,l) ⟨rfl,by dsimp only;omega,by dsimp only;omega,by dsimp only;omega,by dsimp only;omega,by rw [ht,g2],fun _ _=>rfl⟩ (ent_ren id ⟨rfl,rfl,rfl,rfl,rfl,trivial⟩ ⟨rfl,trivial⟩ rfl rfl rfl rfl rfl rfl) ?_
    rintro⟨u,k,o⟩ ⟨q1,q2,q3,q4,q5,q6,q7⟩
    dsimp only at q1 q2 q3 q4 q5 q6 q7 ⊢
    have lo:(o.map encFct).length=o.length:=List.length_map _
    clear hs
    by_cases hk:k < l.length - i
    ·have o1:o[i + k]'(by omega)=l[i + k]'(by omega):=by
      have:=q7 (i + k) (by omega)
      rw [List.getElem?_eq_getElem (by omega),List.getElem?_eq_getElem (by omega)] at this
      exact Option.some.inj this
     have o2:o[i + k - 1]'(by omega)=l[i + k - 1]'(by omega):=by
      have:=q7 (i + k - 1) (by omega)
      rw [List.getElem?_eq_getElem (by omega),List.getElem?_eq_getElem (by omega)] at this
      exact Option.some.inj this
     have hs:Fn 195 [elFct (o[i + k]'(by omega)),elFct (o[i + ((k:Int) - 1).toNat]'(by omega))] (fun r=>r = .d (.bool (decide (ordF (l[i + k]'(by omega)) (l[i + k - 1]'(by omega))=0)))):=by
      have e:i + ((k:Int) - 1).toNat=i + k - 1:=by omega
      simp only [e,o1,o2]
      exact rsame_fn _ _
     have hc:=cmpF_take (l:=l) (n:=i + k) (by omega) (by omega)
     cases hb2:decide (ordF (l[i + k]'(by omega)) (l[i + k - 1]'(by omega))=0) with
     | true =>
      have hb3:=of_decide_eq_true hb2
      rw [hb2] at hs
      rw [if_pos hb3,List.append_nil] at hc
      repeat' (first|refine z0 ?_|apply ds_nil|refine z5 ?_|refine z10 ?_|apply dw_seq2|refine z16 ?_|refine z20 ?_|apply dw_block|apply dw_skip|apply dw_exit|refine z19 ?_|apply thenD_n|apply thenD_e|apply inB_n|refine z17 ?_|(apply dt_callV;exact rfl;exact rfl;exact rfl;exact rfl;apply hs;exact rfl;(exact rfl);exact rfl;exact rfl;exact⟨_,rfl⟩;rintro _ rfl)|(refine z23 ?_ ?_ <;> intro hg)|fail)
      all_goals try (exfalso;omega)
      exact⟨(u,k + 1,o),⟨q1,by dsimp only;omega,by dsimp only;omega,by dsimp only;omega,by dsimp only;omega,by dsimp only;rw [q6];exact hc.symm,fun p hp=>q7 p (by dsimp only at hp;omega)⟩,ent_ren id ⟨rfl,rfl,rfl,rfl,rfl,trivial⟩ ⟨rfl,trivial⟩ rfl rfl rfl rfl rfl rfl,by show l.length - i - (k + 1) < l.length - i - k;omega⟩
     | false =>
      have hb3:=of_decide_eq_false hb2
      rw [hb2] at hs
      rw [if_neg hb3] at hc
      repeat' (first|refine z0 ?_|apply ds_nil|(apply ds_stP;exact rfl;exact rfl;(apply hv_get;(omega));exact rfl;exact rfl;(exact hv_set rfl);exact rfl;exact rfl;exact rfl;exact rfl;exact rfl;exact rfl)|refine z5 ?_|refine z10 ?_|apply dw_seq2|refine z16 ?_|refine z20 ?_|apply dw_block|apply dw_skip|apply dw_exit|refine z18 ?_|apply thenD_n|apply thenD_e|apply inB_n|refine z17 ?_|(apply dt_callV;exact rfl;exact rfl;exact rfl;exact rfl;apply hs;exact rfl;(exact rfl);exact rfl;exact rfl;exact⟨_,rfl⟩;rintro _ rfl)|(refine z23 ?_ ?_ <;> intro hg)|fail)
      all_goals try (exfalso;omega)
      refine⟨(u + 1,k + 1,o.set u (o[i + k]'(by omega))),⟨by dsimp only;rw [List.length_set];exact q1,by dsimp only;omega,by dsimp only;omega,by dsimp only;omega,by dsimp only;omega,?_,fun p hp=>?_⟩,ent_ren id ⟨rfl,rfl,rfl,rfl,rfl,trivial⟩ ⟨rfl,trivial⟩ rfl rfl rfl rfl rfl rfl,by show l.length - i - (k + 1) < l.length - i - k;omega⟩
      ·dsimp only
       rw [List.take_succ_eq_append_getElem (by rw [List.length_set];omega),List.getElem_set_self,List.take_set,List.set_eq_of_length_le (by rw [List.length_take];omega),q6,o1]
       exact hc.symm
      ·dsimp only at hp ⊢
       rw [List.getElem?_set_ne (by omega)]
       exact q7 p (by omega)
    ·repeat' (first|refine z0 ?_|apply ds_nil|refine z5 ?_|apply dw_seq2|refine z16 ?_|refine z20 ?_|apply dw_block|apply dw_skip|apply dw_exit|apply thenD_n|apply thenD_e|refine z17 ?_|(refine z23 ?_ ?_ <;> intro hg)|fail)
     all_goals try (exfalso;omega)
     have hke:i + k=l.length:=by omega
     rw [hke,List.take_of_length_le (Nat.le_refl _)] at q6
     refine ds_clear [.int .i64 0,.slice 1 []] rfl rfl rfl rfl ⟨.inl rfl,.inr ⟨rfl,1,rfl⟩,trivial⟩ rfl rfl (by omega) (by omega) (by omega) rfl rfl ?_
     repeat' (first|refine z0 ?_|apply ds_nil|apply dw_seq2|refine z16 ?_|apply thenD_n)
     all_goals try (exfalso;omega)
     refine dw_ent (ent_cut (n:=u) 4 rfl rfl (by simp only [List.length_append,List.length_take,List.length_replicate,List.length_drop];omega) rfl) ?_
     refine dw_ent (ent_seal 4 rfl rfl rfl) ?_
     repeat' (first|apply dw_ret|apply thenD_r|apply inB_r)
     refine⟨.inl rfl,_,rfl,0,[],trivial,rfl,rfl,rfl,rfl,?_,rfl⟩
     refine congrArg (fun z=>SV.d (.slice 2 z)) ?_
     have hu:((o.map encFct).take u).length=u:=by rw [List.length_take];omega
     show List.take u ((o.map encFct).take u++List.replicate _ _++List.drop _ (o.map encFct))=_
     rw [List.append_assoc,List.take_append_of_le_length (by omega),List.take_of_length_le (by omega),← List.map_take,q6]
  ·rw [List.take_of_length_le (by omega)] at g2
   rw [g2]
   repeat' (first|refine z0 ?_|apply ds_nil|refine z5 ?_|apply dw_seq2|refine z16 ?_|refine z20 ?_|apply dw_block|apply dw_skip|apply dw_exit|apply thenD_n|apply thenD_e|refine z17 ?_|(refine z23 ?_ ?_ <;> intro hg)|fail)
   all_goals try (exfalso;omega)
   refine dw_ent (ent_seal 4 rfl rfl rfl) ?_
   repeat' (apply dw_ret)
   exact⟨.inl rfl,_,rfl,0,[],trivial,rfl,rfl,rfl,rfl,rfl,rfl⟩
set_option maxHeartbeats 8000000 in
theorem keep_fn (l:List Fct) (g:FuncId) (caps:List SV) (pr:Fct→Bool) (hlow:SV.lowL 0 caps=true) (hl:l.length≤4398046511104) (hargs:∀ x∈l,x.args.length≤17592186044416) (hg:∀ x∈l,Fn g ([elFct x]++caps) (fun r=>r = .d (.bool (pr x)))) :
  Fn 145 [.d (.slice 2 (l.map encFct)),.fn g caps] (fun r=>∃ s:List Fct,s.Perm (l.filter pr)∧s.Pairwise (fun a b=>ordF b a ≥ 0)∧r = .d (.slice 2 ((cmpF s).map encFct))):=by
 refine fnp_enter' _ Tryz.func145 rfl rfl (by kernel_rfl) ?_
 intro O w0 E0 β0
 have ll:(l.map encFct).length=l.length:=List.length_map _
 have hlows:∀ k,SV.lowL k caps=true:=fun k=>SV.lowL_mono k caps hlow
 repeat' ((fail_if_success (apply dw_stop 0));(first|refine z0 ?_|apply ds_nil|apply dw_seq2|refine z16 ?_|apply dw_block|apply thenD_n))
 refine dw_ent (ent_nilrow (t:=5) 95 2 rfl) ?_
 repeat' fail
 refine ds_loop (ι:=Nat × List Fct) (fun x=>⟨1,[(1,.fn g caps),(5,.row 0),(8,.d (.slice 2 (l.map encFct))),(9,.d (.int .i64 l.length)),(10,.d (.int .i64 x.1))],[(0,.row 95 2 (x.2.map encFct))]⟩)
  (fun x=>x.1≤l.length∧x.2=(l.take x.1).filter pr) (fun x=>l.length - x.1) (0,[]) ⟨Nat.zero_le _,rfl⟩ (ent_ren id ⟨(SV.ren_id _).symm,rfl,rfl,by rw [← ll];rfl,rfl,trivial⟩ ⟨rfl,trivial⟩ (by simp [Sl.low,SV.low,hlows]) rfl rfl rfl rfl rfl) ?_
 rintro⟨i,o⟩ ⟨g1,g2⟩
 dsimp only at g1 g2 ⊢
 have lo:(o.map encFct).length=o.length:=List.length_map _
 have hol:o.length≤i:=by rw [g2];have:=List.length_filter_le pr (l.take i);rw [List.length_take] at this;omega
 by_cases hi:i < l.length
 ·have hm:=List.getElem_mem hi
  have hx:=hg _ hm
  have hw:=own_fn l[i] (hargs _ hm)
  have hll:SV.lowL 0 ([elFct l[i]]++caps)=true:=by simp [SV.lowL,SV.low,hlow]
  have hstep:(l.take (i + 1)).filter pr=o++(if pr l[i] then [l[i]] else []):=by
   rw [List.take_succ_eq_append_getElem hi,List.filter_append,← g2]
   congr 1
   simp [List.filter_cons]
  cases hb:pr l[i] with
  | true =>
   rw [hb] at hx
   rw [hb,if_pos rfl] at hstep
   repeat' (first|refine z0 ?_|apply ds_nil|apply dw_seq2|refine z16 ?_|apply dw_block|apply dw_skip|apply dw_exit|refine z18 ?_|apply thenD_n|apply thenD_e|apply inB_n|refine z17 ?_|(apply ds_callV;exact rfl;exact rfl;exact rfl;exact rfl;apply hx;exact rfl;(assumption);exact rfl;rintro _ rfl)|refine z21 ?_ (hc:=by apply hw)|refine z1 ?_|refine z3 ?_|refine z4 ?_|refine z2 ?_|(refine z23 ?_ ?_ <;> intro hg)|fail)
   all_goals try (exfalso;omega)
   exact⟨(i + 1,o++[l[i]]),⟨by dsimp only;omega,hstep.symm⟩,ent_ren (fun j=>match j with|0=>2|j=>j) ⟨(SV.ren_low0 _ (.fn g caps) hlow).symm,rfl,rfl,rfl,rfl,trivial⟩ ⟨by rw [List.map_append];rfl,trivial⟩ (by simp [Sl.low,SV.low,hlows]) rfl rfl rfl rfl rfl,by show l.length - (i + 1) < l.length - i;omega⟩
  | false =>
   rw [hb] at hx
   rw [hb,if_neg (by simp),List.append_nil] at hstep
   repeat' (first|refine z0 ?_|apply ds_nil|apply dw_seq2|refine z16 ?_|apply dw_block|apply dw_skip|apply dw_exit|refine z19 ?_|apply thenD_n|apply thenD_e|apply inB_n|refine z17 ?_|(apply ds_callV;exact rfl;exact rfl;exact rfl;exact rfl;apply hx;exact rfl;(assumption);exact rfl;rintro _ rfl)|refine z1 ?_|refine z3 ?_|(refine z23 ?_ ?_ <;> intro hg)|fail)
   all_goals try (exfalso;omega)
   exact⟨(i + 1,o),⟨by dsimp only;omega,hstep.symm⟩,ent_ren id ⟨(SV.ren_low0 _ (.fn g caps) hlow).symm,rfl,rfl,rfl,rfl,trivial⟩ ⟨rfl,trivial⟩ (by simp [Sl.low,SV.low,hlows]) rfl rfl rfl rfl rfl,by show l.length - (i + 1) < l.length - i;omega⟩
 ·rw [List.take_of_length_le (by omega)] at g2
  repeat' (first|refine z0 ?_|apply ds_nil|apply dw_seq2|refine z16 ?_|apply dw_block|apply dw_skip|apply dw_exit|apply thenD_n|apply thenD_e|refine z17 ?_|refine z1 ?_|refine z3 ?_|(refine z23 ?_ ?_ <;> intro hg)|fail)
  all_goals try (exfalso;omega)
  refine ds_sort sortFacts_c o (by kernel_rfl) rfl rfl rfl rfl rfl rfl (by omega) ?_
  intro s hp hs
  have hsl:s.length≤4398046511104:=by rw [hp.length_eq];omega
  refine ds_ent (ent_ren (k':=1) (L':=[(5,.row 0)]) (H':=[(0,.row 95 2 (s.map encFct))]) id ⟨rfl,trivial⟩ ⟨rfl,trivial⟩ rfl rfl rfl rfl rfl rfl) ?_
  repeat' (first|refine z0 ?_|apply ds_nil|apply dw_seq2|refine z16 ?_|apply thenD_n)
  all_goals try (exfalso;omega)
  (refine ds_callF id (compact_fn s hsl) rfl rfl rfl rfl ⟨rfl,trivial⟩ rfl rfl rfl rfl rfl rfl ?_ ?_)
  ·rintro k2 r H2 ⟨rfl,rfl⟩;exact⟨rfl,rfl⟩
  rintro k2 r H2 ⟨rfl,rfl⟩
  change DS _ _ _ _ _ _ _ _
  repeat' (first|refine z0 ?_|apply ds_nil|apply dw_ret|apply thenD_n)
  exact⟨.inl rfl,_,rfl,rfl,s,g2▸hp,hs,rfl⟩
def Strict (l:List Fct):Prop:=l.Pairwise fun x y=>ordF x y < 0
theorem lt_irrefl {x:Fct} (h:ordF x x < 0):False:=by rw [ordF_self] at h;omega
theorem lt_asymm {x y:Fct} (h:ordF x y < 0) (g:ordF y x < 0):False:=lt_irrefl (ordF_trans h g)
theorem strict_ext:∀ {a b:List Fct},Strict a→Strict b→(∀ x,x∈a↔x∈b)→a=b
 | [],[],_,_,_=>rfl
 | [],y::b,_,_,h=>by have:=(h y).2 List.mem_cons_self;simp at this
 | x::a,[],_,_,h=>by have:=(h x).1 List.mem_cons_self;simp at this
 | x::a,y::b,ha,hb,h=>by
  obtain⟨a1,a2⟩:=List.pairwise_cons.1 ha
  obtain⟨b1,b2⟩:=List.pairwise_cons.1 hb
  have hxy:x=y:=by
   rcases List.mem_cons.1 ((h x).1 List.mem_cons_self) with h1|h1
   ·exact h1
   ·rcases List.mem_cons.1 ((h y).2 List.mem_cons_self) with h2|h2
    ·exact h2.symm
    ·exact (lt_asymm (b1 x h1) (a1 y h2)).elim
  subst hxy
  rw [strict_ext a2 b2 fun z=>?_]
  constructor
  ·intro hz
   rcases List.mem_cons.1 ((h z).1 (List.mem_cons_of_mem _ hz)) with h1|h1
   ·subst h1;exact (lt_irrefl (a1 z hz)).elim
   ·exact h1
  ·intro hz
   rcases List.mem_cons.1 ((h z).2 (List.mem_cons_of_mem _ hz)) with h1|h1
   ·subst h1;exact (lt_irrefl (b1 z hz)).elim
   ·exact h1
theorem cmpG_spec:∀ (l:List Fct) (p:Fct),(p::l).Pairwise (fun a b=>ordF b a ≥ 0)→Strict (p::cmpG p l)∧∀ x,x∈p::cmpG p l↔x∈p::l
 | [],p,_=>⟨List.pairwise_cons.2 ⟨fun x hx=>by simp [cmpG] at hx,.nil⟩,fun x=>Iff.rfl⟩
 | y::l,p,h=>by
  obtain⟨h1,h2⟩:=List.pairwise_cons.1 h
  obtain⟨i1,i2⟩:=cmpG_spec l y h2
  unfold cmpG
  split
  ·rename_i h3
   have:=ordF_eq0 h3
   subst this
   refine⟨i1,fun x=>(i2 x).trans ⟨fun hx=>List.mem_cons_of_mem _ hx,fun hx=>?_⟩⟩
   rcases List.mem_cons.1 hx with rfl|hx
   ·exact List.mem_cons_self
   ·exact hx
  ·rename_i h3
   have hpy:ordF p y < 0:=by have:=h1 y List.mem_cons_self;rw [ordF_anti];omega
   refine⟨List.pairwise_cons.2 ⟨fun z hz=>?_,i1⟩,fun x=>?_⟩
   ·rcases List.mem_cons.1 hz with rfl|hz
    ·exact hpy
    ·exact ordF_trans hpy ((List.pairwise_cons.1 i1).1 z hz)
   ·rw [List.mem_cons,List.mem_cons (a:=x) (b:=p),i2 x]
theorem cmpF_spec {s:List Fct} (h:s.Pairwise (fun a b=>ordF b a ≥ 0)):Strict (cmpF s)∧∀ x,x∈cmpF s↔x∈s:=by
 match s,h with
 | [],_=>exact⟨.nil,fun _=>Iff.rfl⟩
 | p::l,h=>exact cmpG_spec l p h
theorem kFrom_spec {l:List Fct} {f:Fct}:∀ (n:Nat),n≤l.length→kFrom l f n≤n∧(∀ j (hj:j < l.length),kFrom l f n≤j→j < n→0 < ordF l[j] f)∧(∀ j (hj:j < l.length),j + 1=kFrom l f n→¬ 0 < ordF l[j] f)
 | 0,_=>⟨Nat.le_refl _,fun j _ _ h=>by omega,fun j _ h=>by simp [kFrom] at h⟩
 | n + 1,hn=>by
  obtain⟨i1,i2,i3⟩:=kFrom_spec (l:=l) (f:=f) n (by omega)
  rw [kFrom_succ (by omega)]
  split
  ·rename_i h
   refine⟨by omega,fun j hj h1 h2=>?_,i3⟩
   by_cases hjn:j=n
   ·subst hjn;exact h
   ·exact i2 j hj h1 (by omega)
  ·rename_i h
   refine⟨Nat.le_refl _,fun j hj h1 h2=>by omega,fun j hj h1=>?_⟩
   have:j=n:=by omega
   subst this
   exact h
theorem hasF_iff {l:List Fct} {f:Fct}:hasF l f=true↔f∈l:=by
 unfold hasF
 rw [List.any_eq_true]
 constructor
 ·rintro⟨x,hx,h⟩;rw [← ordF_eq0 (of_decide_eq_true h)];exact hx
 ·intro h;exact⟨f,h,decide_eq_true (ordF_self f)⟩
theorem insF_spec {l:List Fct} {f:Fct} (h:Strict l):Strict (insF l f)∧∀ x,x∈insF l f↔x∈l∨x=f:=by
 unfold insF
 split
 ·rename_i hh
  have:=hasF_iff.1 hh
  exact⟨h,fun x=>⟨.inl,fun hx=>hx.elim id fun e=>e▸this⟩⟩
 ·rename_i hh
  have hf:f ∉ l:=fun hm=>hh (hasF_iff.2 hm)
  obtain⟨k1,k2,k3⟩:=kFrom_spec (l:=l) (f:=f) l.length (Nat.le_refl _)
  generalize kFrom l f l.length=k at k1 k2 k3
  have hpi:=List.pairwise_iff_getElem.1 h
  have hlo:∀ j (hj:j < l.length),j < k→ordF l[j] f < 0:=by
   intro j hj hjk
   have hk1:k - 1 < l.length:=by omega
   have h1:=k3 (k - 1) hk1 (by omega)
   have hne:ordF l[k - 1] f≠0:=fun e=>hf (ordF_eq0 e▸List.getElem_mem hk1)
   have h2:ordF l[k - 1] f < 0:=by omega
   by_cases hjk1:j=k - 1
   ·subst hjk1;exact h2
   ·exact ordF_trans (hpi j (k - 1) hj hk1 (by omega)) h2
  have hhi:∀ j (hj:j < l.length),k≤j→ordF f l[j] < 0:=fun j hj hjk=>by have:=k2 j hj hjk hj;rw [ordF_anti];omega
  have htk:∀ x∈l.take k,ordF x f < 0:=by
   intro x hx
   obtain⟨j,hj,rfl⟩:=List.mem_iff_getElem.1 hx
   rw [List.length_take] at hj
   rw [List.getElem_take]
   exact hlo j (by omega) (by omega)
  have hdk:∀ x∈l.drop k,ordF f x < 0:=by
   intro x hx
   obtain⟨j,hj,rfl⟩:=List.mem_iff_getElem.1 hx
   rw [List.length_drop] at hj
   rw [List.getElem_drop]
   exact hhi (k + j) (by omega) (by omega)
  refine⟨List.pairwise_append.2 ⟨h.sublist (List.take_sublist _ _),List.pairwise_cons.2 ⟨hdk,h.sublist (List.drop_sublist _ _)⟩,fun x hx y hy=>?_⟩,fun x=>?_⟩
  ·rcases List.mem_cons.1 hy with rfl|hy
   ·exact htk x hx
   ·exact ordF_trans (htk x hx) (hdk y hy)
  ·rw [List.mem_append,List.mem_cons]
   constructor
   ·rintro (hx|rfl|hx)
    ·exact .inl (List.mem_of_mem_take hx)
    ·exact .inr rfl
    ·exact .inl (List.mem_of_mem_drop hx)
   ·rintro (hx|rfl)
    ·have:=hx
     rw [← List.take_append_drop k l] at this
     rcases List.mem_append.1 this with h1|h1
     ·exact .inl h1
     ·exact .inr (.inr h1)
    ·exact .inr (.inl rfl)
theorem setF_spec':∀ (l o:List Fct),Strict o→Strict (l.foldl insF o)∧∀ x,x∈l.foldl insF o↔x∈o∨x∈l
 | [],o,h=>⟨h,fun x=>by simp⟩
 | y::l,o,h=>by
  obtain⟨i1,i2⟩:=insF_spec (f:=y) h
  obtain⟨j1,j2⟩:=setF_spec' l (insF o y) i1
  refine⟨j1,fun x=>?_⟩
  rw [List.foldl_cons,j2,i2,List.mem_cons,or_assoc]
theorem setF_spec (l:List Fct):Strict (setF' l)∧∀ x,x∈setF' l↔x∈l:=by
 obtain⟨h1,h2⟩:=setF_spec' l [] .nil
 exact⟨h1,fun x=>(h2 x).trans (by simp)⟩
theorem keep_set {s l:List Fct} (hp:s.Perm l) (hs:s.Pairwise (fun a b=>ordF b a ≥ 0)):cmpF s=setF' l :=
 strict_ext (cmpF_spec hs).1 (setF_spec l).1 fun x=>by rw [(cmpF_spec hs).2,(setF_spec l).2,hp.mem_iff]
theorem half_u64 (i j:Nat) (h:i + j≤9223372036854775807):shrN .u64 (IntKind.u64.wrap ((i:Int) + j)) 1=(((i + j) / 2:Nat):Int):=by
 have hw:IntKind.u64.wrap ((i:Int) + j)=(i:Int) + j:=by simp [IntKind.wrap,IntKind.bits,IntKind.signed];omega
 rw [hw]
 unfold shrN
 rw [show (2:Int) ^ min (1:Int).toNat IntKind.u64.bits=2 from by decide,Int.fdiv_eq_ediv_of_nonneg _ (by decide)]
 omega
end Go.Proofs.YtapciiffpnociabGreat
namespace Go.Proofs.YtapciiffpnociabGreat
open Go Go.RowKit
def Kepts (L:Sl):Sl→Prop
 | []=>True
 | (t,s)::r=>Sl.get L t=s∧Kepts L r
def params:List Nat→List SV→Sl→Sl
 | p::ps,s::ss,L=>params ps ss ((p,s)::L)
 | _,_,L=>L
theorem Heap.widen {Γ:Ctx} {k:Nat→Prop} {H:Hp} {e:Env} {w:World} {l:Nat} (h:Heap Γ k H e w) (hl:¬ Γ.O l):Heap ⟨Γ.P,Γ.τ,Γ.τok,Γ.O,Γ.w0,fun b=>Γ.E0 b∨b=l,Γ.n,Γ.J,Γ.β0,Γ.rd,Γ.pan,Γ.mks,Γ.dr⟩ k H e w where
 top:=h.top
 heap:=h.heap
 ids:=h.ids
 nodup:=h.nodup
 mine b hb:=⟨(h.mine b hb).1.imp .inl id,(h.mine b hb).2⟩
 os:=h.os
 tape:=h.tape
 output:=h.output
 drawn:=h.drawn
 size:=h.size
 block b h1 h2:=h.block b h1 fun h=>h2 (.inl h)
 obound b hb:=⟨(h.obound b hb).1,fun hx=>hx.elim (h.obound b hb).2 fun hx=>hl (hx▸hb)⟩
 jle:=h.jle
 anchor:=h.anchor
end Go.Proofs.YtapciiffpnociabGreat
namespace Go.Proofs.YtapciiffpnociabGreat
open Go Go.RowKit
def SV.flat:SV→Bool
 | .val _=>true
 | .junk=>true
 | .d (.int _ _)=>true
 | .d (.bool _)=>true
 | _=>false
theorem Rel.flat {X e w X' e' w'}:∀ (s:SV) (v:Value),s.flat=true→Rel X e w s v→Rel X' e' w' s v
 | .val _,_,_,h=>h
 | .junk,_,_,_=>trivial
 | .d (.int _ _),_,_,h=>by
  have h':RepC _ _ _ _:=h
  cases h' with
  | int g=>exact RepC.int g
 | .d (.bool _),_,_,h=>by
  have h:RepC _ _ _ _:=h
  cases h
  exact RepC.bool
 | .d (.str _),_,h,_=>nomatch h
 | .d (.slice _ _),_,h,_=>nomatch h
 | .nils,_,h,_=>nomatch h
 | .pd _,_,h,_=>nomatch h
 | .loc _ _,_,h,_=>nomatch h
 | .row _,_,h,_=>nomatch h
 | .mp _,_,h,_=>nomatch h
 | .md _ _,_,h,_=>nomatch h
 | .prow _ _ _ _,_,h,_=>nomatch h
 | .sl _ _ _ _,_,h,_=>nomatch h
 | .rsl _ _ _ _,_,h,_=>nomatch h
 | .fn _ _,_,h,_=>nomatch h
 | .agg _,_,h,_=>nomatch h
 | .tup _,_,h,_=>nomatch h
def flatB:Sl→Bool
 | []=>true
 | (_,s)::r=>s.flat && flatB r
theorem flat_get:∀ {L:Sl},flatB L=true→∀ t,(L.get t).flat=true
 | [],_,_=>rfl
 | (d,s)::r,h,t=>by
  simp only [flatB,Bool.and_eq_true] at h
  rw [Sl.get_cons]
  split
  ·exact h.1
  ·exact flat_get h.2 t
theorem kepts_get {L:Sl}:∀ {L':Sl},Kepts L L'→∀ t,L'.get t = .junk∨L'.get t=L.get t
 | [],_,_=>.inl rfl
 | (d,s)::r,h,t=>by
  rw [Sl.get_cons]
  split
  ·rename_i hd;subst hd;exact .inr h.1.symm
  ·exact kepts_get h.2 t
structure Flat (N:Nat) (L:Sl) (a:Act):Prop where
 len:a.tmps.size=N
 defers:a.defers=[]
 slot:∀ t X e w,Rel X e w (L.get t) (a.tmps.getD t undef)
abbrev Γit (P:Program) (τ:List (Nat × TI)) (τok:TabOk P τ) (O:Nat→Prop) (W:World) (N:Nat):Ctx:=⟨P,τ,τok,O,W,fun _=>False,N,0,fun _=>(0,undef),none,noPan,false,false⟩
section
variable {P : Program} {τ : List (Nat × TI)} {τok : TabOk P τ} {O : Nat → Prop} {N : Nat} {L : Sl}
theorem Models.flatten {W:World} {k:Nat→Prop} {H:Hp} {e:Env} {a:Act} {w:World} (m:Models (Γit P τ τok O W N) k L H e a w) {Ls:Sl} (hK:Kepts L Ls) (hf:flatB Ls=true):Flat N Ls a where
 len:=m.len
 defers:=by
  obtain⟨rs,h1,h0,_⟩:=m.defers
  rw [h1,h0 rfl];rfl
 slot t X e' w':=by
  have hg:=flat_get hf t
  rcases kepts_get hK t with h|h
  ·rw [h];trivial
  ·rw [h] at hg ⊢;exact Rel.flat _ _ hg (m.slot t)
end
section
variable {Γ : Ctx} {k : Nat} {L : Sl} {H : Hp} {K : Next'} {ops : List Oper} {rest : List Oper} {x y : Operand} {t ty : TypeId}
end
section
variable {Γ : Ctx} {k : Nat} {L : Sl} {H : Hp} {R : Exit → Act → World → Prop}
end
section
variable {Γ : Ctx} {k : Nat} {L : Sl} {H : Hp} {R : Exit → Act → World → Prop}
end
theorem FnP.imp {dr:Bool} {P:Program} {τ:List (Nat × TI)} {τok:TabOk P τ} {f:FuncId} {args:List SV} {R R':SV→Prop} (h:FnP dr P τ τok f args R) (g:∀ r,R r→R' r):FnP dr P τ τok f args R' :=
 ⟨h.1,fun O e w vs hH hr=>(h.2 O e w vs hH hr).mono fun _ _ ⟨k',r,H',e',v,⟨a,b,c⟩,d⟩=>⟨k',r,H',e',v,⟨a,b,g r c⟩,d⟩⟩
attribute [local irreducible] DW DS DL DQ Ev FnOk FnP thenD inBlockD DT
theorem keepS_fn (l:List Fct) (g:FuncId) (caps:List SV) (pr:Fct→Bool) (hlow:SV.lowL 0 caps=true) (hl:l.length≤4398046511104) (hargs:∀ x∈l,x.args.length≤17592186044416) (hg:∀ x∈l,Fn g ([elFct x]++caps) (fun r=>r = .d (.bool (pr x)))) :
  Fn 145 [.d (.slice 2 (l.map encFct)),.fn g caps] (fun r=>r = .d (.slice 2 ((setF' (l.filter pr)).map encFct))) :=
 FnP.imp (keep_fn l g caps pr hlow hl hargs hg) fun r ⟨s,h1,h2,h3⟩=>by rw [h3,keep_set h1 h2]
set_option maxHeartbeats 8000000 in
theorem set_fn (l:List Fct) (hl:l.length≤4398046511104) (hargs:∀ x∈l,x.args.length≤17592186044416):Fn 97 [.d (.slice 2 (l.map encFct))] (fun r=>r = .d (.slice 2 ((setF' l).map encFct))):=by
 refine fnp_enter' _ Tryz.func97 rfl rfl (by kernel_rfl) ?_
 intro O w0 E0 β0
 have hk:=keepS_fn l 146 [] (fun _=>true) rfl hl hargs (fun x _=>setAny_fn x)
 rw [show l.filter (fun _=>true)=l from List.filter_eq_self.2 fun _ _=>rfl] at hk
 repeat' (first|refine z0 ?_|apply ds_nil|apply dw_seq2|refine z16 ?_|apply dw_ret|apply thenD_n|refine z21 ?_ (hc:=by apply hk)|fail)
 exact⟨.inl rfl,_,rfl,rfl,rfl⟩




theorem ent_freezeL {Γ:Ctx} {k:Nat} {L:Sl} {H:Hp} (t i:Nat) {ty:TypeId} {ds:List D} (hL:L.get t = .loc i 0) (hH:Hp.get H i=some (.blk ty (ds.map .d))):Ent Γ k L H k ((t,.pd ds)::L) (Hp.del H i):=by
 intro e a w m
 obtain⟨m2,hX⟩:=m.del i
 have hmem:=Hp.mem_of hH
 refine⟨e,m2.toHeap,m2.defers,m2.len,fun t'=>?_⟩
 rw [Sl.get_cons]
 split
 ·rename_i ht
  subst ht
  have hs:=m.slot t
  rw [hL] at hs
  obtain⟨_,hv⟩:=hs
  obtain⟨us,g1,g2,_⟩:=(m.heap _ hmem).2
  have hown:HB.owned e (i,.blk ty (ds.map .d))=some (e.β i):=rfl
  refine⟨e.β i,0,hv,lt_of_heap g1,fun hx=>?_,fun j hj=>?_⟩
  ·rcases hx with hx|hx
   ·exact (m.mine _ (List.mem_filterMap.2 ⟨_,hmem,hown⟩)).2 hx
   ·obtain⟨p,hp,hpg⟩:=List.mem_filterMap.1 hx
    have hd:=Hp.del_mem (i:=i) H m.ids p hp
    exact m.owned_ne hd.1 hmem hd.2 hpg hown
  ·obtain⟨u,g3,g4⟩:=RelL.get _ _ g2 j (.d ds[j]) (by rw [List.getElem?_map,List.getElem?_eq_getElem hj];rfl)
   refine⟨u,?_,RepC.keep (Nat.le_refl _) (fun _ _ _=>rfl) (fun b _ h=>hX b h) g4⟩
   rw [cell_of_row w _ _ _ ty (0,0) g1,Nat.zero_add];simpa using g3
 ·exact m2.slot t'
def posU (l:List Upd) (i:UId):Nat:=l.countP fun u=>decide (ordId u.id i < 0)
theorem posU_at {l:List Upd} {i:UId} {n:Nat} (hn:n≤l.length) (h1:∀ p (hp:p < l.length),p < n→ordId l[p].id i < 0) (h2:∀ p (hp:p < l.length),n≤p→0≤ordId l[p].id i):posU l i=n:=by
 unfold posU
 rw [← List.take_append_drop n l,List.countP_append]
 have e1:(l.take n).countP (fun u=>decide (ordId u.id i < 0))=(l.take n).length:=List.countP_eq_length.2 fun u hu=>by
  obtain⟨p,hp,rfl⟩:=List.mem_iff_getElem.1 hu
  rw [List.length_take] at hp
  rw [List.getElem_take]
  exact decide_eq_true (h1 p (by omega) (by omega))
 have e2:(l.drop n).countP (fun u=>decide (ordId u.id i < 0))=0:=List.countP_eq_zero.2 fun u hu=>by
  obtain⟨p,hp,rfl⟩:=List.mem_iff_getElem.1 hu
  rw [List.length_drop] at hp
  rw [List.getElem_drop]
  have:=h2 (n + p) (by omega) (by omega)
  simp only [decide_eq_true_eq]
  omega
 rw [e1,e2,List.length_take]
 omega
theorem strU_below {l:List Upd} {i:UId} {h:Nat} (hs:StrU l) (hml:h < l.length) (hg:ordId l[h].id i < 0):∀ p (hp:p < l.length),p < h + 1→ordId l[p].id i < 0:=by
 intro p hp hlt
 by_cases he:p=h
 ·subst he;exact hg
 ·exact ordId_trans (List.pairwise_iff_getElem.1 hs p h hp hml (by omega)) hg
theorem strU_above {l:List Upd} {i:UId} {h:Nat} (hs:StrU l) (hml:h < l.length) (hg:0≤ordId l[h].id i):∀ p (hp:p < l.length),h≤p→0≤ordId l[p].id i:=by
 intro p hp hlt
 by_cases he:p=h
 ·subst he;exact hg
 ·have h1:=List.pairwise_iff_getElem.1 hs h p hml hp (by omega)
  apply Classical.byContradiction
  intro hc
  have h3:=ordId_trans h1 (by omega:ordId l[p].id i < 0)
  omega
theorem foundU_at {l:List Upd} {i:UId} {n:Nat} (hs:StrU l) (h1:∀ p (hp:p < l.length),p < n→ordId l[p].id i < 0) (h2:∀ p (hp:p < l.length),n≤p→0≤ordId l[p].id i):hasU l i=(if h:n < l.length then decide (ordId l[n].id i=0) else false):=by
 rw [Bool.eq_iff_iff,hasU_iff]
 have hpi:=List.pairwise_iff_getElem.1 hs
 constructor
 ·rintro⟨u,hu,rfl⟩
  obtain⟨p,hp,rfl⟩:=List.mem_iff_getElem.1 hu
  have hpi':¬ p < n:=fun h=>ordId_irr (h1 p hp h)
  rw [dif_pos (by omega)]
  by_cases he:p=n
  ·subst he;exact decide_eq_true (ordId_self _)
  ·have:=hpi n p (by omega) hp (by omega)
   have:=h2 n (by omega) (Nat.le_refl _)
   omega
 ·intro h
  split at h
  ·rename_i hi
   exact⟨_,List.getElem_mem hi,ordId_eq (of_decide_eq_true h)⟩
  ·cases h
set_option maxHeartbeats 8000000 in
theorem dorder_fn (a b:Upd):Fn 87 [elUpd a,elUpd b] (fun r=>r = .d (.int .i64 (ordId a.id b.id))):=by
 refine fnp_enter' _ Tryz.func87 rfl rfl (by kernel_rfl) ?_
 intro O w0 E0 β0
 have w:=order_fn a.id b.id
 repeat' (first|refine z0 ?_|apply ds_nil|apply dw_seq2|refine z16 ?_|apply dw_ret|apply thenD_n|refine z21 ?_ (hc:=by apply w)|refine z1 ?_|fail)
 exact ret_i rfl rfl
set_option maxHeartbeats 8000000 in
theorem at1_fn (u:Upd) (i:UId):Fn 179 [elUpd u,elId i] (fun r=>r = .d (.int .i64 (ordId u.id i))):=by
 refine fnp_enter' _ Tryz.func179 rfl rfl (by kernel_rfl) ?_
 intro O w0 E0 β0
 have w:=order_fn u.id i
 repeat' (first|refine z0 ?_|apply ds_nil|apply dw_seq2|refine z16 ?_|apply dw_ret|apply thenD_n|refine z21 ?_ (hc:=by apply w)|refine z1 ?_|fail)
 exact ret_i rfl rfl
set_option maxHeartbeats 8000000 in
theorem bsearchU_fn (l:List Upd) (f:UId) (hl:l.length≤1000000) (hs:StrU l):Fn 178 [.d (.slice 5 (l.map encUpd)),elId f,.fn 179 []] (fun r=>r = .tup [.d (.int .i64 (posU l f)),.d (.bool (hasU l f))]):=by
 refine fnp_enter' _ Tryz.func178 rfl rfl (by kernel_rfl) ?_
 intro O w0 E0 β0
 have ll:(l.map encUpd).length=l.length:=List.length_map _
 repeat' (first|refine z0 ?_|apply ds_nil|apply dw_seq2|refine z16 ?_|apply dw_block|apply thenD_n|refine z1 ?_|fail)
 refine ds_loop (ι:=Nat × Nat) (fun x=>⟨1,[(0,.d (.slice 5 (l.map encUpd))),(2,.fn 179 []),(4,.loc 0 0),(8,.d (.int .i64 l.length)),(9,.d (.int .i64 x.1)),(10,.d (.int .i64 x.2))],[(0,.blk 31 [.d (.int .i64 f.author),.d (.int .i64 f.number)])]⟩)
  (fun x=>x.1≤x.2∧x.2≤l.length∧(∀ p (hp:p < l.length),p < x.1→ordId l[p].id f < 0)∧(∀ p (hp:p < l.length),x.2≤p→0≤ordId l[p].id f)) (fun x=>x.2 - x.1)
  (0,l.length) ⟨Nat.zero_le _,Nat.le_refl _,fun p _ h=>absurd h (Nat.not_lt_zero p),fun p hp h=>by omega⟩ (ent_ren id ⟨rfl,rfl,rfl,by rw [← ll];rfl,rfl,by rw [← ll];rfl,trivial⟩ ⟨rfl,trivial⟩ rfl rfl rfl rfl rfl rfl) ?_
 rintro⟨i,j⟩ ⟨g1,g2,g3,g4⟩
 dsimp only at g1 g2 g3 g4 ⊢
 by_cases hij:i < j
 ·have he:=half_u64 i j (by omega)
  have hm1:i≤(i + j) / 2:=by omega
  have hm2:(i + j) / 2 < j:=by omega
  have hml:(i + j) / 2 < l.length:=by omega
  have hw:=at1_fn (l[(i + j) / 2]'hml) f
  repeat' ((fail_if_success (apply dw_stopS 5));(first|refine z0 ?_|apply ds_nil|refine z5 ?_|refine z14 ?_|refine z10 ?_|apply dw_seq2|refine z16 ?_|refine z20 ?_|apply dw_block|apply dw_skip|apply dw_exit|apply dw_ret|apply thenD_n|apply thenD_e|refine z17 ?_|(refine z23 ?_ ?_ <;> intro hg)|((fail_if_success (apply dt_known;exact rfl));apply dt_guardP;exact rfl;exact rfl;exact rfl;all_goals intro hg)))
  all_goals try (exfalso;omega)
  refine dw_ent (k':=1) (L':=[(11,.d (.int .i64 (((i + j) / 2:Nat):Int))),(0,.d (.slice 5 (l.map encUpd))),(2,.fn 179 []),(4,.loc 0 0),(8,.d (.int .i64 l.length)),(9,.d (.int .i64 i)),(10,.d (.int .i64 j))]) (H':=[(0,.blk 31 [.d (.int .i64 f.author),.d (.int .i64 f.number)])]) ?_ ?_
  ·rw [← he]
   exact ent_ren id ⟨rfl,rfl,rfl,rfl,rfl,rfl,rfl,trivial⟩ ⟨rfl,trivial⟩ rfl rfl rfl rfl rfl rfl
  generalize (i + j) / 2=h at *
  repeat' (first|refine z0 ?_|apply ds_nil|refine z5 ?_|refine z10 ?_|apply dw_seq2|refine z16 ?_|refine z20 ?_|apply thenD_n|apply inB_n|(apply dt_callV;exact rfl;exact rfl;exact rfl;exact rfl;apply hw;exact rfl;(exact rfl);exact rfl;exact rfl;exact⟨_,rfl⟩;rintro _ rfl)|(refine z23 ?_ ?_ <;> intro hg)|fail)
  all_goals try (exfalso;omega)
  all_goals first
   | exact⟨(h + 1,j),⟨by dsimp only;omega,g2,strU_below hs hml hg,g4⟩,ent_ren id ⟨rfl,rfl,rfl,rfl,rfl,rfl,trivial⟩ ⟨rfl,trivial⟩ rfl rfl rfl rfl rfl rfl,by show j - (h + 1) < j - i;omega⟩
   | exact⟨(i,h),⟨hm1,by dsimp only;omega,g3,strU_above hs hml (Int.not_lt.1 hg)⟩,ent_ren id ⟨rfl,rfl,rfl,rfl,rfl,rfl,trivial⟩ ⟨rfl,trivial⟩ rfl rfl rfl rfl rfl rfl,by show h - i < j - i;omega⟩
 ·have hij':i=j:=by omega
  subst hij'
  have hf:=foundU_at hs g3 g4
  rw [posU_at g2 g3 g4]
  by_cases hil:i < l.length
  ·rw [dif_pos hil] at hf
   have hw:=at1_fn l[i] f
   rw [hf]
   repeat' (first|refine z0 ?_|apply ds_nil|refine z5 ?_|refine z14 ?_|refine z10 ?_|apply dw_seq2|refine z16 ?_|refine z20 ?_|apply dw_block|apply dw_skip|apply dw_exit|apply dw_ret|apply thenD_n|apply thenD_e|refine z17 ?_|(apply dt_callV;exact rfl;exact rfl;exact rfl;exact rfl;apply hw;exact rfl;(exact rfl);exact rfl;exact rfl;exact⟨_,rfl⟩;rintro _ rfl)|(refine z23 ?_ ?_ <;> intro hg)|((fail_if_success (apply dt_known;exact rfl));apply dt_guardP;exact rfl;exact rfl;exact rfl;all_goals intro hg))
   all_goals try (exfalso;omega)
   all_goals exact⟨.inl rfl,_,rfl,rfl,rfl⟩
  ·rw [dif_neg hil] at hf
   rw [hf]
   repeat' (first|refine z0 ?_|apply ds_nil|refine z5 ?_|refine z14 ?_|refine z10 ?_|apply dw_seq2|refine z16 ?_|refine z20 ?_|apply dw_block|apply dw_skip|apply dw_exit|apply dw_ret|apply thenD_n|apply thenD_e|refine z17 ?_|(refine z23 ?_ ?_ <;> intro hg)|((fail_if_success (apply dt_known;exact rfl));apply dt_guardP;exact rfl;exact rfl;exact rfl;all_goals intro hg))
   all_goals try (exfalso;omega)
   exact⟨.inl rfl,_,rfl,rfl,rfl⟩
set_option maxHeartbeats 8000000 in
theorem at_fn (l:List Upd) (i:UId) (hl:l.length≤1000000) (hs:StrU l):Fn 135 [.d (.slice 5 (l.map encUpd)),elId i] (fun r=>r = .tup [.d (.int .i64 (posU l i)),.d (.bool (hasU l i))]):=by
 refine fnp_enter' _ Tryz.func135 rfl rfl (by kernel_rfl) ?_
 intro O w0 E0 β0
 have w:=bsearchU_fn l i hl hs
 repeat' (first|refine z0 ?_|apply ds_nil|apply dw_seq2|refine z16 ?_|apply dw_ret|apply thenD_n|refine z21 ?_ (hc:=by apply w)|refine z1 ?_|fail)
 exact⟨.inl rfl,_,rfl,rfl,rfl⟩
set_option maxHeartbeats 8000000 in
theorem dhas_fn (l:List Upd) (i:UId) (hl:l.length≤1000000) (hs:StrU l):Fn 90 [.d (.slice 5 (l.map encUpd)),elId i] (fun r=>r = .d (.bool (hasU l i))):=by
 refine fnp_enter' _ Tryz.func90 rfl rfl (by kernel_rfl) ?_
 intro O w0 E0 β0
 have w:=at_fn l i hl hs
 repeat' (first|refine z0 ?_|apply ds_nil|apply dw_seq2|refine z16 ?_|apply dw_ret|apply thenD_n|refine z21 ?_ (hc:=by apply w)|refine z1 ?_|fail)
 exact ret_b rfl rfl
set_option maxHeartbeats 8000000 in
theorem growId_fn (n:Nat) (hn:n≤1000000):FnOk false Tryz.prog tab tab_ok 214 [.nils,.d (.int .i64 n)] 0 0 [] (fun _ r H=>r = .row 0∧H=[(0,.row 31 2 [])]):=by
 refine fn_enterR _ Tryz.func214 rfl rfl (by kernel_rfl) ?_
 intro O w0 E0 β0
 by_cases h0:n=0
 ·subst h0
  repeat' (first|refine z0 ?_|apply ds_nil|apply dw_seq2|refine z16 ?_|apply dw_skip|refine z19 ?_|apply thenD_n)
  all_goals try (exfalso;omega)
  refine ds_ev (ev_cap_nils rfl rfl) rfl rfl ?_
  repeat' (first|refine z0 ?_|apply ds_nil|apply dw_seq2|refine z16 ?_|apply dw_skip|refine z19 ?_|apply thenD_n)
  all_goals try (exfalso;omega)
  refine dw_ent (ent_nilrow (t:=4) 31 2 rfl) ?_
  repeat' (apply dw_ret)
  exact⟨.inl rfl,_,rfl,id,1,.row 0,[(0,.row 31 2 [])],rfl,⟨rfl,trivial⟩,rfl,rfl,rfl,rfl,rfl,rfl,rfl,rfl⟩
 ·repeat' (first|refine z0 ?_|apply ds_nil|apply dw_seq2|refine z16 ?_|apply dw_skip|refine z19 ?_|apply thenD_n)
  all_goals try (exfalso;omega)
  refine ds_ev (ev_cap_nils rfl rfl) rfl rfl ?_
  repeat' (first|refine z0 ?_|apply ds_nil|apply dw_seq2|refine z16 ?_|apply dw_skip|apply dw_ret|apply thenD_n|(refine z23 ?_ ?_ <;> intro hg)|fail)
  all_goals try (exfalso;omega)
  refine ds_ev (ev_cap_nils rfl rfl) rfl rfl ?_
  repeat' refine z0 ?_
  all_goals try (exfalso;omega)
  refine ds_apmk (n:=n) (es:=2) (te:=31) [.int .i64 0,.int .i64 0] rfl rfl (by omega) rfl rfl rfl rfl ⟨.inl rfl,.inl rfl,trivial⟩ rfl rfl (by omega) (by omega) ?_ (by unfold maxLen;omega) rfl rfl ?_
  ·show n * 16≤_
   omega
  repeat' (first|refine z0 ?_|apply ds_nil|apply dw_seq2|refine z16 ?_|apply thenD_n)
  all_goals try (exfalso;omega)
  refine dw_ent (ent_cut (n:=0) 4 rfl rfl (Nat.zero_le _) rfl) ?_
  repeat' (apply dw_ret)
  exact⟨.inl rfl,_,rfl,fun j=>match j with|0=>1|j=>j,1,.row 0,[(0,.row 31 2 [])],rfl,⟨rfl,trivial⟩,rfl,rfl,rfl,rfl,rfl,rfl,rfl,rfl⟩
set_option maxHeartbeats 8000000 in
theorem concatId_fn (ls:List (List (UId))) (h:(ls.map List.length).sum≤1000000) (h2:ls.length≤1000000):Fn 180 [.d (.slice 1 (ls.map fun l=>[.slice 2 (l.map encId)]))] (fun r=>r = .d (.slice 2 (ls.flatten.map encId))):=by
 refine fnp_enter' _ Tryz.func180 rfl rfl (by kernel_rfl) ?_
 intro O w0 E0 β0
 have ll:(ls.map fun l=>[D.slice 2 (l.map encId)]).length=ls.length:=List.length_map _
 repeat' (first|refine z0 ?_|apply ds_nil|apply dw_seq2|refine z16 ?_|apply dw_block|apply thenD_n)
 refine ds_loop (ι:=Nat) (fun i=>⟨0,[(0,.d (.slice 1 (ls.map fun l=>[.slice 2 (l.map encId)]))),(3,.d (.int .i64 (((ls.take i).map List.length).sum:Nat))),(9,.d (.slice 1 (ls.map fun l=>[.slice 2 (l.map encId)]))),(10,.d (.int .i64 ls.length)),(11,.d (.int .i64 i))],[]⟩)
  (fun i=>i≤ls.length) (fun i=>ls.length - i) 0 (Nat.zero_le _) (ent_ren id ⟨rfl,rfl,rfl,by rw [← ll];rfl,rfl,trivial⟩ trivial rfl rfl rfl rfl rfl rfl) ?_
 intro i g1
 by_cases hi:i < ls.length
 ·have h3:=sum_takeL hi
  have h4:=sum_leL ls (i + 1)
  have h5:(ls[i].map encId).length=ls[i].length:=List.length_map _
  repeat' (first|refine z0 ?_|apply ds_nil|apply dw_seq2|refine z16 ?_|apply dw_block|apply dw_skip|apply dw_exit|refine z19 ?_|apply thenD_n|apply thenD_e|apply inB_n|refine z17 ?_|(refine z23 ?_ ?_ <;> intro hg)|fail)
  all_goals try (exfalso;omega)
  exact⟨i + 1,by omega,ent_ren id ⟨rfl,congrArg (fun z=>SV.d (.int .i64 z)) (by rw [h3,h5];omega),rfl,rfl,rfl,trivial⟩ trivial rfl rfl rfl rfl rfl rfl,by omega⟩
 ·rw [List.take_of_length_le (by omega)]
  repeat' (first|refine z0 ?_|apply ds_nil|apply dw_seq2|refine z16 ?_|apply dw_block|apply dw_skip|apply dw_exit|refine z19 ?_|apply thenD_n|apply thenD_e|apply inB_n|refine z17 ?_|(refine z23 ?_ ?_ <;> intro hg)|fail)
  all_goals try (exfalso;omega)
  refine ds_callF id (growId_fn (ls.map List.length).sum h) rfl rfl rfl rfl trivial rfl rfl rfl rfl rfl rfl ?_ ?_
  ·rintro k2 r H2 ⟨rfl,rfl⟩;exact⟨rfl,rfl⟩
  rintro k2 r H2 ⟨rfl,rfl⟩
  change DS _ _ _ _ _ _ _ _
  repeat' (first|refine z0 ?_|apply ds_nil|apply dw_seq2|refine z16 ?_|apply dw_block|apply thenD_n)
  refine ds_loop (ι:=Nat) (fun i=>⟨1,[(6,.row 0),(25,.d (.slice 1 (ls.map fun l=>[.slice 2 (l.map encId)]))),(26,.d (.int .i64 ls.length)),(27,.d (.int .i64 i))],[(0,.row 31 2 ((ls.take i).flatten.map encId))]⟩)
   (fun i=>i≤ls.length) (fun i=>ls.length - i) 0 (Nat.zero_le _) (ent_ren id ⟨rfl,rfl,by rw [← ll];rfl,rfl,trivial⟩ ⟨rfl,trivial⟩ rfl rfl rfl rfl rfl rfl) ?_
  clear hi g1
  intro i g1
  by_cases hi:i < ls.length
  ·have h3:=sum_takeL hi
   have h4:=sum_leL ls (i + 1)
   have h5:(ls[i].map encId).length=ls[i].length:=List.length_map _
   have h6:((ls.take i).flatten.map encId).length=((ls.take i).map List.length).sum:=by rw [List.length_map,List.length_flatten]
   have h7:(ls.take (i + 1)).flatten=(ls.take i).flatten++ls[i]:=by rw [List.take_succ_eq_append_getElem hi,List.flatten_append];simp
   repeat' (first|refine z0 ?_|apply ds_nil|apply dw_seq2|refine z16 ?_|apply dw_block|apply dw_skip|apply dw_exit|apply dw_ret|apply thenD_n|apply thenD_e|apply inB_n|refine z17 ?_|refine z2 ?_|(refine z23 ?_ ?_ <;> intro hg)|fail)
   all_goals try (exfalso;omega)
   exact⟨i + 1,by omega,ent_ren (fun _=>1) ⟨rfl,rfl,rfl,rfl,trivial⟩ ⟨by rw [h7,List.map_append];rfl,trivial⟩ rfl rfl rfl rfl rfl rfl,by omega⟩
  ·rw [List.take_of_length_le (by omega)]
   repeat' (first|refine z0 ?_|apply ds_nil|apply dw_seq2|refine z16 ?_|apply dw_block|apply dw_skip|apply dw_exit|apply thenD_n|apply thenD_e|apply inB_n|refine z17 ?_|refine z2 ?_|(refine z23 ?_ ?_ <;> intro hg)|fail)
   all_goals try (exfalso;omega)
   refine dw_ent (ent_seal 2 rfl rfl rfl) ?_
   repeat' (apply dw_ret)
   exact⟨.inl rfl,_,rfl,rfl,rfl⟩
set_option maxHeartbeats 8000000 in
theorem under_fn (u:Upd) (h:u.parents.length + u.takes.length≤1000000):Fn 136 [elUpd u] (fun r=>r = .d (.slice 2 ((underU u).map encId))):=by
 refine fnp_enter' _ Tryz.func136 rfl rfl (by kernel_rfl) ?_
 intro O w0 E0 β0
 have hc:Fn 180 [.d (.slice 1 [[.slice 2 (u.parents.map encId)],[.slice 2 (u.takes.map encId)]])] (fun r=>r = .d (.slice 2 ((underU u).map encId))):=by
  have h:=concatId_fn [u.parents,u.takes] (by simpa using h) (by simp)
  rw [show [u.parents,u.takes].flatten=underU u by simp [underU]] at h
  exact h
 repeat' (first|refine z0 ?_|apply ds_nil|apply dw_seq2|refine z16 ?_|apply dw_ret|apply thenD_n|refine z21 ?_ (hc:=by apply hc)|refine z1 ?_|refine z4 ?_|fail)
 exact⟨.inl rfl,_,rfl,rfl,rfl⟩
set_option maxHeartbeats 8000000 in
theorem ready1_fn (l:List Upd) (i:UId) (hl:l.length≤1000000) (hs:StrU l):Fn 137 ([elId i]++[.pd [.slice 5 (l.map encUpd)]]) (fun r=>r = .d (.bool (!hasU l i))):=by
 refine fnp_enter' _ Tryz.func137 rfl rfl (by kernel_rfl) ?_
 intro O w0 E0 β0
 have w:=dhas_fn l i hl hs
 repeat' (first|refine z0 ?_|apply ds_nil|apply dw_seq2|refine z16 ?_|apply dw_ret|apply thenD_n|refine z21 ?_ (hc:=by apply w)|refine z1 ?_|fail)
 exact ret_b rfl rfl
set_option maxHeartbeats 8000000 in
theorem dready_fn (l:List Upd) (u:Upd) (hl:l.length≤1000000) (hs:StrU l) (h:u.parents.length + u.takes.length≤1000000):Fn 92 [.d (.slice 5 (l.map encUpd)),elUpd u] (fun r=>r = .d (.bool (readyU l u))):=by
 refine fnp_enter' _ Tryz.func92 rfl rfl (by kernel_rfl) ?_
 intro O w0 E0 β0
 have w1:=under_fn u h
 have w2:=containsFuncId_fn (caps:=[.pd [.slice 5 (l.map encUpd)]]) (fun i=>!hasU l i) (underU u) rfl (fun i _=>ready1_fn l i hl hs)
 have he:(!((underU u).any fun i=>!hasU l i))=readyU l u:=by unfold readyU;rw [List.all_eq_not_any_not]
 rw [← he]
 repeat' ((fail_if_success (apply dw_stopS 1));(first|refine z0 ?_|apply ds_nil|apply dw_seq2|refine z16 ?_|apply thenD_n|refine z1 ?_|fail))
 refine dw_ent (ent_freezeL (ds:=[.slice 5 (l.map encUpd)]) 2 0 rfl rfl) ?_
 repeat' (first|refine z0 ?_|apply ds_nil|apply dw_seq2|refine z16 ?_|apply dw_ret|apply thenD_n|refine z21 ?_ (hc:=by apply w1)|refine z21 ?_ (hc:=by apply w2)|fail)
 exact ret_b rfl rfl
end Go.Proofs.YtapciiffpnociabGreat
namespace Go.Proofs.YtapciiffpnociabGreat
open Go Go.RowKit
open Go.Maps (Keyed)
def MK.eqb:MK→MK→Bool
 | .str a,.str b=>decide (a.data=b.data)
 | .pair a b,.pair c d=>decide (a=c) && decide (b=d)
 | _,_=>false
theorem MK.eqb_iff:∀ {a b:MK},a.eqb b=true↔a=b
 | .str a,.str b=>by
  simp only [MK.eqb,decide_eq_true_iff,MK.str.injEq]
  exact⟨fun h=>by cases a;cases b;exact congrArg _ h,fun h=>by rw [h]⟩
 | .pair a b,.pair c d=>by simp only [MK.eqb,Bool.and_eq_true,decide_eq_true_iff,MK.pair.injEq]
 | .str _,.pair _ _=>by simp [MK.eqb]
 | .pair _ _,.str _=>by simp [MK.eqb]
theorem MK.eqb_self (a:MK):a.eqb a=true:=MK.eqb_iff.2 rfl
theorem MK.val_inj:∀ {a b:MK},a.val=b.val→a=b
 | .str a,.str b,h=>by cases h;rfl
 | .pair a b,.pair c d,h=>by
  simp only [MK.val,Value.agg.injEq,Array.mk.injEq,List.cons.injEq,Value.int.injEq,and_true,true_and] at h
  rw [h.1,h.2]
 | .str _,.pair _ _,h=>by cases h
 | .pair _ _,.str _,h=>by cases h
def mapGet?:List (MK × Int)→MK→Option Int
 | [],_=>none
 | (k,v)::l,x=>if k.eqb x then some v else mapGet? l x
def mapSet:List (MK × Int)→MK→Int→List (MK × Int)
 | [],x,n=>[(x,n)]
 | (k,v)::l,x,n=>if k.eqb x then (k,n)::l else (k,v)::mapSet l x n
theorem mapGet_set (x:MK) (n:Int) (y:MK):∀ l,mapGet? (mapSet l x n) y=if x.eqb y then some n else mapGet? l y
 | []=>rfl
 | (k,v)::l=>by
  unfold mapSet
  by_cases hk:k.eqb x=true
  ·have:=MK.eqb_iff.1 hk
   subst this
   rw [if_pos hk]
   simp only [mapGet?]
   split <;> rfl
  ·rw [if_neg hk]
   simp only [mapGet?,mapGet_set x n y l]
   by_cases hy:k.eqb y=true
   ·have:=MK.eqb_iff.1 hy
    subst this
    rw [if_pos hy,if_neg (fun h=>hk (MK.eqb_iff.2 (MK.eqb_iff.1 h).symm)),if_pos hy]
   ·rw [if_neg hy,if_neg hy]
theorem mapGet_none {x:MK}:∀ {l:List (MK × Int)},(∀ p∈l,p.1≠x)→mapGet? l x=none
 | [],_=>rfl
 | (k,v)::l,h=>by
  unfold mapGet?
  rw [if_neg (fun hc=>h (k,v) (List.mem_cons_self ..) (MK.eqb_iff.1 hc))]
  exact mapGet_none fun p hp=>h p (List.mem_cons_of_mem _ hp)
theorem mapGet_some {x:MK} {n:Int}:∀ {l:List (MK × Int)},l.Pairwise (fun p q=>p.1≠q.1)→(x,n)∈l→mapGet? l x=some n
 | [],_,h=>by simp at h
 | (k,v)::l,hp,h=>by
  obtain⟨h1,h2⟩:=List.pairwise_cons.1 hp
  unfold mapGet?
  rcases List.mem_cons.1 h with h|h
  ·cases h;rw [if_pos (MK.eqb_self _)]
  ·rw [if_neg fun hc=>h1 _ h (MK.eqb_iff.1 hc)]
   exact mapGet_some h2 h
theorem mapSet_new {x:MK} {n:Int}:∀ {l:List (MK × Int)},(∀ p∈l,p.1≠x)→mapSet l x n=l++[(x,n)]
 | [],_=>rfl
 | (k,v)::l,h=>by
  unfold mapSet
  rw [if_neg (fun hc=>h (k,v) (List.mem_cons_self ..) (MK.eqb_iff.1 hc)),mapSet_new fun p hp=>h p (List.mem_cons_of_mem _ hp)]
  rfl
theorem mapSet_old {x:MK} {n:Int}:∀ {l:List (MK × Int)} {j:Nat} {v:Int},l.Pairwise (fun p q=>p.1≠q.1)→l[j]? = some (x,v)→mapSet l x n=l.set j (x,n)
 | [],_,_,_,h=>by simp at h
 | (k,u)::l,0,v,hp,h=>by
  simp only [List.getElem?_cons_zero,Option.some.injEq,Prod.mk.injEq] at h
  unfold mapSet
  rw [if_pos (by rw [h.1];exact MK.eqb_self _),h.1]
  rfl
 | (k,u)::l,j + 1,v,hp,h=>by
  obtain⟨h1,h2⟩:=List.pairwise_cons.1 hp
  rw [List.getElem?_cons_succ] at h
  unfold mapSet
  rw [if_neg fun hc=>h1 _ (List.mem_of_getElem? h) (MK.eqb_iff.1 hc),mapSet_old h2 h]
  rfl
theorem mapSet_keys (x:MK) (n:Int):∀ l,∀ p∈mapSet l x n,p=(x,n)∨p∈l
 | [],p,h=>by simp only [mapSet,List.mem_singleton] at h;exact .inl h
 | (k,v)::l,p,h=>by
  unfold mapSet at h
  split at h
  ·rename_i hk
   rw [MK.eqb_iff.1 hk] at h
   rcases List.mem_cons.1 h with h|h
   ·exact .inl h
   ·exact .inr (List.mem_cons_of_mem _ h)
  ·rcases List.mem_cons.1 h with h|h
   ·exact .inr (by rw [h];exact List.mem_cons_self ..)
   ·exact (mapSet_keys x n l p h).imp id fun h=>List.mem_cons_of_mem _ h
theorem mapSet_pairs (x:MK) (n:Int):∀ l:List (MK × Int),l.Pairwise (fun p q=>p.1≠q.1)→(mapSet l x n).Pairwise (fun p q=>p.1≠q.1)
 | [],_=>by simp [mapSet]
 | (k,v)::l,h=>by
  obtain⟨h1,h2⟩:=List.pairwise_cons.1 h
  unfold mapSet
  split
  ·exact List.pairwise_cons.2 ⟨h1,h2⟩
  ·rename_i hk
   refine List.pairwise_cons.2 ⟨fun p hp=>?_,mapSet_pairs x n l h2⟩
   rcases mapSet_keys x n l p hp with h|h
   ·rw [h];exact fun hc=>hk (MK.eqb_iff.2 hc)
   ·exact h1 p h
structure MapT (P:Program) (t:TypeId) (kd:Bool):Prop where
 ty:∃ kt et,P.underlying t=some (.map kt et)∧Keyed P kt∧(∀ key:MK,key.ok kd→∃ l,keyOf P kt key.val=some l)∧∀ w,(zeroValue et).run P w = .ok (.int .i64 0) w
def keyC:SV→Option MK
 | .d (.str s)=>some (.str s)
 | .agg [.d (.int .i64 a),.d (.int .i64 b)]=>some (.pair a b)
 | _=>none
def MK.kd:MK→Bool
 | .str _=>true
 | .pair _ _=>false
theorem keyC_rel {X e w} {s:SV} {v:Value} {key:MK} (h:keyC s=some key) (hr:Rel X e w s v):v=key.val∧key.ok key.kd:=by
 unfold keyC at h
 split at h
 ·cases h
  have hr:RepC _ _ _ _:=hr
  cases hr
  exact⟨rfl,rfl,by assumption⟩
 ·cases h
  obtain⟨vs,rfl,h2⟩:=hr
  match vs,h2 with
  | [u1,u2],⟨g1,g2,_⟩ =>
   have g1:RepC _ _ _ _:=g1
   have g2:RepC _ _ _ _:=g2
   cases g1
   cases g2
   exact⟨rfl,rfl,by assumption,by assumption⟩
 ·cases h
section
variable {Γ : Ctx} {k : Nat → Prop} {L : Sl} {H : Hp} {K : Next'} {ops : List Oper} {rest : List Oper} {a : Act} {w : World} {e : Env} {t t' ty : TypeId} {x y : Operand}
theorem cSV_mp (v:Value) (i:Nat):cSV v≠.mp i:=by unfold cSV;split <;> simp
theorem entries_get {es:Array MapEntry} {kvs:List (MK × Int)} (h:es.toList.map (fun x=>(x.key,x.val))=kvs.map (fun p=>(p.1.val,Value.int .i64 p.2))) {j:Nat} {x:MapEntry} (hj:es.toList[j]? = some x):∃ p,kvs[j]? = some p∧x.key=p.1.val∧x.val = .int .i64 p.2:=by
 have h1:(es.toList.map (fun x=>(x.key,x.val)))[j]? = some (x.key,x.val):=by rw [List.getElem?_map,hj];rfl
 rw [h,List.getElem?_map] at h1
 cases hk:kvs[j]? with
 | none=>rw [hk] at h1;cases h1
 | some p =>
  rw [hk] at h1
  simp only [Option.map_some,Option.some.injEq,Prod.mk.injEq] at h1
  exact⟨p,rfl,h1.1.symm,h1.2.symm⟩
theorem entries_of {es:Array MapEntry} {kvs:List (MK × Int)} (h:es.toList.map (fun x=>(x.key,x.val))=kvs.map (fun p=>(p.1.val,Value.int .i64 p.2))) {x:MapEntry} (hx:x∈es.toList):∃ p∈kvs,x.key=p.1.val∧x.val = .int .i64 p.2:=by
 obtain⟨j,hj⟩:=List.mem_iff_getElem?.1 hx
 obtain⟨p,h1,h2⟩:=entries_get h hj
 exact⟨p,List.mem_of_getElem? h1,h2⟩
theorem map_find {P:Program} {kt:TypeId} {kd:Bool} {kvs:List (MK × Int)} {es:Array MapEntry} (K:Keyed P kt) (hof:∀ key:MK,key.ok kd→∃ l,keyOf P kt key.val=some l) (hes:es.toList.map (fun x=>(x.key,x.val))=kvs.map (fun p=>(p.1.val,Value.int .i64 p.2)))
  (hkeys:kvs.Pairwise fun p q=>p.1≠q.1) (hwf:∀ p∈kvs,p.1.ok kd∧(Lit.int .i64 p.2).wf=true) {key:MK} (hk:key.ok kd) (w:World) :
  ((Instr.findKey kt key.val es.toList).run P w = .ok none w∧mapGet? kvs key=none∧∀ p∈kvs,p.1≠key)∨∃ j x n,(Instr.findKey kt key.val es.toList).run P w = .ok (some (j,.int .i64 n)) w∧es.toList[j]? = some x∧x.key=key.val∧kvs[j]? = some (key,n)∧mapGet? kvs key=some n∧(Lit.int .i64 n).wf=true:=by
 obtain⟨l,hl⟩:=hof key hk
 have hall:∀ e∈es.toList,∃ l,keyOf P kt e.key=some l:=fun x hx=>by
  obtain⟨p,h1,h2,_⟩:=entries_of hes hx
  rw [h2];exact hof _ (hwf p h1).1
 rcases K.find w hl es.toList hall with ⟨h1,h2⟩|⟨j,x,h1,h2,h3⟩
 ·have hno:∀ p∈kvs,p.1≠key:=fun p hp he=>by
   obtain⟨j,hj⟩:=List.mem_iff_getElem?.1 hp
   have hj2:(es.toList.map (fun x=>(x.key,x.val)))[j]? = some (p.1.val,Value.int .i64 p.2):=by rw [hes,List.getElem?_map,hj];rfl
   rw [List.getElem?_map] at hj2
   cases hx:es.toList[j]? with
   | none=>rw [hx] at hj2;cases hj2
   | some x =>
    rw [hx] at hj2
    simp only [Option.map_some,Option.some.injEq,Prod.mk.injEq] at hj2
    exact h2 x (List.mem_of_getElem? hx) (by rw [hj2.1,he])
  exact .inl ⟨h1,mapGet_none hno,hno⟩
 ·obtain⟨p,q1,q2,q3⟩:=entries_get hes h2
  have hpk:p.1=key:=MK.val_inj (by rw [← q2,h3])
  obtain⟨pk,n⟩:=p
  subst hpk
  rw [q3] at h1
  exact .inr ⟨j,x,n,h1,h2,h3,q1,mapGet_some hkeys (List.mem_of_getElem? q1),(hwf _ (List.mem_of_getElem? q1)).2⟩
theorem stamps_push {es:Array MapEntry} {clock:Nat} {k v:Value} (h:Stamps es clock):Stamps (es.push ⟨k,v,clock⟩) (clock + 1):=by
 refine⟨?_,fun x hx=>?_⟩
 ·rw [Array.toList_push]
  refine List.pairwise_append.2 ⟨h.1,List.pairwise_singleton _ _,fun x hx y hy=>?_⟩
  rw [List.mem_singleton] at hy
  subst hy
  have:=h.2 x hx
  dsimp only
  omega
 ·rw [Array.toList_push] at hx
  rcases List.mem_append.1 hx with hx|hx
  ·have:=h.2 x hx;omega
  ·rw [List.mem_singleton] at hx
   subst hx
   exact Nat.lt_succ_self _
theorem borns_modify {es:Array MapEntry} {j:Nat} {f:MapEntry→MapEntry} (hf:∀ x,(f x).born=x.born):(es.modify j f).toList.map (·.born)=es.toList.map (·.born):=by
 apply List.ext_getElem?
 intro q
 rw [List.getElem?_map,List.getElem?_map,Array.getElem?_toList,Array.getElem?_toList,Array.getElem?_modify]
 by_cases hq:j=q
 ·rw [if_pos hq]
  cases es[q]? with
  | none=>rfl
  | some x=>simp [hf]
 ·rw [if_neg hq]
theorem stamps_modify {es:Array MapEntry} {clock j:Nat} {f:MapEntry→MapEntry} (h:Stamps es clock) (hf:∀ x,(f x).born=x.born):Stamps (es.modify j f) clock:=by
 have hb:=borns_modify (es:=es) (j:=j) hf
 have h1:(es.toList.map (·.born)).Pairwise (·≠·):=List.pairwise_map.2 h.1
 rw [← hb] at h1
 refine⟨List.pairwise_map.1 h1,fun x hx=>?_⟩
 have hm:x.born∈(es.modify j f).toList.map (·.born):=List.mem_map.2 ⟨x,hx,rfl⟩
 rw [hb] at hm
 obtain⟨y,hy,he⟩:=List.mem_map.1 hm
 rw [← he]
 exact h.2 y hy
theorem wf_zero:(Lit.int .i64 0).wf=true:=by decide
theorem look_run {P:Program} {kd:Bool} {kvs:List (MK × Int)} {key:MK} (T:MapT P t kd) (c:Bool) {w:World} {b:Nat} (hM:MapIs w b kd kvs) (hok:key.ok kd) :
  (Instr.lookup t (.map (some b)) key.val c).run P w = .ok (if c then .tuple #[.int .i64 ((mapGet? kvs key).getD 0),.bool (mapGet? kvs key).isSome] else .int .i64 ((mapGet? kvs key).getD 0)) w∧(Lit.int .i64 ((mapGet? kvs key).getD 0)).wf=true:=by
 obtain⟨kt,et,ht,K,hof,hz⟩:=T.ty
 obtain⟨⟨es,clock,hb,hes,hst⟩,hkeys,hwf⟩:=hM
 obtain⟨l,hl⟩:=hof key hok
 rcases map_find K hof hes hkeys hwf hok w with ⟨h1,h2,_⟩|⟨j,x0,n,h1,_,_,_,h2,h3⟩
 ·refine⟨?_,by rw [h2];exact wf_zero⟩
  simp [Instr.lookup,run_underlying ht,MapKept.run_getObj_map hb,K.check w _ hl,h1,hz w,h2,Result.andThen]
 ·refine⟨?_,by rw [h2];exact h3⟩
  simp [Instr.lookup,run_underlying ht,MapKept.run_getObj_map hb,K.check w _ hl,h1,h2,Result.andThen]
def lookAt (H:Hp) (s:SV) (kd:Bool) (kvs:List (MK × Int)):Prop:=match s with
 | .mp i=>Hp.get H i=some (.map kd kvs)
 | .md kd' kvs'=>kd' = kd∧kvs' = kvs
 | _=>False
theorem cSV_md (v:Value) (kd:Bool) (kvs:List (MK × Int)):cSV v≠.md kd kvs:=by unfold cSV;split <;> simp
theorem lookAt_is {kd:Bool} {kvs:List (MK × Int)} (m:Models Γ k L H e a w) (h:lookAt H (opSV L x) kd kvs):∃ b,a.eval x = .map (some b)∧b < w.heap.size∧MapIs w b kd kvs:=by
 unfold lookAt at h
 split at h
 ·rename_i i hx
  obtain⟨_,hv⟩:=evT m hx (cSV_mp · _)
  exact⟨_,hv,m.toHeap.lt (e.β i) (List.mem_filterMap.2 ⟨_,Hp.mem_of h,rfl⟩),(m.heap _ (Hp.mem_of h)).2⟩
 ·rename_i kd' kvs' hx
  obtain⟨rfl,rfl⟩:=h
  obtain⟨b,h1,h2,_,h3⟩:=evT m hx (cSV_md · _ _)
  exact⟨b,h1,h2,h3⟩
 ·exact h.elim
theorem ev_lookup {kd:Bool} {kvs:List (MK × Int)} {key:MK} (T:MapT Γ.P t kd) (hx:lookAt H (opSV L x) kd kvs) (hy:keyC (opSV L y)=some key) (hkd:key.kd=kd) (hyo:opOkB y=true) :
  Ev Γ k L H (.lookup t x y false) ty (.d (.int .i64 ((mapGet? kvs key).getD 0))):=by
 intro e a w m
 obtain⟨b,hvx,hlt,hM⟩:=lookAt_is m hx
 obtain⟨hvy,hok⟩:=keyC_rel hy (m.op y (opOkB_spec hyo))
 rw [hkd] at hok
 refine⟨.int .i64 ((mapGet? kvs key).getD 0),fun _ _ _ _ w' hw=>?_,.int (look_run T false hM hok).2⟩
 have h1:=(look_run T false (hM.keep fun _ _ h=>(hw.block _ hlt).trans h) hok).1
 simp only [execOp,hvx,hvy,Sem.run_bind,Sem.run_pure,h1,Result.andThen_ok]
 rfl
theorem op_mapNew {d z:Nat} {kd:Bool} {pos:String} {af:Array Edge} {g:Option (Nat × Bool)} (hz:¬ k z) (hd:Nat.blt d Γ.n=true):OpOk Γ ⟨some d,.makeMap t none,ty,pos,af,g⟩ k L H (with1 k z) ((d,.mp z)::L) ((z,.map kd [])::H):=by
 intro e a w Q m
 have hze:¬ e.dom z:=fun h=>hz ((m.top z).1 h)
 have hrun:(execOp a.eval ⟨some d,.makeMap t none,ty,pos,af,g⟩).run Γ.P w = .ok (.value (.map (some w.heap.size))) (w.alloc (.map #[] 0)):=by
  simp only [execOp,Option.map_none,Sem.run_bind,run_makeMap,Result.andThen_ok,Sem.run_pure]
 unfold Oper.wp
 rw [hrun]
 have m2:=m.new hz (hb:=.map kd []) (e':=e.bind z w.heap.size) (w':=w.alloc (.map #[] 0)) (fun i=>or_congr (m.top i) Iff.rfl) (e.bind_ext _ _ hze) ⟨(Below.refl _ _).alloc (Nat.le_refl _) _,fun _=>Nat.le_refl _⟩
  (fun b hb=>by simp [HB.owned,Env.bind] at hb;omega) (fun _=>⟨⟨#[],0,by show (w.alloc (.map #[] 0)).heap[(e.bind z w.heap.size).β z]? = _;rw [show (e.bind z w.heap.size).β z=w.heap.size from if_pos rfl];exact (MapKept.heap_alloc w _).1,rfl,.nil,by simp⟩,.nil,by simp⟩)
 refine⟨_,m2.put (s:=.mp z) (v:=.map (some w.heap.size)) (Nat.le_of_ble_eq_true hd) ⟨.inr rfl,?_⟩⟩
 show _=Value.map (some (if z=z then w.heap.size else e.β z));rw [if_pos rfl]
theorem op_mapSet {i:Nat} {kd:Bool} {kvs:List (MK × Int)} {key:MK} {n:Int} {u:Operand} {dst:Option Nat} {pos:String} {af:Array Edge} {g:Option (Nat × Bool)} (T:MapT Γ.P t kd) (hx:opSV L x = .mp i) (hH:Hp.get H i=some (.map kd kvs)) (hy:keyC (opSV L y)=some key) (hkd:key.kd=kd) (hyo:opOkB y=true)
  (hu:opSV L u = .d (.int .i64 n)) (huo:opOkB u=true) (hdst:dst=none):OpOk Γ ⟨dst,.mapUpdate t x y u,ty,pos,af,g⟩ k L H k L (Hp.set H i (.map kd (mapSet kvs key n))):=by
 subst hdst
 intro e a w Q m
 obtain⟨kt,et,ht,K,hof,hz⟩:=T.ty
 obtain⟨_,hvx⟩:=evT m hx (cSV_mp · _)
 obtain⟨hvy,hok⟩:=keyC_rel hy (m.op y (opOkB_spec hyo))
 rw [hkd] at hok
 have hru:=m.op u (opOkB_spec huo)
 rw [hu] at hru
 obtain⟨hvu,hnwf⟩:a.eval u = .int .i64 n∧(Lit.int .i64 n).wf=true:=by
  have hru:RepC _ _ _ _:=hru
  generalize a.eval u=vu at hru
  cases hru with
  | int h=>exact⟨rfl,h⟩
 have hM:MapIs w (e.β i) kd kvs:=(m.heap _ (Hp.mem_of hH)).2
 have hlt:=m.toHeap.lt (e.β i) (List.mem_filterMap.2 ⟨_,Hp.mem_of hH,rfl⟩)
 obtain⟨⟨es,clock,hb,hes,hst⟩,hkeys,hwf⟩:=hM
 obtain⟨l,hl⟩:=hof key hok
 have hrun:∃ es' clock',(Instr.mapUpdate t (.map (some (e.β i))) key.val (.int .i64 n)).run Γ.P w = .ok () { w with heap:=w.heap.setIfInBounds (e.β i) (.map es' clock') }∧es'.toList.map (fun x=>(x.key,x.val))=(mapSet kvs key n).map (fun p=>(p.1.val,Value.int .i64 p.2))∧Stamps es' clock':=by
  rcases map_find K hof hes hkeys hwf hok w with ⟨h1,_,h2⟩|⟨j,x0,n0,h1,h2,h3,h4,_,_⟩
  ·refine⟨es.push ⟨key.val,.int .i64 n,clock⟩,clock + 1,?_,?_,stamps_push hst⟩
   ·simp [Instr.mapUpdate,run_underlying ht,MapKept.run_getObj_map hb,K.check w false hl,h1,MapKept.run_setObj_map _ hb,Result.andThen]
   ·rw [mapSet_new h2,Array.toList_push,List.map_append,List.map_append,hes]
    rfl
  ·have hj2:es[j]? = some x0:=by simpa using h2
   have hjl:j < es.size:=(Array.getElem?_eq_some_iff.1 hj2).1
   refine⟨es.modify j fun x=>{ x with key:=key.val,val:=.int .i64 n },clock,?_,?_,stamps_modify hst fun _=>rfl⟩
   ·have hst:(Instr.keyThatStays (((es[j]?).map (·.key)).getD key.val) key.val).run Γ.P w = .ok key.val w:=by
     rw [hj2]
     show (Instr.keyThatStays x0.key key.val).run Γ.P w=_
     rw [h3]
     exact K.stays w hl
    simp [Instr.mapUpdate,run_underlying ht,MapKept.run_getObj_map hb,K.check w false hl,h1,hst,MapKept.run_setObj_map _ hb,Result.andThen]
   ·rw [mapSet_old hkeys h4,List.map_set,← hes]
    apply List.ext_getElem?
    intro q
    by_cases hq:q=j
    ·subst hq
     simp [hjl]
    ·simp [Ne.symm hq]
 obtain⟨es',clock',hr,hes'⟩:=hrun
 unfold Oper.wp
 simp only [execOp,hvx,hvy,hvu,Sem.run_bind,Sem.run_pure,hr,Result.andThen_ok]
 refine⟨e,?_⟩
 have m2:=m.turn (w':={ w with heap:=w.heap.setIfInBounds (e.β i) (.map es' clock') }) (b':=.map kd (mapSet kvs key n)) hH (by simp) rfl rfl rfl (fun _=>Nat.le_refl _) (fun c hc hne=>?_) rfl ⟨⟨es',clock',?_,hes'⟩,mapSet_pairs _ _ _ hkeys,fun p hp=>?_⟩
 ·exact m2
 ·have hne':e.β i≠c:=fun h=>hne (by simp [HB.owned,h])
  exact Array.getElem?_setIfInBounds_ne hne'
 ·show (w.heap.setIfInBounds (e.β i) (.map es' clock'))[e.β i]? = _
  simp [hlt]
 ·rcases mapSet_keys key n kvs p hp with h|h
  ·rw [h];exact⟨hok,hnwf⟩
  ·exact hwf p h
end
section
variable {Γ : Ctx} {k : Nat} {L : Sl} {H : Hp} {K : Next'} {ops : List Oper} {rest : List Oper} {t t' ty : TypeId} {x y : Operand} {q : Bool}
theorem ds_lookup {kd:Bool} {kvs:List (MK × Int)} {key:MK} {d:Nat} {pos:String} {af:Array Edge} {g:Option (Nat × Bool)} (T:MapT Γ.P t kd) (hx:lookAt H (opSV L x) kd kvs) (hy:keyC (opSV L y)=some key) (hkd:key.kd=kd) (hyo:opOkB y=true)
  (hw:wantedSV ops L g=some true) (hd:Nat.blt d Γ.n=true) (hk:DS q Γ ops rest K k ((d,.d (.int .i64 ((mapGet? kvs key).getD 0)))::L) H):DS q Γ ops (⟨some d,.lookup t x y false,ty,pos,af,g⟩::rest) K k L H :=
 ds_ev (ev_lookup T hx hy hkd hyo) hw hd hk
theorem ent_mapd {t i:Nat} {kd:Bool} {kvs:List (MK × Int)} {H':Hp} (hL:L.get t = .mp i) (hH:Hp.get H i=some (.map kd kvs)) (hD:delF H i some=some H'):Ent Γ k L H k ((t,.md kd kvs)::L) H':=by
 rw [delF_eq] at hD
 cases hD
 intro e a w m
 obtain⟨m2,hX⟩:=m.del i
 have hmem:=Hp.mem_of hH
 have hown:e.β i∈ownedL e H:=List.mem_filterMap.2 ⟨_,hmem,rfl⟩
 refine⟨e,m2.toHeap,m2.defers,m2.len,fun t'=>?_⟩
 rw [Sl.get_cons]
 split
 ·rename_i ht
  subst ht
  have hs:=m.slot t
  rw [hL] at hs
  refine⟨e.β i,hs.2,m.toHeap.lt _ hown,fun hx=>?_,(m.heap _ hmem).2⟩
  rcases hx with hx|hx
  ·exact (m.mine _ hown).2 hx
  ·obtain⟨p,hp,hpg⟩:=List.mem_filterMap.1 hx
   have hd:=Hp.del_mem (i:=i) H m.ids p hp
   exact m.owned_ne hd.1 hmem hd.2 hpg rfl
 ·exact m2.slot t'
theorem ds_mapNew (kd:Bool) {d:Nat} {pos:String} {af:Array Edge} {g:Option (Nat × Bool)} (hw:wantedSV ops L g=some true) (hd:Nat.blt d Γ.n=true)
  (hk:DS false Γ ops rest K (k + 1) ((d,.mp k)::L) ((k,.map kd [])::H)):DS false Γ ops (⟨some d,.makeMap t none,ty,pos,af,g⟩::rest) K k L H :=
 dl_op hw ((op_mapNew (lo_not k) hd).cast (with1_lo k)) hk
theorem ds_mapSet (i:Nat) {kd:Bool} {kvs:List (MK × Int)} {key:MK} {n:Int} {u:Operand} {H':Hp} {pos:String} {af:Array Edge} {g:Option (Nat × Bool)} (T:MapT Γ.P t kd) (hx:opSV L x = .mp i) (hH:Hp.get H i=some (.map kd kvs)) (hy:keyC (opSV L y)=some key) (hkd:key.kd=kd) (hyo:opOkB y=true)
  (hu:opSV L u = .d (.int .i64 n)) (huo:opOkB u=true) (hS:setF H i (.map kd (mapSet kvs key n)) some=some H') (hw:wantedSV ops L g=some true)
  (hk:DS false Γ ops rest K k L H'):DS false Γ ops (⟨none,.mapUpdate t x y u,ty,pos,af,g⟩::rest) K k L H:=by
 rw [setF_eq] at hS
 cases hS
 exact dl_op hw (op_mapSet T hx hH hy hkd hyo hu huo rfl) hk
end
end Go.Proofs.YtapciiffpnociabGreat
