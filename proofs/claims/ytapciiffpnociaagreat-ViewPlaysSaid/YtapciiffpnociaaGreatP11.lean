/- Several texts in one: RelK RelL RelU RelW GxRng GxItr. Condition: none. -/
import Derived.Test.YtapciiffpnociaaGreatP10
import Derived.Test.YtapciiffpnociaaGreatP09
namespace Go.Proofs.YtapciiffpnociaaGreat
open Go Go.RowKit
attribute [local irreducible] DW DS DL DQ Ev FnOk FnP em b9 DT
def cmpG (p:Fct):List Fct→List Fct
 | []=>[]
 | y::l=>if db y p=0 then cmpG y l else y::cmpG y l
def cmpF:List Fct→List Fct
 | []=>[]
 | x::l=>x::cmpG x l
theorem cmpG_snoc:∀ (l:List Fct) (p y:Fct),cmpG p (l++[y])=cmpG p l++(if db y ((p::l).getLast (by simp))=0 then [] else [y])
 | [],p,y=>by
  show (if db y p=0 then cmpG y [] else y::cmpG y [])=[]++_
  rfl
 | x::l,p,y=>by
  rw [List.cons_append]
  simp only [cmpG]
  rw [cmpG_snoc l x y,List.getLast_cons (by simp:x::l≠[])]
  split <;> simp
theorem cmpF_take {l:List Fct} {n:Nat} (h0:0 < n) (hn:n < l.length):cmpF (l.take (n + 1))=cmpF (l.take n)++(if db l[n] (l[n - 1]'(by omega))=0 then [] else [l[n]]):=by
 rw [List.take_succ_eq_append_getElem hn]
 have hne:l.take n≠[]:=by
  intro h
  have:=congrArg List.length h
  rw [List.length_take,List.length_nil] at this
  omega
 obtain⟨x,r,hx⟩:=List.exists_cons_of_ne_nil hne
 have hl:(l.take n).getLast hne=l[n - 1]'(by omega):=by
  rw [List.getLast_eq_getElem,List.getElem_take]
  have:(l.take n).length - 1=n - 1:=by rw [List.length_take,Nat.min_eq_left (by omega)]
  simp only [this]
 simp only [hx,List.cons_append,cmpF]
 rw [cmpG_snoc]
 have:(x::r).getLast (by simp)=l[n - 1]'(by omega):=by rw [← hl];congr 1;exact hx.symm
 rw [this]
theorem cmpF_one {l:List Fct} (h:l.length≤1):cmpF l=l:=by
 match l,h with
 | [],_=>rfl
 | [x],_=>rfl
set_option maxHeartbeats 8000000 in
theorem compact_fn (l:List Fct) (hl:l.length≤4398046511104):FnOk false Tryz.prog tab cn 79 [.row 0,.fn 80 []] 0 1 [(0,.row 58 2 (l.map a6))] (fun _ r H=>r = .d (.slice 2 ((cmpF l).map a6))∧H=[]):=by
 refine fn_enterF _ Tryz.func79 rfl rfl (by kernel_rfl) ?_
 intro O w0 E0 β0
 have ll:(l.map a6).length=l.length:=List.length_map _
 by_cases h2:l.length < 2
 ·rw [cmpF_one (by omega)]
  repeat' (first|refine z0 ?_|apply ag|apply ae|refine z16 ?_|apply ah|apply ai|apply aa|(refine z23 ?_ ?_ <;> intro hg)|fail)
  all_goals try (exfalso;omega)
  refine ba (dp 4 rfl rfl rfl) ?_
  repeat' (first|apply aj|apply av)
  exact⟨.inl rfl,_,rfl,0,[],trivial,rfl,rfl,rfl,rfl,rfl,rfl⟩
 ·repeat' (first|refine z0 ?_|apply ag|apply ae|refine z16 ?_|apply ah|apply ai|apply aa|(refine z23 ?_ ?_ <;> intro hg)|fail)
  all_goals try (exfalso;omega)
  refine bh (ι:=Nat) (fun i=>⟨1,[(0,.row 0),(1,.fn 80 []),(5,.d (.int .i64 i))],[(0,.row 58 2 (l.map a6))]⟩)
   (fun i=>1≤i∧i≤l.length∧cmpF (l.take i)=l.take i) (fun i=>l.length - i) 1 ⟨by omega,by omega,cmpF_one (by rw [List.length_take];omega)⟩ (ap id ⟨rfl,rfl,rfl,trivial⟩ ⟨rfl,trivial⟩ rfl rfl rfl rfl rfl rfl) ?_
  rintro i ⟨g0,g1,g2⟩
  by_cases hi:i < l.length
  ·have hs:Fn 80 [ey l[i],ey (l[((i:Int) - 1).toNat]'(by omega))] (fun r=>r = .d (.bool (decide (db l[i] (l[i - 1]'(by omega))=0)))):=by
    have e:((i:Int) - 1).toNat=i - 1:=by omega
    simp only [e]
    exact rsame_fn _ _
   have ht:=cmpF_take (by omega:0 < i) hi
   cases hb:decide (db l[i] (l[i - 1]'(by omega))=0) with
   | false =>
    have hb':=of_decide_eq_false hb
    rw [hb] at hs
    rw [if_neg hb',g2,← List.take_succ_eq_append_getElem hi] at ht
    repeat' (first|refine z0 ?_|apply ag|refine z5 ?_|refine z10 ?_|apply ae|refine z16 ?_|refine z20 ?_|apply ah|apply ai|apply au|refine z19 ?_|apply aa|apply aq|apply bg|refine z17 ?_|(apply ik;exact rfl;exact rfl;exact rfl;exact rfl;apply hs;exact rfl;(exact rfl);exact rfl;exact rfl;exact⟨_,rfl⟩;rintro _ rfl)|(refine z23 ?_ ?_ <;> intro hg)|fail)
    all_goals try (exfalso;omega)
    exact⟨i + 1,⟨by omega,by omega,ht⟩,ap id ⟨rfl,rfl,rfl,trivial⟩ ⟨rfl,trivial⟩ rfl rfl rfl rfl rfl rfl,by show l.length - (i + 1) < l.length - i;omega⟩
   | true =>
    have hb':=of_decide_eq_true hb
    rw [hb] at hs
    rw [if_pos hb',List.append_nil] at ht
    repeat' (first|refine z0 ?_|apply ag|refine z5 ?_|refine z10 ?_|apply ae|refine z16 ?_|refine z20 ?_|apply ah|apply ai|apply au|refine z18 ?_|apply aa|apply aq|refine z17 ?_|(apply ik;exact rfl;exact rfl;exact rfl;exact rfl;apply hs;exact rfl;(exact rfl);exact rfl;exact rfl;exact⟨_,rfl⟩;rintro _ rfl)|(refine z23 ?_ ?_ <;> intro hg)|fail)
    all_goals try (exfalso;omega)
    refine bh (ι:=Nat × Nat × List Fct) (fun x=>⟨1,[(0,.row 0),(1,.fn 80 []),(5,.d (.int .i64 x.1)),(6,.rsl 0 2 i ((l.map a6).length - i)),(7,.d (.int .i64 x.2.1))],[(0,.row 58 2 (x.2.2.map a6))]⟩)
     (fun x=>x.2.2.length=l.length∧1≤x.2.1∧x.2.1≤l.length - i∧i≤x.1∧x.1 + 1≤i + x.2.1∧x.2.2.take x.1=cmpF (l.take (i + x.2.1))∧∀ p,i + x.2.1≤p + 1→x.2.2[p]? = l[p]?) (fun x=>l.length - i - x.2.1)
     (i,1,l) ⟨rfl,by dsimp only;omega,by dsimp only;omega,by dsimp only;omega,by dsimp only;omega,by rw [ht,g2],fun _ _=>rfl⟩ (ap id ⟨rfl,rfl,rfl,rfl,rfl,trivial⟩ ⟨rfl,trivial⟩ rfl rfl rfl rfl rfl rfl) ?_
    rintro⟨u,k,o⟩ ⟨q1,q2,q3,q4,q5,q6,q7⟩
    dsimp only at q1 q2 q3 q4 q5 q6 q7 ⊢
    have lo:(o.map a6).length=o.length:=List.length_map _
    clear hs
    by_cases hk:k < l.length - i
    ·have o1:o[i + k]'(by omega)=l[i + k]'(by omega):=by
      have:=q7 (i + k) (by omega)
      rw [List.getElem?_eq_getElem (by omega),List.getElem?_eq_getElem (by omega)] at this
      exact Option.some.inj this
     have o2:o[i + k - 1]'(by omega)=l[i + k - 1]'(by omega):=by
      have:=q7 (i + k - 1) (by omega)
      rw [List.getElem?_eq_getElem (by omega),List.getElem?_eq_getElem (by omega)] at this
      exact Option.some.inj this
     have hs:Fn 80 [ey (o[i + k]'(by omega)),ey (o[i + ((k:Int) - 1).toNat]'(by omega))] (fun r=>r = .d (.bool (decide (db (l[i + k]'(by omega)) (l[i + k - 1]'(by omega))=0)))):=by
      have e:i + ((k:Int) - 1).toNat=i + k - 1:=by omega
      simp only [e,o1,o2]
      exact rsame_fn _ _
     have hc:=cmpF_take (l:=l) (n:=i + k) (by omega) (by omega)
     cases hb2:decide (db (l[i + k]'(by omega)) (l[i + k - 1]'(by omega))=0) with
     | true =>
      have hb3:=of_decide_eq_true hb2
      rw [hb2] at hs
      rw [if_pos hb3,List.append_nil] at hc
      repeat' (first|refine z0 ?_|apply ag|refine z5 ?_|refine z10 ?_|apply ae|refine z16 ?_|refine z20 ?_|apply ah|apply ai|apply au|refine z19 ?_|apply aa|apply aq|apply bg|refine z17 ?_|(apply ik;exact rfl;exact rfl;exact rfl;exact rfl;apply hs;exact rfl;(exact rfl);exact rfl;exact rfl;exact⟨_,rfl⟩;rintro _ rfl)|(refine z23 ?_ ?_ <;> intro hg)|fail)
      all_goals try (exfalso;omega)
      exact⟨(u,k + 1,o),⟨q1,by dsimp only;omega,by dsimp only;omega,by dsimp only;omega,by dsimp only;omega,by dsimp only;rw [q6];exact hc.symm,fun p hp=>q7 p (by dsimp only at hp;omega)⟩,ap id ⟨rfl,rfl,rfl,rfl,rfl,trivial⟩ ⟨rfl,trivial⟩ rfl rfl rfl rfl rfl rfl,by show l.length - i - (k + 1) < l.length - i - k;omega⟩
     | false =>
      have hb3:=of_decide_eq_false hb2
      rw [hb2] at hs
      rw [if_neg hb3] at hc
      repeat' (first|refine z0 ?_|apply ag|(apply ds_stP;exact rfl;exact rfl;(apply hv_get;(omega));exact rfl;exact rfl;(exact hv_set rfl);exact rfl;exact rfl;exact rfl;exact rfl;exact rfl;exact rfl)|refine z5 ?_|refine z10 ?_|apply ae|refine z16 ?_|refine z20 ?_|apply ah|apply ai|apply au|refine z18 ?_|apply aa|apply aq|apply bg|refine z17 ?_|(apply ik;exact rfl;exact rfl;exact rfl;exact rfl;apply hs;exact rfl;(exact rfl);exact rfl;exact rfl;exact⟨_,rfl⟩;rintro _ rfl)|(refine z23 ?_ ?_ <;> intro hg)|fail)
      all_goals try (exfalso;omega)
      refine⟨(u + 1,k + 1,o.set u (o[i + k]'(by omega))),⟨by dsimp only;rw [List.length_set];exact q1,by dsimp only;omega,by dsimp only;omega,by dsimp only;omega,by dsimp only;omega,?_,fun p hp=>?_⟩,ap id ⟨rfl,rfl,rfl,rfl,rfl,trivial⟩ ⟨rfl,trivial⟩ rfl rfl rfl rfl rfl rfl,by show l.length - i - (k + 1) < l.length - i - k;omega⟩
      ·dsimp only
       rw [List.take_succ_eq_append_getElem (by rw [List.length_set];omega),List.getElem_set_self,List.take_set,List.set_eq_of_length_le (by rw [List.length_take];omega),q6,o1]
       exact hc.symm
      ·dsimp only at hp ⊢
       rw [List.getElem?_set_ne (by omega)]
       exact q7 p (by omega)
    ·repeat' (first|refine z0 ?_|apply ag|refine z5 ?_|apply ae|refine z16 ?_|refine z20 ?_|apply ah|apply ai|apply au|apply aa|apply aq|refine z17 ?_|(refine z23 ?_ ?_ <;> intro hg)|fail)
     all_goals try (exfalso;omega)
     have hke:i + k=l.length:=by omega
     rw [hke,List.take_of_length_le (Nat.le_refl _)] at q6
     refine ds_clear [.int .i64 0,.slice 1 []] rfl rfl rfl rfl ⟨.inl rfl,.inr ⟨rfl,1,rfl⟩,trivial⟩ rfl rfl (by omega) (by omega) (by omega) rfl rfl ?_
     repeat' (first|refine z0 ?_|apply ag|apply ae|refine z16 ?_|apply aa)
     all_goals try (exfalso;omega)
     refine ba (ent_cut (n:=u) 4 rfl rfl (by simp only [List.length_append,List.length_take,List.length_replicate,List.length_drop];omega) rfl) ?_
     refine ba (dp 4 rfl rfl rfl) ?_
     repeat' (first|apply aj|apply av|apply br)
     refine⟨.inl rfl,_,rfl,0,[],trivial,rfl,rfl,rfl,rfl,?_,rfl⟩
     refine congrArg (fun z=>SV.d (.slice 2 z)) ?_
     have hu:((o.map a6).take u).length=u:=by rw [List.length_take];omega
     show List.take u ((o.map a6).take u++List.replicate _ _++List.drop _ (o.map a6))=_
     rw [List.append_assoc,List.take_append_of_le_length (by omega),List.take_of_length_le (by omega),← List.map_take,q6]
  ·rw [List.take_of_length_le (by omega)] at g2
   rw [g2]
   repeat' (first|refine z0 ?_|apply ag|refine z5 ?_|apply ae|refine z16 ?_|refine z20 ?_|apply ah|apply ai|apply au|apply aa|apply aq|refine z17 ?_|(refine z23 ?_ ?_ <;> intro hg)|fail)
   all_goals try (exfalso;omega)
   refine ba (dp 4 rfl rfl rfl) ?_
   repeat' (apply aj)
   exact⟨.inl rfl,_,rfl,0,[],trivial,rfl,rfl,rfl,rfl,rfl,rfl⟩
set_option maxHeartbeats 8000000 in
theorem keep_fn (l:List Fct) (g:FuncId) (caps:List SV) (pr:Fct→Bool) (hlow:SV.lowL 0 caps=true) (hl:l.length≤4398046511104) (hargs:∀ x∈l,x.args.length≤17592186044416) (hg:∀ x∈l,Fn g ([ey x]++caps) (fun r=>r = .d (.bool (pr x)))) :
  Fn 37 [.d (.slice 2 (l.map a6)),.fn g caps] (fun r=>∃ s:List Fct,s.Perm (l.filter pr)∧s.Pairwise (fun a b=>db b a ≥ 0)∧r = .d (.slice 2 ((cmpF s).map a6))):=by
 refine ak _ Tryz.func37 rfl rfl (by kernel_rfl) ?_
 intro O w0 E0 β0
 have ll:(l.map a6).length=l.length:=List.length_map _
 have hlows:∀ k,SV.lowL k caps=true:=fun k=>SV.lowL_mono k caps hlow
 repeat' ((fail_if_success (apply dw_stop 0));(first|refine z0 ?_|apply ag|apply ae|refine z16 ?_|apply ah|apply aa))
 refine ba (ea (t:=5) 58 2 rfl) ?_
 repeat' fail
 refine bh (ι:=Nat × List Fct) (fun x=>⟨1,[(1,.fn g caps),(5,.row 0),(8,.d (.slice 2 (l.map a6))),(9,.d (.int .i64 l.length)),(10,.d (.int .i64 x.1))],[(0,.row 58 2 (x.2.map a6))]⟩)
  (fun x=>x.1≤l.length∧x.2=(l.take x.1).filter pr) (fun x=>l.length - x.1) (0,[]) ⟨Nat.zero_le _,rfl⟩ (ap id ⟨(SV.ren_id _).symm,rfl,rfl,by rw [← ll];rfl,rfl,trivial⟩ ⟨rfl,trivial⟩ (by simp [Sl.low,SV.low,hlows]) rfl rfl rfl rfl rfl) ?_
 rintro⟨i,o⟩ ⟨g1,g2⟩
 dsimp only at g1 g2 ⊢
 have lo:(o.map a6).length=o.length:=List.length_map _
 have hol:o.length≤i:=by rw [g2];have:=List.length_filter_le pr (l.take i);rw [List.length_take] at this;omega
 by_cases hi:i < l.length
 ·have hm:=List.getElem_mem hi
  have hx:=hg _ hm
  have hw:=own_fn l[i] (hargs _ hm)
  have hll:SV.lowL 0 ([ey l[i]]++caps)=true:=by simp [SV.lowL,SV.low,hlow]
  have hstep:(l.take (i + 1)).filter pr=o++(if pr l[i] then [l[i]] else []):=by
   rw [List.take_succ_eq_append_getElem hi,List.filter_append,← g2]
   congr 1
   simp [List.filter_cons]
  cases hb:pr l[i] with
  | true =>
   rw [hb] at hx
   rw [hb,if_pos rfl] at hstep
   repeat' (first|refine z0 ?_|apply ag|apply ae|refine z16 ?_|apply ah|apply ai|apply au|refine z18 ?_|apply aa|apply aq|apply bg|refine z17 ?_|(apply im;exact rfl;exact rfl;exact rfl;exact rfl;apply hx;exact rfl;(assumption);exact rfl;rintro _ rfl)|refine z21 ?_ (hc:=by apply hw)|refine z1 ?_|refine z3 ?_|refine z4 ?_|refine z2 ?_|(refine z23 ?_ ?_ <;> intro hg)|fail)
   all_goals try (exfalso;omega)
   exact⟨(i + 1,o++[l[i]]),⟨by dsimp only;omega,hstep.symm⟩,ap (fun j=>match j with|0=>2|j=>j) ⟨(SV.ren_low0 _ (.fn g caps) hlow).symm,rfl,rfl,rfl,rfl,trivial⟩ ⟨by rw [List.map_append];rfl,trivial⟩ (by simp [Sl.low,SV.low,hlows]) rfl rfl rfl rfl rfl,by show l.length - (i + 1) < l.length - i;omega⟩
  | false =>
   rw [hb] at hx
   rw [hb,if_neg (by simp),List.append_nil] at hstep
   repeat' (first|refine z0 ?_|apply ag|apply ae|refine z16 ?_|apply ah|apply ai|apply au|refine z19 ?_|apply aa|apply aq|apply bg|refine z17 ?_|(apply im;exact rfl;exact rfl;exact rfl;exact rfl;apply hx;exact rfl;(assumption);exact rfl;rintro _ rfl)|refine z1 ?_|refine z3 ?_|(refine z23 ?_ ?_ <;> intro hg)|fail)
   all_goals try (exfalso;omega)
   exact⟨(i + 1,o),⟨by dsimp only;omega,hstep.symm⟩,ap id ⟨(SV.ren_low0 _ (.fn g caps) hlow).symm,rfl,rfl,rfl,rfl,trivial⟩ ⟨rfl,trivial⟩ (by simp [Sl.low,SV.low,hlows]) rfl rfl rfl rfl rfl,by show l.length - (i + 1) < l.length - i;omega⟩
 ·rw [List.take_of_length_le (by omega)] at g2
  repeat' (first|refine z0 ?_|apply ag|apply ae|refine z16 ?_|apply ah|apply ai|apply au|apply aa|apply aq|refine z17 ?_|refine z1 ?_|refine z3 ?_|(refine z23 ?_ ?_ <;> intro hg)|fail)
  all_goals try (exfalso;omega)
  refine ds_sort sortFacts_c o (by kernel_rfl) rfl rfl rfl rfl rfl rfl (by omega) ?_
  intro s hp hs
  have hsl:s.length≤4398046511104:=by rw [hp.length_eq];omega
  refine ds_ent (ap (k':=1) (L':=[(5,.row 0)]) (H':=[(0,.row 58 2 (s.map a6))]) id ⟨rfl,trivial⟩ ⟨rfl,trivial⟩ rfl rfl rfl rfl rfl rfl) ?_
  repeat' (first|refine z0 ?_|apply ag|apply ae|refine z16 ?_|apply aa)
  all_goals try (exfalso;omega)
  (refine b8 id (compact_fn s hsl) rfl rfl rfl rfl ⟨rfl,trivial⟩ rfl rfl rfl rfl rfl rfl ?_ ?_)
  ·rintro k2 r H2 ⟨rfl,rfl⟩;exact⟨rfl,rfl⟩
  rintro k2 r H2 ⟨rfl,rfl⟩
  change DS _ _ _ _ _ _ _ _
  repeat' (first|refine z0 ?_|apply ag|apply aj|apply aa)
  exact⟨.inl rfl,_,rfl,rfl,s,g2▸hp,hs,rfl⟩
def Strict (l:List Fct):Prop:=l.Pairwise fun x y=>db x y < 0
theorem lt_irrefl {x:Fct} (h:db x x < 0):False:=by rw [kw] at h;omega
theorem lt_asymm {x y:Fct} (h:db x y < 0) (g:db y x < 0):False:=lt_irrefl (kn h g)
theorem ir:∀ {a b:List Fct},Strict a→Strict b→(∀ x,x∈a↔x∈b)→a=b
 | [],[],_,_,_=>rfl
 | [],y::b,_,_,h=>by have:=(h y).2 List.mem_cons_self;simp at this
 | x::a,[],_,_,h=>by have:=(h x).1 List.mem_cons_self;simp at this
 | x::a,y::b,ha,hb,h=>by
  obtain⟨a1,a2⟩:=List.pairwise_cons.1 ha
  obtain⟨b1,b2⟩:=List.pairwise_cons.1 hb
  have hxy:x=y:=by
   rcases List.mem_cons.1 ((h x).1 List.mem_cons_self) with h1|h1
   ·exact h1
   ·rcases List.mem_cons.1 ((h y).2 List.mem_cons_self) with h2|h2
    ·exact h2.symm
    ·exact (lt_asymm (b1 x h1) (a1 y h2)).elim
  subst hxy
  rw [ir a2 b2 fun z=>?_]
  constructor
  ·intro hz
   rcases List.mem_cons.1 ((h z).1 (List.mem_cons_of_mem _ hz)) with h1|h1
   ·subst h1;exact (lt_irrefl (a1 z hz)).elim
   ·exact h1
  ·intro hz
   rcases List.mem_cons.1 ((h z).2 (List.mem_cons_of_mem _ hz)) with h1|h1
   ·subst h1;exact (lt_irrefl (b1 z hz)).elim
   ·exact h1
theorem cmpG_spec:∀ (l:List Fct) (p:Fct),(p::l).Pairwise (fun a b=>db b a ≥ 0)→Strict (p::cmpG p l)∧∀ x,x∈p::cmpG p l↔x∈p::l
 | [],p,_=>⟨List.pairwise_cons.2 ⟨fun x hx=>by simp [cmpG] at hx,.nil⟩,fun x=>Iff.rfl⟩
 | y::l,p,h=>by
  obtain⟨h1,h2⟩:=List.pairwise_cons.1 h
  obtain⟨i1,i2⟩:=cmpG_spec l y h2
  unfold cmpG
  split
  ·rename_i h3
   have:=ordF_eq0 h3
   subst this
   refine⟨i1,fun x=>(i2 x).trans ⟨fun hx=>List.mem_cons_of_mem _ hx,fun hx=>?_⟩⟩
   rcases List.mem_cons.1 hx with rfl|hx
   ·exact List.mem_cons_self
   ·exact hx
  ·rename_i h3
   have hpy:db p y < 0:=by have:=h1 y List.mem_cons_self;rw [ordF_anti];omega
   refine⟨List.pairwise_cons.2 ⟨fun z hz=>?_,i1⟩,fun x=>?_⟩
   ·rcases List.mem_cons.1 hz with rfl|hz
    ·exact hpy
    ·exact kn hpy ((List.pairwise_cons.1 i1).1 z hz)
   ·rw [List.mem_cons,List.mem_cons (a:=x) (b:=p),i2 x]
theorem cmpF_spec {s:List Fct} (h:s.Pairwise (fun a b=>db b a ≥ 0)):Strict (cmpF s)∧∀ x,x∈cmpF s↔x∈s:=by
 match s,h with
 | [],_=>exact⟨.nil,fun _=>Iff.rfl⟩
 | p::l,h=>exact cmpG_spec l p h
theorem kFrom_spec {l:List Fct} {f:Fct}:∀ (n:Nat),n≤l.length→kFrom l f n≤n∧(∀ j (hj:j < l.length),kFrom l f n≤j→j < n→0 < db l[j] f)∧(∀ j (hj:j < l.length),j + 1=kFrom l f n→¬ 0 < db l[j] f)
 | 0,_=>⟨Nat.le_refl _,fun j _ _ h=>by omega,fun j _ h=>by simp [kFrom] at h⟩
 | n + 1,hn=>by
  obtain⟨i1,i2,i3⟩:=kFrom_spec (l:=l) (f:=f) n (by omega)
  rw [kFrom_succ (by omega)]
  split
  ·rename_i h
   refine⟨by omega,fun j hj h1 h2=>?_,i3⟩
   by_cases hjn:j=n
   ·subst hjn;exact h
   ·exact i2 j hj h1 (by omega)
  ·rename_i h
   refine⟨Nat.le_refl _,fun j hj h1 h2=>by omega,fun j hj h1=>?_⟩
   have:j=n:=by omega
   subst this
   exact h
theorem hasF_iff {l:List Fct} {f:Fct}:hasF l f=true↔f∈l:=by
 unfold hasF
 rw [List.any_eq_true]
 constructor
 ·rintro⟨x,hx,h⟩;rw [← ordF_eq0 (of_decide_eq_true h)];exact hx
 ·intro h;exact⟨f,h,decide_eq_true (kw f)⟩
theorem insF_spec {l:List Fct} {f:Fct} (h:Strict l):Strict (insF l f)∧∀ x,x∈insF l f↔x∈l∨x=f:=by
 unfold insF
 split
 ·rename_i hh
  have:=hasF_iff.1 hh
  exact⟨h,fun x=>⟨.inl,fun hx=>hx.elim id fun e=>e▸this⟩⟩
 ·rename_i hh
  have hf:f ∉ l:=fun hm=>hh (hasF_iff.2 hm)
  obtain⟨k1,k2,k3⟩:=kFrom_spec (l:=l) (f:=f) l.length (Nat.le_refl _)
  generalize kFrom l f l.length=k at k1 k2 k3
  have hpi:=List.pairwise_iff_getElem.1 h
  have hlo:∀ j (hj:j < l.length),j < k→db l[j] f < 0:=by
   intro j hj hjk
   have hk1:k - 1 < l.length:=by omega
   have h1:=k3 (k - 1) hk1 (by omega)
   have hne:db l[k - 1] f≠0:=fun e=>hf (ordF_eq0 e▸List.getElem_mem hk1)
   have h2:db l[k - 1] f < 0:=by omega
   by_cases hjk1:j=k - 1
   ·subst hjk1;exact h2
   ·exact kn (hpi j (k - 1) hj hk1 (by omega)) h2
  have hhi:∀ j (hj:j < l.length),k≤j→db f l[j] < 0:=fun j hj hjk=>by have:=k2 j hj hjk hj;rw [ordF_anti];omega
  have htk:∀ x∈l.take k,db x f < 0:=by
   intro x hx
   obtain⟨j,hj,rfl⟩:=List.mem_iff_getElem.1 hx
   rw [List.length_take] at hj
   rw [List.getElem_take]
   exact hlo j (by omega) (by omega)
  have hdk:∀ x∈l.drop k,db f x < 0:=by
   intro x hx
   obtain⟨j,hj,rfl⟩:=List.mem_iff_getElem.1 hx
   rw [List.length_drop] at hj
   rw [List.getElem_drop]
   exact hhi (k + j) (by omega) (by omega)
  refine⟨List.pairwise_append.2 ⟨h.sublist (List.take_sublist _ _),List.pairwise_cons.2 ⟨hdk,h.sublist (List.drop_sublist _ _)⟩,fun x hx y hy=>?_⟩,fun x=>?_⟩
  ·rcases List.mem_cons.1 hy with rfl|hy
   ·exact htk x hx
   ·exact kn (htk x hx) (hdk y hy)
  ·rw [List.mem_append,List.mem_cons]
   constructor
   ·rintro (hx|rfl|hx)
    ·exact .inl (List.mem_of_mem_take hx)
    ·exact .inr rfl
    ·exact .inl (List.mem_of_mem_drop hx)
   ·rintro (hx|rfl)
    ·have:=hx
     rw [← List.take_append_drop k l] at this
     rcases List.mem_append.1 this with h1|h1
     ·exact .inl h1
     ·exact .inr (.inr h1)
    ·exact .inr (.inl rfl)
theorem setF_spec':∀ (l o:List Fct),Strict o→Strict (l.foldl insF o)∧∀ x,x∈l.foldl insF o↔x∈o∨x∈l
 | [],o,h=>⟨h,fun x=>by simp⟩
 | y::l,o,h=>by
  obtain⟨i1,i2⟩:=insF_spec (f:=y) h
  obtain⟨j1,j2⟩:=setF_spec' l (insF o y) i1
  refine⟨j1,fun x=>?_⟩
  rw [List.foldl_cons,j2,i2,List.mem_cons,or_assoc]
theorem bn (l:List Fct):Strict (bq l)∧∀ x,x∈bq l↔x∈l:=by
 obtain⟨h1,h2⟩:=setF_spec' l [] .nil
 exact⟨h1,fun x=>(h2 x).trans (by simp)⟩
theorem keep_set {s l:List Fct} (hp:s.Perm l) (hs:s.Pairwise (fun a b=>db b a ≥ 0)):cmpF s=bq l :=
 ir (cmpF_spec hs).1 (bn l).1 fun x=>by rw [(cmpF_spec hs).2,(bn l).2,hp.mem_iff]
theorem half_u64 (i j:Nat) (h:i + j≤9223372036854775807):shrN .u64 (IntKind.u64.wrap ((i:Int) + j)) 1=(((i + j) / 2:Nat):Int):=by
 have hw:IntKind.u64.wrap ((i:Int) + j)=(i:Int) + j:=by simp [IntKind.wrap,IntKind.bits,IntKind.signed];omega
 rw [hw]
 unfold shrN
 rw [show (2:Int) ^ min (1:Int).toNat IntKind.u64.bits=2 from by decide,Int.fdiv_eq_ediv_of_nonneg _ (by decide)]
 omega
theorem found_at {l:List Fct} {f:Fct} {i:Nat} (hs:Strict l) (h1:∀ p (hp:p < l.length),p < i→db l[p] f < 0) (h2:∀ p (hp:p < l.length),i≤p→0≤db l[p] f):hasF l f=(if h:i < l.length then decide (db l[i] f=0) else false):=by
 rw [Bool.eq_iff_iff,hasF_iff]
 have hpi:=List.pairwise_iff_getElem.1 hs
 constructor
 ·intro hm
  obtain⟨p,hp,rfl⟩:=List.mem_iff_getElem.1 hm
  have hpi':¬ p < i:=fun h=>lt_irrefl (h1 p hp h)
  rw [dif_pos (by omega)]
  by_cases he:p=i
  ·subst he;exact decide_eq_true (kw _)
  ·have:=hpi i p (by omega) hp (by omega)
   have:=h2 i (by omega) (Nat.le_refl _)
   omega
 ·intro h
  split at h
  ·rename_i hi
   rw [← ordF_eq0 (of_decide_eq_true h)]
   exact List.getElem_mem hi
  ·cases h
theorem below_step {l:List Fct} {f:Fct} {h i:Nat} (hs:Strict l) (hml:h < l.length) (_:∀ p (hp:p < l.length),p < i→db l[p] f < 0) (hg:db l[h] f < 0):∀ p (hp:p < l.length),p < h + 1→db l[p] f < 0:=by
 intro p hp hlt
 by_cases he:p=h
 ·subst he;exact hg
 ·exact kn (List.pairwise_iff_getElem.1 hs p h hp hml (by omega)) hg
theorem above_step {l:List Fct} {f:Fct} {h:Nat} (hs:Strict l) (hml:h < l.length) (hg:0≤db l[h] f):∀ p (hp:p < l.length),h≤p→0≤db l[p] f:=by
 intro p hp hlt
 by_cases he:p=h
 ·subst he;exact hg
 ·have h1:=List.pairwise_iff_getElem.1 hs h p hml hp (by omega)
  have h2:=ordF_anti l[p] l[h]
  exact ordF_le (by omega) hg
set_option maxHeartbeats 8000000 in
theorem bsearch_fn (l:List Fct) (f:Fct) (hl:l.length≤4398046511104) (hs:Strict l):Fn 81 [.d (.slice 2 (l.map a6)),ey f,.fn 58 []] (fun r=>∃ n:Int,r = .tup [.d (.int .i64 n),.d (.bool (hasF l f))]):=by
 refine ak _ Tryz.func81 rfl rfl (by kernel_rfl) ?_
 intro O w0 E0 β0
 have ll:(l.map a6).length=l.length:=List.length_map _
 repeat' (first|refine z0 ?_|apply ag|apply ae|refine z16 ?_|apply ah|apply aa|refine z1 ?_|fail)
 refine bh (ι:=Nat × Nat) (fun x=>⟨1,[(0,.d (.slice 2 (l.map a6))),(2,.fn 58 []),(4,.loc 0 0),(8,.d (.int .i64 l.length)),(9,.d (.int .i64 x.1)),(10,.d (.int .i64 x.2))],[(0,.blk 58 [.d (.int .i64 f.pred),.d (.slice 1 (f.args.map bi))])]⟩)
  (fun x=>x.1≤x.2∧x.2≤l.length∧(∀ p (hp:p < l.length),p < x.1→db l[p] f < 0)∧(∀ p (hp:p < l.length),x.2≤p→0≤db l[p] f)) (fun x=>x.2 - x.1)
  (0,l.length) ⟨Nat.zero_le _,Nat.le_refl _,fun p _ h=>absurd h (Nat.not_lt_zero p),fun p hp h=>by omega⟩ (ap id ⟨rfl,rfl,rfl,by rw [← ll];rfl,rfl,by rw [← ll];rfl,trivial⟩ ⟨rfl,trivial⟩ rfl rfl rfl rfl rfl rfl) ?_
 rintro⟨i,j⟩ ⟨g1,g2,g3,g4⟩
 dsimp only at g1 g2 g3 g4 ⊢
 by_cases hij:i < j
 ·have he:=half_u64 i j (by omega)
  have hm1:i≤(i + j) / 2:=by omega
  have hm2:(i + j) / 2 < j:=by omega
  have hml:(i + j) / 2 < l.length:=by omega
  have hw:=orderF_fn (l[(i + j) / 2]'hml) f
  repeat' ((fail_if_success (apply kb 5));(first|refine z0 ?_|apply ag|refine z5 ?_|refine z14 ?_|refine z10 ?_|apply ae|refine z16 ?_|refine z20 ?_|apply ah|apply ai|apply au|apply aj|apply aa|apply aq|refine z17 ?_|(refine z23 ?_ ?_ <;> intro hg)|((fail_if_success (apply dt_known;exact rfl));apply k5;exact rfl;exact rfl;exact rfl;all_goals intro hg)))
  all_goals try (exfalso;omega)
  refine ba (k':=1) (L':=[(11,.d (.int .i64 (((i + j) / 2:Nat):Int))),(0,.d (.slice 2 (l.map a6))),(2,.fn 58 []),(4,.loc 0 0),(8,.d (.int .i64 l.length)),(9,.d (.int .i64 i)),(10,.d (.int .i64 j))]) (H':=[(0,.blk 58 [.d (.int .i64 f.pred),.d (.slice 1 (f.args.map bi))])]) ?_ ?_
  ·rw [← he]
   exact ap id ⟨rfl,rfl,rfl,rfl,rfl,rfl,rfl,trivial⟩ ⟨rfl,trivial⟩ rfl rfl rfl rfl rfl rfl
  generalize (i + j) / 2=h at *
  repeat' (first|refine z0 ?_|apply ag|refine z5 ?_|refine z10 ?_|apply ae|refine z16 ?_|refine z20 ?_|apply aa|apply bg|(apply ik;exact rfl;exact rfl;exact rfl;exact rfl;apply hw;exact rfl;(exact rfl);exact rfl;exact rfl;exact⟨_,rfl⟩;rintro _ rfl)|(refine z23 ?_ ?_ <;> intro hg)|fail)
  all_goals try (exfalso;omega)
  all_goals first
   | exact⟨(h + 1,j),⟨by dsimp only;omega,g2,below_step hs hml g3 hg,g4⟩,ap id ⟨rfl,rfl,rfl,rfl,rfl,rfl,trivial⟩ ⟨rfl,trivial⟩ rfl rfl rfl rfl rfl rfl,by show j - (h + 1) < j - i;omega⟩
   | exact⟨(i,h),⟨hm1,by dsimp only;omega,g3,above_step hs hml (Int.not_lt.1 hg)⟩,ap id ⟨rfl,rfl,rfl,rfl,rfl,rfl,trivial⟩ ⟨rfl,trivial⟩ rfl rfl rfl rfl rfl rfl,by show h - i < j - i;omega⟩
 ·have hij':i=j:=by omega
  subst hij'
  have hf:=found_at hs g3 g4
  by_cases hil:i < l.length
  ·rw [dif_pos hil] at hf
   have hw:=orderF_fn l[i] f
   rw [hf]
   repeat' (first|refine z0 ?_|apply ag|refine z5 ?_|refine z14 ?_|refine z10 ?_|apply ae|refine z16 ?_|refine z20 ?_|apply ah|apply ai|apply au|apply aj|apply aa|apply aq|refine z17 ?_|(apply ik;exact rfl;exact rfl;exact rfl;exact rfl;apply hw;exact rfl;(exact rfl);exact rfl;exact rfl;exact⟨_,rfl⟩;rintro _ rfl)|(refine z23 ?_ ?_ <;> intro hg)|((fail_if_success (apply dt_known;exact rfl));apply k5;exact rfl;exact rfl;exact rfl;all_goals intro hg))
   all_goals try (exfalso;omega)
   all_goals exact⟨.inl rfl,_,rfl,rfl,_,rfl⟩
  ·rw [dif_neg hil] at hf
   rw [hf]
   repeat' (first|refine z0 ?_|apply ag|refine z5 ?_|refine z14 ?_|refine z10 ?_|apply ae|refine z16 ?_|refine z20 ?_|apply ah|apply ai|apply au|apply aj|apply aa|apply aq|refine z17 ?_|(refine z23 ?_ ?_ <;> intro hg)|((fail_if_success (apply dt_known;exact rfl));apply k5;exact rfl;exact rfl;exact rfl;all_goals intro hg))
   all_goals try (exfalso;omega)
   exact⟨.inl rfl,_,rfl,rfl,_,rfl⟩
set_option maxHeartbeats 8000000 in
theorem in_fn (l:List Fct) (f:Fct) (hl:l.length≤4398046511104) (hs:Strict l):Fn 39 [.d (.slice 2 (l.map a6)),ey f] (fun r=>r = .d (.bool (hasF l f))):=by
 refine ak _ Tryz.func39 rfl rfl (by kernel_rfl) ?_
 intro O w0 E0 β0
 have hb:=bsearch_fn l f hl hs
 repeat' (first|refine z0 ?_|apply ag|apply ae|refine z16 ?_|apply aa|refine z1 ?_|fail)
 refine ds_call rfl rfl hb rfl rfl rfl ?_
 rintro r ⟨n,rfl⟩
 repeat' (first|refine z0 ?_|apply ag|apply ae|refine z16 ?_|apply aj|apply aa)
 exact⟨.inl rfl,_,rfl,rfl,rfl⟩
end Go.Proofs.YtapciiffpnociaaGreat
namespace Go.Proofs.YtapciiffpnociaaGreat
open Go Go.RowKit
def SeqD (P:Program) (gf:FuncId) (caps:List SV) (xs:List (List SV)):Prop :=
 io P gf=true ∧
 ∀ (X:Nat→Prop) (e:Env) (W0:World) (lb:List Value) (l:Nat) (J:Nat→World→Prop) (Jx:World→Prop),
  (∀ b,X b→b < W0.heap.size)→RelL X e W0 caps lb→J 0 W0 →
  (∀ i W,J i W→W0.heap.size≤W.heap.size∧∀ b,b < W0.heap.size→¬ X b→W.heap[b]? = W0.heap[b]?) →
  (∀ i W W',J i W→Below W.heap.size W W'→J i W')→(∀ W W',Jx W→Below W.heap.size W W'→Jx W') →
  (∀ (i:Nat) (h:i < xs.length) W1 W vs,J i W1→Below W1.heap.size W1 W→(∃ e',RelL (fun b=>b < W1.heap.size∧(X b∨W0.heap.size≤b)) e' W (xs[i]) vs) →
   ∃ r:Loop,W.heap[l]? = some (Obj.loop r)∧vs.toArray.size=r.params.size ∧
    RoundIn Fence.wide 0 P l r.fn ((r.params.zip vs.toArray).foldl (fun t (p,v)=>t.setIfInBounds p v) r.tmps) r.assign r.body W
     (fun en W'=>(en = .returned (.bool true)∧J (i + 1) W')∨(en = .returned (.bool false)∧Jx W'))) →
  Calls P gf (#[.func (.yield l) #[] #[]]++lb.toArray) W0 (fun en W'=>(∃ v,en = .returned v)∧(J xs.length W'∨Jx W'))
theorem Heap.rebase {Γ:Ctx} {k:Nat→Prop} {H:Hp} {e:Env} {w w2:World} (h:Heap Γ k H e w) (hs:w.heap.size≤w2.heap.size) (hk:KeepsCells w w2) {n J:Nat} {rd pan mk} (hJ:∀ j,j < J→k j) :
  Heap ⟨Γ.P,Γ.τ,Γ.τok,Γ.O,w2,fun b=>b∈aw e H,n,J,e.an,rd,pan,mk,false⟩ k H e w2 where
 top:=h.top
 heap p hp:=⟨(h.heap p hp).1,HRel.turned hs hk p (h.heap p hp).2⟩
 ids:=h.ids
 nodup:=h.nodup
 mine b hb:=⟨.inl hb,(h.mine b hb).2⟩
 os:=rfl
 tape:=rfl
 output:=rfl
 drawn h:=nomatch h
 size:=Nat.le_refl _
 block _ _ _:=rfl
 obound b hb:=⟨Nat.lt_of_lt_of_le (h.obound b hb).1 (Nat.le_trans h.size hs),fun ho=>(h.mine b ho).2 hb⟩
 jle:=hJ
 anchor _ _:=rfl
theorem Heap.debase {Γ:Ctx} [NoDr Γ] {k k2:Nat→Prop} {H H2:Hp} {e e2:Env} {w wb w2:World} {E:Nat→Prop} {n J:Nat} {rd pan mk} (h:Heap Γ k H e w) (hs:w.heap.size≤wb.heap.size) (hos:wb.os=w.os) (ht:wb.tape=w.tape) (ho:wb.output=w.output)
  (hb:∀ b,b < Γ.w0.heap.size→¬ Γ.E0 b→wb.heap[b]? = w.heap[b]?)
  (h2:Heap ⟨Γ.P,Γ.τ,Γ.τok,Γ.O,wb,E,n,J,e.an,rd,pan,mk,false⟩ k2 H2 e2 w2) (hE:∀ b,E b→Γ.E0 b∨Γ.w0.heap.size≤b) (hJ:Γ.J≤J):Heap Γ k2 H2 e2 w2 where
 top:=h2.top
 heap:=h2.heap
 ids:=h2.ids
 nodup:=h2.nodup
 mine b hb2:=⟨(h2.mine b hb2).1.elim (hE b) fun hx=>.inr (Nat.le_trans h.size (Nat.le_trans hs hx)),(h2.mine b hb2).2⟩
 os:=h2.os.trans (hos.trans h.os)
 tape:=h2.tape.trans (ht.trans h.tape)
 output:=h2.output.trans (ho.trans h.output)
 drawn:=NoDr.any
 size:=Nat.le_trans h.size (Nat.le_trans hs h2.size)
 block b h3 h4:=(h2.block b (Nat.lt_of_lt_of_le h3 (Nat.le_trans h.size hs)) fun hx=>(hE b hx).elim h4 fun h5=>by omega).trans ((hb b h3 h4).trans (h.block b h3 h4))
 obound:=h.obound
 jle j hj:=h2.jle j (Nat.lt_of_lt_of_le hj hJ)
 anchor j hj:=(h2.anchor j (Nat.lt_of_lt_of_le hj hJ)).trans (h.anchor j hj)
mutual
def SV.stab:SV→Bool
 | .row _=>false
 | .prow _ _ _ _=>false
 | .rsl _ _ _ _=>false
 | .fn _ caps=>SV.stabL caps
 | .agg ss=>SV.stabL ss
 | .tup ss=>SV.stabL ss
 | .junk=>true
 | .d _=>true
 | .nils=>true
 | .pd _=>true
 | .loc _ _=>true
 | .mp _=>true
 | .md _ _=>true
 | .sl _ _ _ _=>true
 | .val _=>true
def SV.stabL:List SV→Bool
 | []=>true
 | s::ss=>SV.stab s && SV.stabL ss
end
mutual
theorem Rel.stab {X:Nat→Prop} {e e':Env} {w:World} (h:∀ i,e.dom i→e'.dom i∧e'.β i=e.β i):∀ (s:SV) (v:Value),s.stab=true→Rel X e w s v→Rel X e' w s v
 | .junk,_,_,_=>trivial
 | .d _,_,_,h=>h
 | .nils,_,_,h=>h
 | .pd _,_,_,h=>h
 | .loc i _,_,_,⟨h1,h2⟩=>⟨(h i h1).1,by rw [(h i h1).2];exact h2⟩
 | .mp i,_,_,⟨h1,h2⟩=>⟨(h i h1).1,by rw [(h i h1).2];exact h2⟩
 | .md _ _,_,_,h=>h
 | .sl i _ _ _,_,_,⟨h1,h2⟩=>⟨(h i h1).1,by rw [(h i h1).2];exact h2⟩
 | .row _,_,hb,_=>nomatch hb
 | .prow _ _ _ _,_,hb,_=>nomatch hb
 | .rsl _ _ _ _,_,hb,_=>nomatch hb
 | .fn _ caps,_,hb,⟨vs,h1,h2⟩=>⟨vs,h1,RelL.stab h caps vs hb h2⟩
 | .agg ss,_,hb,⟨vs,h1,h2⟩=>⟨vs,h1,RelL.stab h ss vs hb h2⟩
 | .tup ss,_,hb,⟨vs,h1,h2⟩=>⟨vs,h1,RelL.stab h ss vs hb h2⟩
 | .val _,_,_,h=>h
theorem RelL.stab {X:Nat→Prop} {e e':Env} {w:World} (h:∀ i,e.dom i→e'.dom i∧e'.β i=e.β i):∀ (ss:List SV) (vs:List Value),SV.stabL ss=true→RelL X e w ss vs→RelL X e' w ss vs
 | [],[],_,_=>trivial
 | [],_::_,_,h=>h.elim
 | _::_,[],_,h=>h.elim
 | s::ss,v::vs,hb,hr=>by
  simp only [SV.stabL,Bool.and_eq_true] at hb
  exact⟨Rel.stab h s v hb.1 hr.1,RelL.stab h ss vs hb.2 hr.2⟩
end
def keptB (L:Sl):Sl→Bool
 | []=>true
 | (_,s)::r=>s.stab && keptB L r
def Kepts (L:Sl):Sl→Prop
 | []=>True
 | (t,s)::r=>Sl.get L t=s∧Kepts L r
theorem kept_get {L:Sl}:∀ (L':Sl),Kepts L L'→keptB L L' = true→∀ t,L'.get t = .junk∨(L'.get t=L.get t∧(L.get t).stab=true)
 | [],_,_,_=>.inl rfl
 | (d,s)::r,⟨h1,h2⟩,hb,t=>by
  simp only [keptB,Bool.and_eq_true] at hb
  rw [Sl.get_cons]
  split
  ·rename_i hd;subst hd;exact .inr ⟨h1.symm,h1.symm▸hb.1⟩
  ·exact kept_get r h2 hb.2 t
def params:List Nat→List SV→Sl→Sl
 | p::ps,s::ss,L=>params ps ss ((p,s)::L)
 | _,_,L=>L
theorem params_slot {X e w}:∀ (ps:List Nat) (ss:List SV) (vs:List Value) (L:Sl) (tmps:Array Value),ps.length=ss.length→(∀ p∈ps,p < tmps.size)→RelL X e w ss vs→(∀ t,Rel X e w (L.get t) (tmps.getD t undef)) →
  ∀ t,Rel X e w ((params ps ss L).get t) (((ps.zip vs).foldl (fun t (q:Nat × Value)=>t.setIfInBounds q.1 q.2) tmps).getD t undef)
 | [],[],[],L,tmps,_,_,_,h,t=>h t
 | [],_::_,_,_,_,hl,_,_,_,_=>by simp at hl
 | _::_,[],_,_,_,hl,_,_,_,_=>by simp at hl
 | _,[],_::_,_,_,_,_,hr,_,_=>hr.elim
 | _,_::_,[],_,_,_,_,hr,_,_=>hr.elim
 | p::ps,s::ss,v::vs,L,tmps,hl,hp,⟨h1,h2⟩,h,t=>by
  refine params_slot ps ss vs ((p,s)::L) (tmps.setIfInBounds p v) (by simpa using hl) (fun q hq=>by rw [Array.size_setIfInBounds];exact hp q (List.mem_cons_of_mem _ hq)) h2 (fun t=>?_) t
  have:=hp p (List.mem_cons_self ..)
  rw [Sl.get_cons]
  simp only [Array.getD_eq_getD_getElem?,Array.getElem?_setIfInBounds]
  split
  ·rename_i hd;subst hd;simp;exact h1
  ·have:=h t;rwa [Array.getD_eq_getD_getElem?] at this
theorem foldl_size:∀ (l:List (Nat × Value)) (tmps:Array Value),(l.foldl (fun t (q:Nat × Value)=>t.setIfInBounds q.1 q.2) tmps).size=tmps.size
 | [],_=>rfl
 | q::l,tmps=>by rw [List.foldl_cons,foldl_size l];simp
def roundD {ι:Type} (Γ:Ctx) (next:ι→Prop) (I:ι→Nat × Hp) (Ls:Sl) (Q:f9):f9:=fun ex k L H=>match ex with
 | .normal=>∃ y,next y∧Ent Γ k L H (I y).1 [] (I y).2
 | .ret=>∃ k2 H2,Ent Γ k L H k2 [] H2∧Q .ret k2 Ls H2
 | _=>False
theorem Heap.widen {Γ:Ctx} {k:Nat→Prop} {H:Hp} {e:Env} {w:World} {l:Nat} (h:Heap Γ k H e w) (hl:¬ Γ.O l):Heap ⟨Γ.P,Γ.τ,Γ.τok,Γ.O,Γ.w0,fun b=>Γ.E0 b∨b=l,Γ.n,Γ.J,Γ.β0,Γ.rd,Γ.pan,Γ.mks,Γ.dr⟩ k H e w where
 top:=h.top
 heap:=h.heap
 ids:=h.ids
 nodup:=h.nodup
 mine b hb:=⟨(h.mine b hb).1.imp .inl id,(h.mine b hb).2⟩
 os:=h.os
 tape:=h.tape
 output:=h.output
 drawn:=h.drawn
 size:=h.size
 block b h1 h2:=h.block b h1 fun h=>h2 (.inl h)
 obound b hb:=⟨(h.obound b hb).1,fun hx=>hx.elim (h.obound b hb).2 fun hx=>hl (hx▸hb)⟩
 jle:=h.jle
 anchor:=h.anchor
theorem Heap.narrow {Γ:Ctx} {k:Nat→Prop} {H:Hp} {e:Env} {w:World} {l:Nat} (h:Heap ⟨Γ.P,Γ.τ,Γ.τok,Γ.O,Γ.w0,fun b=>Γ.E0 b∨b=l,Γ.n,Γ.J,Γ.β0,Γ.rd,Γ.pan,Γ.mks,Γ.dr⟩ k H e w) (hl:l ∉ aw e H) (hb:w.heap[l]? = Γ.w0.heap[l]?):Heap Γ k H e w where
 top:=h.top
 heap:=h.heap
 ids:=h.ids
 nodup:=h.nodup
 mine b hm:=⟨(h.mine b hm).1.elim (fun hx=>hx.elim .inl fun hx=>absurd (hx▸hm) hl) .inr,(h.mine b hm).2⟩
 os:=h.os
 tape:=h.tape
 output:=h.output
 drawn:=h.drawn
 size:=h.size
 block b h1 h2:=by
  by_cases hbl:b=l
  ·subst hbl;exact hb
  ·exact h.block b h1 fun h=>h.elim h2 hbl
 obound b hb:=⟨(h.obound b hb).1,fun hx=>(h.obound b hb).2 (.inl hx)⟩
 jle:=h.jle
 anchor:=h.anchor
theorem Heap.owned_loop {Γ:Ctx} {k:Nat→Prop} {H:Hp} {e:Env} {w:World} (h:Heap Γ k H e w) {r:Nat} {o:Loop} (hr:w.heap[r]? = some (Obj.loop o)):r ∉ aw e H:=by
 intro hb
 obtain⟨o,h1,h2⟩:=h.owned_cells hb
 rw [hr] at h1
 cases h1
 cases h2
set_option maxHeartbeats 1000000 in
theorem dw_range {P:Program} {τ:List (Nat × TI)} {τok:d7 P τ} {O:Nat→Prop} {w0:World} {E0:Nat→Prop} {N J:Nat} {β0:Nat→Nat × Value} {pan:Pan} {k:Nat} {L:Sl} {H:Hp} {Q:f9}
  {g:Operand} {ps:List Tmp} {assign body:Code} {gf:FuncId} {caps:List SV} (xs:List (List SV)) (hg:a8 L g = .fn gf caps) (hgo:c9 g=true) (hseq:SeqD P gf caps xs)
  (hps:∀ x∈xs,ps.length=x.length∧SV.lowL 0 x=true) (hpN:∀ p∈ps,p < N) (Ls:Sl) (hL1:Kepts L Ls) (hL2:keptB L Ls=true)
  {ι:Type} (I:Nat→ι→Nat × Hp) (pre:Nat→ι→Prop) (x0:ι) (p0:pre 0 x0) (hI0:I 0 x0=(k,H))
  (hbody:∀ (i:Nat) (hi:i < xs.length) x,pre i x→∀ O' w' E' β' l,DW ⟨P,τ,τok,O',w',E',N,k,β',some l,dm,false,false⟩ assign (fun ex k2 L2 H2=>ex = .normal∧∀ O' w' E' β',DW ⟨P,τ,τok,O',w',E',N,k,β',some l,dm,false,false⟩ body
   (roundD ⟨P,τ,τok,O',w',E',N,k,β',some l,dm,false,false⟩ (pre (i + 1)) (I (i + 1)) Ls Q) k2 L2 H2) (I i x).1 (params ps (xs[i]) Ls) (I i x).2)
  (hdone:∀ y,pre xs.length y→Q .normal (I xs.length y).1 Ls (I xs.length y).2) :
  DW ⟨P,τ,τok,O,w0,E0,N,J,β0,none,pan,true,false⟩ (.rangeFunc g ps.toArray assign body) Q k L H:=by
 intro e a W m
 obtain⟨hcall,hseq⟩:=hseq
 have hgr:=m.op g (ck hgo)
 rw [hg] at hgr
 obtain⟨lb,hgv,hlb⟩:=hgr
 show (Code.rangeFunc g ps.toArray assign body).wpIn Fence.wide 0 P _ a W
 refine wpIn_rangeFunc ?_
 intro fn _
 obtain⟨rec,hrec⟩:∃ rec:LoopState→Option Code→Loop,rec=fun st pe=>{ state:=st,pending:=pe,fn,tmps:=a.tmps,params:=ps.toArray,assign,body,defers:=W.heap.size }:=⟨_,rfl⟩
 obtain⟨W1,hW1⟩:∃ W1,(W.alloc (.deferred (some []))).alloc (.loop (rec .ready none))=W1:=⟨_,rfl⟩
 have hD1:W1.heap[W.heap.size]? = some (Obj.deferred (some [])):=by
  rw [← hW1];exact (Below.heap_alloc _ _ _ (by simp)).trans (World.alloc_heap_new W _)
 obtain⟨l,hl⟩:∃ l,l=W.heap.size + 1:=⟨_,rfl⟩
 have hL1':W1.heap[l]? = some (Obj.loop (rec .ready none)):=by
  rw [← hW1,hl];have:=World.alloc_heap_new (W.alloc (.deferred (some []))) (.loop (rec .ready none));rwa [World.size_alloc] at this
 have hb1:Below W.heap.size W W1:=by
  rw [← hW1];exact ((Below.refl _ W).alloc (Nat.le_refl _) _).alloc (by simp) _
 have hsz1:W1.heap.size=W.heap.size + 2:=by rw [← hW1];simp
 have hk1:KeepsCells W W1:=fun b o _ hb=>(hb1.block b (dg hb)).trans hb
 refine⟨W.heap.size + 1,[{ target:=.collected W.heap.size,args:=#[] }],W1,{ target:=.fn (.func gf) lb.toArray,args:=#[.func (.yield (W.heap.size + 1)) #[] #[]] },W1,gf,
  #[.func (.yield (W.heap.size + 1)) #[] #[]]++lb.toArray,W1,?_,?_,fun _ _=>trivial,?_,k6 (ro:=none),?_⟩
 ·rw [← hW1,hrec];exact run_enterLoop_outer _ _ _ _ _
 ·simp only [resolve,hgv]
  simp [go_sem]
 ·simp [invoke,go_sem,run_call hcall]
 rw [← hl]
 refine callsIn_wide.2 ?_
 let Γ1:Ctx:=⟨P,τ,τok,O,W1,fun b=>b∈aw e H,N,k,e.an,none,pan,true,false⟩
 have hH1:Heap Γ1 k H e W1:=m.toHeap.rebase hb1.size hk1 (fun j hj=>hj)
 have hlO:¬ O l:=fun hO=>by have h1:=(m.obound l hO).1;have h2:=m.size;simp only at h1 h2;omega
 let Γx:Ctx:=⟨P,τ,τok,O,W1,fun b=>b∈aw e H∨b=l,N,k,e.an,none,pan,true,false⟩
 let X:Nat→Prop:=fun b=>O b∨b∈aw e H
 have hXlt:∀ b,X b→b < W.heap.size:=fun b hb=>hb.elim (fun h=>Nat.lt_of_lt_of_le (m.obound b h).1 m.size) (m.lt b)
 have hlown:l ∉ aw e H:=fun h=>by have:=m.lt l h;omega
 have hslots:∀ (k':Nat) (H':Hp) (e':Env) (W':World),Heap Γx k' H' e' W'→∀ t,Rel (Ctx.X Γx e' H') e' W' (Ls.get t) (a.tmps.getD t undef):=by
  intro k' H' e' W' h t
  rcases kept_get Ls hL1 hL2 t with h1|⟨h1,h2⟩
  ·rw [h1];trivial
  ·rw [h1]
   have hdom:∀ i,e.dom i→e'.dom i∧e'.β i=e.β i:=fun i hi=>⟨(h.top i).2 (h.jle i ((m.top i).1 hi)),Env.an_β (h.anchor i ((m.top i).1 hi))⟩
   refine Rel.keep (X:=X) (w:=W) (Nat.le_trans hb1.size h.size) (fun b hb hx=>?_) (fun b hb hx=>?_) _ _ (Rel.stab hdom _ _ h2 (m.slot t))
   ·have hb':b < W1.heap.size:=by omega
    exact (h.block b hb' fun hE=>hE.elim (fun hE=>hx (.inr hE)) fun hE=>by omega).trans (hb1.block b hb)
   ·rcases hx with hx|hx
    ·exact .inl hx
    ·rcases (h.mine b hx).1 with h3|h3
     ·exact h3.elim .inr fun h3=>by omega
     ·have h3:W1.heap.size≤b:=h3
      omega
 have hnarrow:∀ (k':Nat) (H':Hp) (e':Env) (W':World),Heap Γx k' H' e' W'→W'.heap[l]? = some (Obj.loop (rec .ready none))→Heap Γ1 k' H' e' W':=fun k' H' e' W' h hlw =>
  Heap.narrow (Γ:=Γ1) (l:=l) h (h.owned_loop hlw) (hlw.trans hL1'.symm)
 have hlive:∀ (k':Nat) (H':Hp) (e':Env) (W':World),Heap Γ1 k' H' e' W'→W'.heap[l]? = some (Obj.loop (rec .ready none)):=fun k' H' e' W' h =>
  (h.block l (by show l < W1.heap.size;omega) hlown).trans hL1'
 have hend:∀ (ex:Exit) (k':Nat) (H':Hp) (e':Env) (W':World) (o o':Loop),Heap Γx k' H' e' W'→W'.heap[l]? = some (Obj.loop o)→Q ex k' Ls H' →
   lift ⟨P,τ,τok,O,w0,E0,N,J,β0,none,pan,true,false⟩ Q ex { a with defers:=[{ target:=.collected W.heap.size,args:=#[] }]++a.defers } (W'.putObj l (.loop o')):=by
  intro ex k' H' e' W' o o' h hlw hq
  have hk:KeepsCells W' (W'.putObj l (.loop o')):=l9 hlw rfl
  have hx:Heap Γx k' H' e' (W'.putObj l (.loop o')):=h.turned (by simp) hk rfl rfl rfl rfl fun b _ hE=>World.putObj_heap_other fun hbl=>hE (.inr hbl)
  refine .inl ⟨k',Ls,H',e',⟨?_,?_,m.len,hslots _ _ _ _ hx⟩,hq⟩
  ·refine m.toHeap.debase hb1.size hb1.os hb1.tape hb1.output (fun b hb _=>hb1.block b (Nat.lt_of_lt_of_le hb m.size)) (show Heap ⟨P,τ,τok,O,W1,fun b=>b∈aw e H∨b=l,N,k,e.an,none,pan,true,false⟩ k' H' e' (W'.putObj l (.loop o')) from hx) (fun b hb=>?_) ?_
   ·rcases hb with hb|hb
    ·exact (m.mine b hb).1
    ·exact .inr (by have:=m.size;simp only at this ⊢;omega)
   ·rcases Nat.eq_zero_or_pos J with hJ|hJ
    ·simp only;omega
    ·have:=m.jle (J - 1) (by simp only;omega)
     have h3:J - 1 < k:=this
     simp only;omega
  ·obtain⟨rs,h1,_,h2,h3⟩:=m.defers
   have hold:∀ r,r < W.heap.size→r ∉ aw e H→(W'.putObj l (.loop o')).heap[r]? = W.heap[r]?:=fun r hr hn =>
    (hx.block r (by show r < W1.heap.size;omega) fun hE=>hE.elim hn fun hE=>by omega).trans (hb1.block r hr)
   refine⟨W.heap.size::rs,?_,fun h=>(nomatch h),?_,?_⟩
   ·show [_]++a.defers=_
    rw [h1];rfl
   ·refine List.nodup_cons.2 ⟨fun hm=>?_,h2⟩
    have:=dg (h3 _ hm).2
    omega
   ·intro r hr
    rcases List.mem_cons.1 hr with rfl|hr
    ·refine⟨m.size,?_⟩
     exact (hx.block _ (by show _ < W1.heap.size;omega) fun hE=>hE.elim (fun hE=>by have:=m.lt _ hE;omega) fun hE=>by omega).trans hD1
    ·refine⟨(h3 r hr).1,(hold r (dg (h3 r hr).2) fun ho=>m.owned_mark (h3 r hr).2 ho).trans (h3 r hr).2⟩
 have hb0:=hseq X e W1 lb l (fun i W'=>∃ x,pre i x∧∃ e',Heap Γ1 (I i x).1 (I i x).2 e' W')
  (fun W'=>W'.heap[l]? = some (Obj.loop (rec .done (some .ret)))∧∃ k2 H2 e',Heap Γx (lo k2) H2 e' W'∧Q .ret k2 Ls H2)
  (fun b hb=>by have:=hXlt b hb;omega)
  (RelL.keep hb1.size (fun b hb _=>hb1.block b hb) (fun b hb hx=>hx) _ _ hlb)
  ⟨x0,p0,e,by rw [hI0];exact hH1⟩
  (fun i W' ⟨x,_,e',h⟩=>⟨h.size,fun b hb hx=>h.block b hb fun hE=>hx (.inr hE)⟩)
  (fun i W' W'' ⟨x,hp,e',h⟩ hb=>⟨x,hp,e',h.below (Beld.no hb)⟩)
  (fun W' W'' ⟨h1,k2,H2,e',h2,h3⟩ hb=>⟨(hb.block l (dg h1)).trans h1,k2,H2,e',h2.below (Beld.no hb),h3⟩)
  ?_
 ·refine hb0.mono ?_
  rintro en W2 ⟨⟨v,rfl⟩,⟨x,hp,e',h⟩|⟨h1,k2,H2,e',h2,h3⟩⟩
  ·have hlw:=hlive _ _ _ _ h
   refine⟨none,W2.putObj l (.loop (rec .exhausted none)),?_,?_⟩
   ·have:=run_endLoop (P:=P) hlw (by rw [hrec];simp)
    rw [hrec] at this ⊢;exact this
   ·exact hend .normal _ _ _ _ _ _ (Heap.widen (Γ:=Γ1) (l:=l) h hlO) hlw (hdone x hp)
  ·refine⟨some .ret,W2.putObj l (.loop (rec .exhausted (some .ret))),?_,?_⟩
   ·have:=run_endLoop (P:=P) h1 (by rw [hrec];simp)
    rw [hrec] at this ⊢;exact this
   ·exact wpIn_ret (hend .ret _ _ _ _ _ _ h2 h1 h3)
 ·rintro i hi Wa Wb vs ⟨x,hp,e1,hh1⟩ hbl ⟨e',hvs⟩
  have hhb:Heap Γ1 (lo (I i x).1) (I i x).2 e1 Wb:=hh1.below (Beld.no hbl)
  have hlw:=hlive _ _ _ _ hhb
  have hvl:=RelL.length _ _ hvs
  obtain⟨hpl,hxl⟩:=hps _ (List.getElem_mem hi)
  refine⟨rec .ready none,hlw,by rw [hrec];simp;omega,?_⟩
  rw [hrec]
  refine roundIn_of_wpIn trivial ?_
  show Code.wpIn (lf (some l)) 0 P assign _ _ _
  have hdomb:∀ j,j < k→(lo (I i x).1) j:=fun j hj=>hhb.jle j hj
  have hA:Heap ⟨P,τ,τok,O,Wb,fun b=>b∈aw e1 (I i x).2,N,k,e1.an,some l,dm,false,false⟩ (lo (I i x).1) (I i x).2 e1 Wb:=hhb.rebase (Nat.le_refl _) (fun _ _ _ h=>h) hdomb
  have hhx:Heap Γx (lo (I i x).1) (I i x).2 e1 Wb:=Heap.widen (Γ:=Γ1) (l:=l) hhb hlO
  have mA:Models ⟨P,τ,τok,O,Wb,fun b=>b∈aw e1 (I i x).2,N,k,e1.an,some l,dm,false,false⟩ (lo (I i x).1) (params ps (xs[i]) Ls) (I i x).2 e1
    { tmps:=((ps.toArray.zip vs.toArray).foldl (fun t (p,v)=>t.setIfInBounds p v) a.tmps),defers:=[] } Wb:=by
   have hz:(ps.toArray.zip vs.toArray).foldl (fun t (p,v)=>t.setIfInBounds p v) a.tmps=(ps.zip vs).foldl (fun t (q:Nat × Value)=>t.setIfInBounds q.1 q.2) a.tmps:=by
    rw [List.zip_toArray,List.foldl_toArray]
   refine⟨hA,Marks.nil,?_,?_⟩
   ·show Array.size _=N
    rw [hz,foldl_size];exact m.len
   ·intro t
    show Rel _ e1 Wb _ (Array.getD _ t undef)
    rw [hz]
    refine params_slot ps (xs[i]) vs Ls a.tmps hpl (fun p hp=>by rw [m.len];exact hpN p hp) ?_ (hslots _ _ _ _ hhx) t
    refine RelL.keep (Nat.le_refl _) (fun _ _ _=>rfl) (fun b _ hx=>?_) _ _ (RelL.env _ _ hxl hvs)
    rcases hx with hx|hx
    ·have h1:=(m.obound b hx).1
     have h2:=m.size
     have h3:=hh1.size
     simp only at h1 h2
     have h3:W1.heap.size≤Wa.heap.size:=h3
     exact⟨by omega,.inl (.inl hx)⟩
    ·have h1:=hh1.lt b hx
     refine⟨h1,?_⟩
     rcases (hh1.mine b hx).1 with h2|h2
     ·exact .inl (.inr h2)
     ·exact .inr h2
  refine wpIn_mono (hbody i hi x hp O Wb _ e1.an l e1 _ Wb mA) ?_
  rintro ex a1 w1 (⟨k2,L2,H2,e2,m2,rfl,hB⟩|⟨_,_,_,_,_,_,hE,_⟩)
  rotate_left
  ·exact hE.elim
  have hlw1:w1.heap[l]? = some (Obj.loop (rec .ready none)):=(m2.block l (dg hlw) (hhb.owned_loop hlw)).trans hlw
  have hx1:Heap Γx (lo k2) H2 e2 w1:=hhx.debase (wb:=Wb) (Nat.le_refl _) rfl rfl rfl (fun _ _ _=>rfl) (show Heap ⟨P,τ,τok,O,Wb,fun b=>b∈aw e1 (I i x).2,N,k,e1.an,some l,dm,false,false⟩ (lo k2) H2 e2 w1 from m2.toHeap) (fun b hb=>(hhx.mine b hb).1) (Nat.le_refl _)
  refine⟨w1.putObj l (.loop { rec .ready none with state:=.busy }),run_beginRound hlw1 (by rw [hrec]),?_⟩
  have hk2:KeepsCells w1 (w1.putObj l (.loop { rec .ready none with state:=.busy })):=l9 hlw1 rfl
  have hx2:Heap Γx (lo k2) H2 e2 (w1.putObj l (.loop { rec .ready none with state:=.busy })):=hx1.turned (by simp) hk2 rfl rfl rfl rfl fun b _ hE=>World.putObj_heap_other fun hbl=>hE (.inr hbl)
  generalize hw2:w1.putObj l (.loop { rec .ready none with state:=.busy })=w2 at hk2 hx2 ⊢
  have hs12:w1.heap.size≤w2.heap.size:=by rw [← hw2];simp
  have hlw2:w2.heap[l]? = some (Obj.loop { rec .ready none with state:=.busy }):=by rw [← hw2];exact World.putObj_heap_same (dg hlw1)
  have hB2:Heap ⟨P,τ,τok,O,w2,fun b=>b∈aw e2 H2,N,k,e2.an,some l,dm,false,false⟩ (lo k2) H2 e2 w2:=m2.toHeap.rebase hs12 hk2 (fun j hj=>m2.jle j hj)
  have mB:Models ⟨P,τ,τok,O,w2,fun b=>b∈aw e2 H2,N,k,e2.an,some l,dm,false,false⟩ (lo k2) L2 H2 e2 a1 w2:=by
   refine⟨hB2,?_,m2.len,fun t=>Rel.turned hs12 hk2 _ _ (m2.slot t)⟩
   obtain⟨rs,h1,h0,_,_⟩:=m2.defers
   rw [h1,h0 rfl]
   exact Marks.nil
  show Code.wpIn (lf (some l)) 0 P body _ _ _
  refine wpIn_mono (hB _ _ _ _ e2 a1 w2 mB) ?_
  have fin:∀ (k3:Nat) (H3:Hp) (e3:Env) (w3:World) (jump:Option Code),Heap ⟨P,τ,τok,O,w2,fun b=>b∈aw e2 H2,N,k,e2.an,some l,dm,false,false⟩ k3 H3 e3 w3 →
    (Instr.endRound l jump).run P w3 = .ok (.bool jump.isNone) (w3.putObj l (.loop (rec (if jump.isNone then .ready else .done) jump)))∧Heap Γx k3 H3 e3 (w3.putObj l (.loop (rec (if jump.isNone then .ready else .done) jump))) ∧
    (w3.putObj l (.loop (rec (if jump.isNone then .ready else .done) jump))).heap[l]? = some (Obj.loop (rec (if jump.isNone then .ready else .done) jump)):=by
   intro k3 H3 e3 w3 jump h3
   have hlw3:w3.heap[l]? = some (Obj.loop { rec .ready none with state:=.busy }):=(h3.block l (dg hlw2) (hx2.owned_loop hlw2)).trans hlw2
   refine⟨?_,?_,World.putObj_heap_same (dg hlw3)⟩
   ·have:=run_endRound (P:=P) jump hlw3
    rw [hrec] at this ⊢
    exact this
   ·have hx3:Heap Γx (lo k3) H3 e3 w3:=hx2.debase (wb:=w2) (Nat.le_refl _) rfl rfl rfl (fun _ _ _=>rfl) (show Heap ⟨P,τ,τok,O,w2,fun b=>b∈aw e2 H2,N,k,e2.an,some l,dm,false,false⟩ (lo k3) H3 e3 w3 from h3) (fun b hb=>(hx2.mine b hb).1) (Nat.le_refl _)
    exact hx3.turned (by simp) (l9 hlw3 rfl) rfl rfl rfl rfl fun b _ hE=>World.putObj_heap_other fun hbl=>hE (.inr hbl)
  rintro ex a3 w3 (⟨k3,L3,H3,e3,m3,hq⟩|⟨_,_,_,_,_,_,hE,_⟩)
  rotate_left
  ·exact hE.elim
  cases ex with
  | normal =>
   obtain⟨y,hy,hent⟩:=hq
   obtain⟨e4,m4⟩:=hent _ _ _ m3
   obtain⟨f1,f2,f3⟩:=fin _ _ _ _ none m4.toHeap
   exact⟨_,_,f1,.inl ⟨rfl,y,hy,e4,hnarrow _ _ _ _ f2 f3⟩⟩
  | ret =>
   obtain⟨k4,H4,hent,hq⟩:=hq
   obtain⟨e4,m4⟩:=hent _ _ _ m3
   obtain⟨f1,f2,f3⟩:=fin _ _ _ _ (some .ret) m4.toHeap
   exact⟨_,_,f1,.inr ⟨rfl,(by rw [show (if (some Code.ret).isNone=true then LoopState.ready else LoopState.done)=LoopState.done from rfl] at f3 ⊢;rw [hrec] at f3 ⊢;exact f3),k4,H4,e4,f2,hq⟩⟩
  | exit id=>exact hq.elim
  | goto t=>exact hq.elim
  | panic ch=>exact hq.elim
  | outgrown=>exact hq.elim
end Go.Proofs.YtapciiffpnociaaGreat
namespace Go.Proofs.YtapciiffpnociaaGreat
open Go Go.RowKit
def SV.flat:SV→Bool
 | .val _=>true
 | .junk=>true
 | .d (.int _ _)=>true
 | .d (.bool _)=>true
 | _=>false
theorem Rel.flat {X e w X' e' w'}:∀ (s:SV) (v:Value),s.flat=true→Rel X e w s v→Rel X' e' w' s v
 | .val _,_,_,h=>h
 | .junk,_,_,_=>trivial
 | .d (.int _ _),_,_,h=>by
  have h':RepC _ _ _ _:=h
  cases h' with
  | int g=>exact RepC.int g
 | .d (.bool _),_,_,h=>by
  have h:RepC _ _ _ _:=h
  cases h
  exact RepC.bool
 | .d (.str _),_,h,_=>nomatch h
 | .d (.slice _ _),_,h,_=>nomatch h
 | .nils,_,h,_=>nomatch h
 | .pd _,_,h,_=>nomatch h
 | .loc _ _,_,h,_=>nomatch h
 | .row _,_,h,_=>nomatch h
 | .mp _,_,h,_=>nomatch h
 | .md _ _,_,h,_=>nomatch h
 | .prow _ _ _ _,_,h,_=>nomatch h
 | .sl _ _ _ _,_,h,_=>nomatch h
 | .rsl _ _ _ _,_,h,_=>nomatch h
 | .fn _ _,_,h,_=>nomatch h
 | .agg _,_,h,_=>nomatch h
 | .tup _,_,h,_=>nomatch h
def flatB:Sl→Bool
 | []=>true
 | (_,s)::r=>s.flat && flatB r
theorem flat_get:∀ {L:Sl},flatB L=true→∀ t,(L.get t).flat=true
 | [],_,_=>rfl
 | (d,s)::r,h,t=>by
  simp only [flatB,Bool.and_eq_true] at h
  rw [Sl.get_cons]
  split
  ·exact h.1
  ·exact flat_get h.2 t
theorem kepts_get {L:Sl}:∀ {L':Sl},Kepts L L'→∀ t,L'.get t = .junk∨L'.get t=L.get t
 | [],_,_=>.inl rfl
 | (d,s)::r,h,t=>by
  rw [Sl.get_cons]
  split
  ·rename_i hd;subst hd;exact .inr h.1.symm
  ·exact kepts_get h.2 t
structure Flat (N:Nat) (L:Sl) (a:Act):Prop where
 len:a.tmps.size=N
 defers:a.defers=[]
 slot:∀ t X e w,Rel X e w (L.get t) (a.tmps.getD t undef)
abbrev Γit (P:Program) (τ:List (Nat × TI)) (τok:d7 P τ) (O:Nat→Prop) (W:World) (N:Nat):Ctx:=⟨P,τ,τok,O,W,fun _=>False,N,0,fun _=>(0,undef),none,dm,false,false⟩
section
variable {P : Program} {τ : List (Nat × TI)} {τok : d7 P τ} {O : Nat → Prop} {N : Nat} {L : Sl}
theorem Flat.models {a:Act} (h:Flat N L a) (W:World) (hO:∀ b,O b→b < W.heap.size):Models (Γit P τ τok O W N) (lo 0) L [] ⟨fun _=>0,fun _=>undef,lo 0⟩ a W where
 top _:=Iff.rfl
 heap _ hp:=nomatch hp
 ids:=.nil
 nodup:=.nil
 mine _ hb:=nomatch hb
 os:=rfl
 tape:=rfl
 output:=rfl
 drawn h:=nomatch h
 size:=Nat.le_refl _
 block _ _ _:=rfl
 obound b hb:=⟨hO b hb,id⟩
 jle _ hj:=nomatch hj
 anchor _ hj:=nomatch hj
 defers:=by rw [h.defers];exact Marks.nil
 len:=h.len
 slot t:=h.slot t _ _ _
theorem Models.flatten {W:World} {k:Nat→Prop} {H:Hp} {e:Env} {a:Act} {w:World} (m:Models (Γit P τ τok O W N) k L H e a w) {Ls:Sl} (hK:Kepts L Ls) (hf:flatB Ls=true):Flat N Ls a where
 len:=m.len
 defers:=by
  obtain⟨rs,h1,h0,_⟩:=m.defers
  rw [h1,h0 rfl];rfl
 slot t X e' w':=by
  have hg:=flat_get hf t
  rcases kepts_get hK t with h|h
  ·rw [h];trivial
  ·rw [h] at hg ⊢;exact Rel.flat _ _ hg (m.slot t)
theorem Heap.it_below {W:World} {k:Nat→Prop} {H:Hp} {e:Env} {w:World} (h:Heap (Γit P τ τok O W N) k H e w):Below W.heap.size W w:=⟨h.os,h.tape,h.output,h.size,fun b hb=>h.block b hb id⟩
end
section
variable {Γ : Ctx} {k : Nat} {L : Sl} {H : Hp} {K : cq} {ops : List Oper} {rest : List Oper} {x y : Operand} {t ty : TypeId}
theorem ev_val {op:Op} {s:SV} (L2:Sl) (hm:∀ e a w,Models Γ (lo k) L H e a w→Models Γ (lo k) L2 H e a w) (h:Ev Γ (lo k) L2 H op ty s):Ev Γ (lo k) L H op ty s:=fun e a w m=>h e a w (hm e a w m)
theorem Models.val_as {e:Env} {a:Act} {w:World} {k:Nat→Prop} (m:Models Γ k L H e a w) (t:Nat) {v:Value} {s:SV} (hv:L.get t = .val v) (hr:Rel (Γ.X e H) e w s v):Models Γ k ((t,s)::L) H e a w where
 toHeap:=m.toHeap
 defers:=m.defers
 len:=m.len
 slot t':=by
  rw [Sl.get_cons]
  split
  ·rename_i h
   subst h
   have h1:=m.slot t
   rw [hv] at h1
   have h1:a.tmps.getD t undef=v:=h1
   rw [h1];exact hr
  ·exact m.slot t'
theorem ev_fa_val {s:TypeId} {f off fty sz b o:Nat} {l} (hs:Γ.sh s = .struct l) (hf:l[f]? = some (off,fty,sz)) (hz:Nat.beq sz 0=false) (t:Nat) (hx:L.get t = .val (.pointer (some ⟨b,o,none⟩))) :
  Ev Γ (lo k) L H (.fieldAddr s (.tmp t) f) ty (.val (.pointer (some ⟨b,o + off,none⟩))):=by
 obtain⟨fs,hu,hl⟩:=Ctx.struct hs
 subst hl
 rw [List.getElem?_map] at hf
 cases hff:fs.toList[f]? with
 | none=>rw [hff] at hf;cases hf
 | some fd =>
  rw [hff] at hf
  simp only [Option.map_some,Option.some.injEq,Prod.mk.injEq] at hf
  obtain⟨h1,h2,h3⟩:=hf
  have hfa:fs[f]? = some fd:=by rw [← Array.getElem?_toList];exact hff
  have hinf:∃ inf,Γ.P.info? fd.type=some inf∧inf.size≠0:=by
   cases hi:Γ.P.info? fd.type with
   | none=>rw [hi] at h3;exact absurd h3.symm (Nat.ne_of_beq_eq_false hz)
   | some inf=>rw [hi] at h3;exact⟨inf,rfl,fun h=>Nat.ne_of_beq_eq_false hz (by rw [← h3,← h];rfl)⟩
  obtain⟨inf,hi,hne⟩:=hinf
  intro e A w m
  have hA:A.eval (.tmp t) = .pointer (some ⟨b,o,none⟩):=by
   have h1:=m.slot t
   rw [hx] at h1
   exact h1
  refine⟨_,fun dst pos after guard w' _=>?_,rfl⟩
  simp [execOp,Instr.fieldAt,hA,run_underlying hu,hfa,Instr.sureAddr,fieldPlace,dl hi,hne,h1,Addr.add_at]
theorem ev_ld_val {b o:Nat} {u:Value} (t2:Nat) (hkn:(Γ.sh t).known=true) (hg:(Γ.sh t).isAgg=false) (hx:L.get t2 = .val (.pointer (some ⟨b,o,none⟩))) (hc:Γ.w0.cell? ⟨b,o,none⟩=some u) (hE:∀ b,¬ Γ.E0 b) :
  Ev Γ (lo k) L H (.load t (.tmp t2)) ty (.val u):=by
 intro e a w m
 have ho:=Sh.known_ne hkn
 have hv:a.eval (.tmp t2) = .pointer (some ⟨b,o,none⟩):=by
  have h1:=m.slot t2
  rw [hx] at h1
  exact h1
 have hb:b < Γ.w0.heap.size:=by
  unfold World.cell? at hc
  split at hc
  ·rename_i hh;exact dg hh
  ·cases hc
 have hcw:w.cell? ⟨b,o,none⟩=some u:=(World.cell?_of_block (w:=Γ.w0) (m.block b hb (hE b))).trans hc
 exact⟨u,fun _ _ _ _ w' hw=>run_load1 ho hg hv (ix hw hcw) _ _ _ _,rfl⟩
theorem ev_len_val {t':TypeId} {ao:Option Addr} {n:Nat} {cap:Nat} (t2:Nat) (ht:Γ.sh t = .slice t') (hx:L.get t2 = .val (.slice ao n cap)) (hn:n≤maxLen):Ev Γ (lo k) L H (.call { callee:=.builtin .len,args:=#[.tmp t2],argTypes:=#[t] }) ty (.d (.int .i64 n)):=by
 intro e a w m
 have hv:a.eval (.tmp t2) = .slice ao n cap:=by
  have h1:=m.slot t2
  rw [hx] at h1
  exact h1
 refine⟨.int .i64 n,fun _ _ _ _ w' _=>?_,.int (WalkArith.wf_i64 (by unfold maxLen at hn;omega))⟩
 simp [execOp,resolve,invoke,builtin,hv,Builtin.len_,goInt,run_underlying (Ctx.slice ht)]
end
theorem Oper.wp_in2 {ro:Option Nat} {P:Program} {o:Oper} {a:Act} {w:World} {K K':Act→World→Prop} {Q Q':Exit→Act→World→Prop} (hd:∀ c,o.op≠.defer c) (hK:∀ a w,K a w→K' a w)
  (hQ:∀ c a w,Q (.panic c) a w→Q' (.panic c) a w) (hL:¬ LetsOut Q) (h:o.wp P a w K Q):o.wpIn (lf ro) 0 P a w K' Q':=by
 refine⟨fun _ _=>trivial,?_⟩
 rw [Oper.semAt_eq _ _ _ hd]
 unfold Oper.wp at h
 generalize (execOp a.eval o).run P w=r at h
 cases r with
 | ok x w' =>
  cases x <;> simp only [Oper.upon,Oper.uponIn] at h ⊢ <;> first
   | exact hK _ _ h
   | exact h.elim
   | exact⟨k6,callsIn_wideR (h.mono fun e w'' he=>by cases e <;> first|exact hK _ _ he|exact hQ _ _ _ he|exact absurd he hL)⟩
   | exact⟨k6,fun c cs _=>let ⟨v,w'',r,s⟩:=h c cs;⟨v,w'',hK _ _ r,stepsIn_wide.2 s⟩⟩
 | halt x w'=>cases x <;> simp only [Oper.upon,Oper.uponIn] at h ⊢ <;> first|exact hQ _ _ _ h|exact h
theorem wpList_app {ro:Option Nat} {P:Program} {ops:Array Oper} {Q Q':Exit→Act→World→Prop} (hQ:∀ c a w,Q (.panic c) a w→Q' (.panic c) a w) (hL:¬ LetsOut Q) (post:List Oper)
  (hn:∀ a w,Q .normal a w→wpListIn (lf ro) 0 P ops Q' post a w):∀ (l:List Oper),dt l=true→∀ a w,wpList P ops Q l a w→wpListIn (lf ro) 0 P ops Q' (l++post) a w
 | [],_,a,w,h=>hn a w h
 | o::l,hd,a,w,h=>by
  have hd1:=noDefer_spec hd o (List.mem_cons_self ..)
  have hd2:dt l=true:=by simp only [dt,Bool.and_eq_true] at hd;exact hd.2
  unfold wpList at h
  show wpListIn (lf ro) 0 P ops Q' (o::(l++post)) a w
  unfold wpListIn
  split at h
  ·rename_i hw
   rw [if_pos hw]
   rcases h with h|h
   ·exact Oper.wp_in2 hd1 (fun a w=>wpList_app hQ hL post hn l hd2 a w) hQ hL h
   ·exact absurd h.2 hL
  ·rename_i hw
   rw [if_neg hw]
   exact⟨fun _ _=>trivial,wpList_app hQ hL post hn l hd2 _ _ h⟩
def DWr (Γ:Ctx) (c:Code) (R:Exit→Act→World→Prop) (k:Nat) (L:Sl) (H:Hp):Prop:=∀ e a w,Models Γ (lo k) L H e a w→c.wpIn (lf Γ.rd) 0 Γ.P R a w
def rawQ (Γ:Ctx) (R:Exit→Act→World→Prop):f9:=fun ex k L H=>∀ e a w,Models Γ (lo k) L H e a w→R ex a w
section
variable {Γ : Ctx} {k : Nat} {L : Sl} {H : Hp} {R : Exit → Act → World → Prop}
theorem dwr_of {c:Code} (hp:Γ.pan=dm) (h:DW Γ c (rawQ Γ R) k L H):DWr Γ c R k L H:=fun e a w m=>wpIn_mono (h e a w m) (by
 rintro ex a' w' (⟨k',L',H',e',m',hq⟩|⟨v,_,_,_,_,_,hv,_⟩)
 ·exact hq _ _ _ m'
 ·rw [hp] at hv;exact hv.elim)
theorem dwr_seq {x y:Code} (hp:Γ.pan=dm) (h:DW Γ x (em (DWr Γ y R) (rawQ Γ R)) k L H):DWr Γ (.seq x y) R k L H:=fun e a w m=>by
 refine wpIn_seq (wpIn_mono (h e a w m) ?_)
 rintro ex a' w' (⟨k',L',H',e',m',hq⟩|⟨v,_,_,_,_,_,hv,_⟩)
 ·cases ex with
  | normal=>exact hq _ _ _ m'
  | _=>exact hq _ _ _ m'
 ·rw [hp] at hv;exact hv.elim
theorem dwr_run {c:Code} {e:Env} {a:Act} {w:World} (m:Models Γ (lo k) L H e a w) (h:DWr Γ c R k L H):c.wpIn (lf Γ.rd) 0 Γ.P R a w:=h e a w m
theorem dw_run {Q:f9} {c:Code} {e:Env} {a:Act} {w:World} (m:Models Γ (lo k) L H e a w) (h:DW Γ c Q k L H):c.wpIn (lf Γ.rd) 0 Γ.P (lift Γ Q) a w:=h e a w m
end
section
variable {Γ : Ctx} {k : Nat} {L : Sl} {H : Hp} {R : Exit → Act → World → Prop}
theorem dwr_seqR {x y:Code} (h:DWr Γ x (Exit.then (y.wpIn (lf Γ.rd) 0 Γ.P R) R) k L H):DWr Γ (.seq x y) R k L H:=fun e a w m=>wpIn_seq (h e a w m)
theorem dwr_block {id:Nat} {c:Code} (h:DWr Γ c (Exit.inBlock id R) k L H):DWr Γ (.block id c) R k L H:=fun e a w m=>wpIn_block (h e a w m)
end
abbrev Oit (X:Nat→Prop) (W0 W:World):Nat→Prop:=fun b=>b < W.heap.size∧(X b∨W0.heap.size≤b)
theorem it_rel {P:Program} {τ:List (Nat × TI)} {τok:d7 P τ} {N:Nat} {X:Nat→Prop} {W0 W:World} (hs:W0.heap.size≤W.heap.size) (hfr:∀ b,b < W0.heap.size→¬ X b→W.heap[b]? = W0.heap[b]?)
  {s:SV} {v:Value} {e0:Env} (hlow:s.low 0=true) (h:Rel X e0 W0 s v) {k:Nat→Prop} {H:Hp} {e:Env} {w:World} (hh:Heap (Γit P τ τok (Oit X W0 W) W N) k H e w):Rel (Ctx.X (Γit P τ τok (Oit X W0 W) W N) e H) e w s v:=by
 have hb:=hh.it_below
 refine Rel.keep (Nat.le_trans hs hb.size) (fun b hb1 hx=>(hb.block b (Nat.lt_of_lt_of_le hb1 hs)).trans (hfr b hb1 hx)) (fun b hb1 hx=>?_) _ _ (Rel.env _ _ hlow h)
 rcases hx with hx|hx
 ·rcases hx.2 with h1|h1
  ·exact h1
  ·omega
 ·rcases (hh.mine b hx).1 with h1|h1
  ·exact h1.elim
  ·have h1:W.heap.size≤b:=h1
   omega
theorem ent_freeze {Γ:Ctx} {k:Nat} {L:Sl} {H:Hp} (t i:Nat) {f:FuncId} {ty:TypeId} {ds:List D} (hL:L.get t = .fn f [.loc i 0]) (hH:Hp.get H i=some (.blk ty (ds.map .d))):Ent Γ k L H k ((t,.fn f [.pd ds])::L) (Hp.del H i):=by
 intro e a w m
 obtain⟨m2,hX⟩:=m.del i
 have hmem:=Hp.mem_of hH
 refine⟨e,m2.toHeap,m2.defers,m2.len,fun t'=>?_⟩
 rw [Sl.get_cons]
 split
 ·rename_i ht
  subst ht
  have hs:=m.slot t
  rw [hL] at hs
  obtain⟨vs,h1,h2⟩:=hs
  refine⟨vs,h1,?_⟩
  match vs,h2 with
  | [v],⟨⟨_,hv⟩,_⟩ =>
   refine⟨?_,trivial⟩
   obtain⟨us,g1,g2,_⟩:=(m.heap _ hmem).2
   have hown:HB.owned e (i,.blk ty (ds.map .d))=some (e.β i):=rfl
   refine⟨e.β i,0,hv,dg g1,fun hx=>?_,fun j hj=>?_⟩
   ·rcases hx with hx|hx
    ·exact (m.mine _ (List.mem_filterMap.2 ⟨_,hmem,hown⟩)).2 hx
    ·obtain⟨p,hp,hpg⟩:=List.mem_filterMap.1 hx
     have hd:=Hp.del_mem (i:=i) H m.ids p hp
     exact m.owned_ne hd.1 hmem hd.2 hpg hown
   ·obtain⟨u,g3,g4⟩:=RelL.get _ _ g2 j (.d ds[j]) (by rw [List.getElem?_map,List.getElem?_eq_getElem hj];rfl)
    refine⟨u,?_,RepC.keep (Nat.le_refl _) (fun _ _ _=>rfl) (fun b _ h=>hX b h) g4⟩
    rw [cell_of_row w _ _ _ ty (0,0) g1,Nat.zero_add];simpa using g3
 ·exact m2.slot t'
theorem dwr_yield {P:Program} {τ:List (Nat × TI)} {τok:d7 P τ} {O:Nat→Prop} {W:World} {N:Nat} {k:Nat} {L:Sl} {H:Hp} {R:Exit→Act→World→Prop}
  {id l d:Nat} {xs:List Operand} {ts:Array TypeId} {ty:TypeId} {pos:String} {af:Array Edge} {pre post:List Oper} {fy:Nat} (hn:dt pre=true) (hnp:dt post=true) (hdN:d < N) (Lf:Sl) (hf:flatB Lf=true) (Lp:Bool→Sl)
  (J' Jx:World→Prop)
  (hpre:DL (Γit P τ τok O W N) (pre++⟨some d,.call { callee:=.value (.tmp fy),args:=xs.toArray,argTypes:=ts },ty,pos,af,none⟩::post) pre (fun _ L' _=>L'.get fy = .val (.func (.yield l) #[] #[])∧eb xs=true∧Kepts L' Lf ∧
   ∀ e W' vs,Below W.heap.size W W'→RelL O e W' (opsL L' xs) vs→∃ r:Loop,W'.heap[l]? = some (Obj.loop r)∧vs.toArray.size=r.params.size ∧
    RoundIn Fence.wide 0 P l r.fn ((r.params.zip vs.toArray).foldl (fun t (p,v)=>t.setIfInBounds p v) r.tmps) r.assign r.body W'
     (fun en W''=>(en = .returned (.bool true)∧J' W'')∨(en = .returned (.bool false)∧Jx W''))) k L H)
  (hpost:∀ (b:Bool) (W':World),DL (Γit P τ τok (fun _=>False) W' N) (pre++⟨some d,.call { callee:=.value (.tmp fy),args:=xs.toArray,argTypes:=ts },ty,pos,af,none⟩::post) post (fun _ L' H'=>H' = []∧Kepts L' (Lp b)∧flatB (Lp b)=true) 0 ((d,.d (.bool b))::Lf) [])
  (hR:∀ (b:Bool) a' W',Flat N (Lp b) a'→(∃ W1,Below W1.heap.size W1 W'∧((b=true∧J' W1)∨(b=false∧Jx W1)))→R .normal a' W') :
  DWr (Γit P τ τok O W N) (.region id (pre++⟨some d,.call { callee:=.value (.tmp fy),args:=xs.toArray,argTypes:=ts },ty,pos,af,none⟩::post).toArray false) R k L H:=by
 intro e a w m
 refine wpIn_region_lit ?_
 refine wpList_app (Q:=lift (Γit P τ τok O W N) (fg _)) ?_ gr _ ?_ pre hn a w (hpre e a w m)
 ·rintro c a' w' (⟨_,_,_,_,_,hx,_⟩|⟨_,_,_,_,_,_,hv,_⟩)
  ·cases hx
  ·exact hv.elim
 rintro a' w' (⟨k',L',H',e',m',_,hy,hok,hkf,hround⟩|⟨_,_,_,_,_,hx,_⟩)
 rotate_left
 ·cases hx
 have hfl:=m'.flatten hkf hf
 unfold wpListIn
 rw [if_pos (by rfl)]
 refine⟨fun _ _=>trivial,?_⟩
 rw [Oper.semAt_eq _ _ _ (by intro c h;cases h)]
 have hyv:a'.eval (.tmp fy) = .func (.yield l) #[] #[]:=by
  have h1:=m'.slot fy
  rw [hy] at h1
  exact h1
 have hb:=m'.toHeap.it_below
 obtain⟨r,h1,h2,h3⟩:=hround e' w' (xs.map a'.eval) hb (RelL.keep (Nat.le_refl _) (fun _ _ _=>rfl) (fun b _ hx=>.inl hx) _ _ (ie m' xs hok))
 have hrun:(execOp a'.eval ⟨some d,.call { callee:=.value (.tmp fy),args:=xs.toArray,argTypes:=ts },ty,pos,af,none⟩).run P w' =
   .ok (.round l r.fn ((r.params.zip (xs.map a'.eval).toArray).foldl (fun t (p,v)=>t.setIfInBounds p v) r.tmps) r.assign r.body) w':=by
  simp only [execOp,resolve]
  simp only [hyv]
  have:=run_yield (P:=P) (w:=w') h1 h2
  simp [Deferred.ofValue,invoke,this]
 rw [hrun]
 rw [Oper.uponIn_round]
 refine⟨k6,h3.mono ?_⟩
 have fin:∀ (b:Bool) W1,((b=true∧J' W1)∨(b=false∧Jx W1))→wpListIn (lf none) 0 P (pre++⟨some d,.call { callee:=.value (.tmp fy),args:=xs.toArray,argTypes:=ts },ty,pos,af,none⟩::post).toArray R post (a'.put (some d) (.bool b)) W1:=by
  intro b W1 hj
  have m2:Models (Γit P τ τok (fun _=>False) W1 N) (lo 0) ((d,.d (.bool b))::Lf) [] ⟨fun _=>0,fun _=>undef,lo 0⟩ (a'.put (some d) (.bool b)) W1 :=
   (hfl.models W1 (fun _ h=>h.elim)).put (s:=.d (.bool b)) hdN RepC.bool
  have:=wpList_app (ro:=none) (Q:=lift (Γit P τ τok (fun _=>False) W1 N) (fg _)) (Q':=R) ?_ gr [] ?_ post hnp _ _ (hpost b W1 _ _ _ m2)
  ·rw [List.append_nil] at this;exact this
  ·rintro c a' w' (⟨_,_,_,_,_,hx,_⟩|⟨_,_,_,_,_,_,hv,_⟩)
   ·cases hx
   ·exact hv.elim
  ·rintro a3 w3 (⟨k3,L3,H3,e3,m3,_,rfl,hk3,hf3⟩|⟨_,_,_,_,_,hx,_⟩)
   ·exact hR b a3 w3 (m3.flatten hk3 hf3) ⟨W1,m3.toHeap.it_below,hj⟩
   ·cases hx
 rintro en W1 (⟨rfl,hj⟩|⟨rfl,hj⟩)
 ·exact fin true W1 (.inl ⟨rfl,hj⟩)
 ·exact fin false W1 (.inr ⟨rfl,hj⟩)
theorem dwr_yieldL {P:Program} {τ:List (Nat × TI)} {τok:d7 P τ} {O:Nat→Prop} {W:World} {N:Nat} {k:Nat} {L:Sl} {H:Hp} {R:Exit→Act→World→Prop}
  {id l d:Nat} {xs:List Operand} {ts:Array TypeId} {ty:TypeId} {pos:String} {af:Array Edge} {ops pre post:List Oper} {fy:Nat} (hl:ops=pre++⟨some d,.call { callee:=.value (.tmp fy),args:=xs.toArray,argTypes:=ts },ty,pos,af,none⟩::post)
  (hn:dt pre=true) (hnp:dt post=true) (hdN:Nat.blt d N=true) (Lf:Sl) (hf:flatB Lf=true) (Lp:Bool→Sl)
  (J' Jx:World→Prop)
  (hpre:DS false (Γit P τ τok O W N) ops pre (fun _ L' _=>L'.get fy = .val (.func (.yield l) #[] #[])∧eb xs=true∧Kepts L' Lf ∧
   ∀ e W' vs,Below W.heap.size W W'→RelL O e W' (opsL L' xs) vs→∃ r:Loop,W'.heap[l]? = some (Obj.loop r)∧vs.toArray.size=r.params.size ∧
    RoundIn Fence.wide 0 P l r.fn ((r.params.zip vs.toArray).foldl (fun t (p,v)=>t.setIfInBounds p v) r.tmps) r.assign r.body W'
     (fun en W''=>(en = .returned (.bool true)∧J' W'')∨(en = .returned (.bool false)∧Jx W''))) k L H)
  (hpost:∀ (b:Bool) (W':World),DS false (Γit P τ τok (fun _=>False) W' N) ops post (fun _ L' H'=>H' = []∧Kepts L' (Lp b)∧flatB (Lp b)=true) 0 ((d,.d (.bool b))::Lf) [])
  (hR:∀ (b:Bool) a' W',Flat N (Lp b) a'→(∃ W1,Below W1.heap.size W1 W'∧((b=true∧J' W1)∨(b=false∧Jx W1)))→R .normal a' W') :
  DWr (Γit P τ τok O W N) (.region id ops.toArray false) R k L H:=by
 subst hl
 exact dwr_yield hn hnp (Nat.le_of_ble_eq_true hdN) Lf hf Lp J' Jx hpre hpost hR
end Go.Proofs.YtapciiffpnociaaGreat
