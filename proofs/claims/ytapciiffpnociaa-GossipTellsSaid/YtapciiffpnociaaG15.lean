/- Several texts in one: DagS DagT DagU DagV GosA GosB DagW DagX GosP DagY. Condition: none. -/
import Derived.Test.YtapciiffpnociaaG14
import Derived.Test.YtapciiffpnociaaG01
namespace Go.Proofs.Ytapciiffpnociaa
open Go Go.RowKit
def hasP (l:List Upd) (i:UId):Bool:=l.any fun v=>v.parents.any fun j=>j.same i
theorem topsL_snoc (has l:List Upd) (x:Upd):topsL has (l++[x])=topsL has l++(match hasP has x.id with|true=>[]|false=>[x]):=by
 unfold topsL hasP
 rw [List.filter_append,List.filter_cons,List.any_flatMap]
 cases has.any fun v=>v.parents.any fun j=>j.same x.id <;> rfl
theorem hasP_snoc {l:List Upd} {k:Nat} (hk:k < l.length) (i:UId):hasP (l.take (k + 1)) i=(hasP (l.take k) i || l[k].parents.any fun j=>j.same i):=by
 unfold hasP
 rw [List.take_succ_eq_append_getElem hk,List.any_append]
 simp
attribute [local irreducible] DW DS DL DQ Ev FnOk FnP thenD inBlockD DT
abbrev rplB (r:Rpl):HB:=.blk 73 [.d (.slice 5 (r.has.map encUpd)),.d (.slice 5 (r.waits.map encUpd))]
set_option maxHeartbeats 8000000 in
theorem headsAre_fn (r:Rpl) (hl:r.has.length≤1000000):Fn 45 [elRpl r] (fun res=>res = .d (.slice 2 (((topsU r.has).map Upd.id).map encId))):=by
 refine fnp_enter' _ Try.func45 rfl rfl (by kernel_rfl) ?_
 intro O w0 E0 β0
 have ll:(r.has.map encUpd).length=r.has.length:=List.length_map _
 repeat' (first|refine z0 ?_|apply ds_nil|apply dw_seq2|refine z16 ?_|apply dw_block|apply thenD_n|refine z1 ?_|fail)
 refine dw_ent (ent_nilrow (t:=3) 36 2 rfl) ?_
 refine ds_loop (ι:=Nat) (fun i=>⟨2,[(1,.loc 0 0),(3,.row 1),(4,.d (.int .i64 i))],[(0,rplB r),(1,.row 36 2 (((topsL r.has (r.has.take i)).map Upd.id).map encId))]⟩)
  (fun i=>i≤r.has.length) (fun i=>r.has.length - i) 0 (Nat.zero_le _) (ent_ren id ⟨rfl,rfl,rfl,trivial⟩ ⟨rfl,rfl,trivial⟩ rfl rfl rfl rfl rfl rfl) ?_
 intro i g1
 have lo:(((topsL r.has (r.has.take i)).map Upd.id).map encId).length≤i:=by
  rw [List.length_map,List.length_map]
  have:=List.length_filter_le (fun u:Upd=>!((r.has.flatMap Upd.parents).any fun j=>j.same u.id)) (r.has.take i)
  rw [List.length_take] at this
  unfold topsL
  omega
 by_cases hi:i < r.has.length
 ·have hst:=topsL_snoc r.has (r.has.take i) r.has[i]
  rw [← List.take_succ_eq_append_getElem hi] at hst
  repeat' (first|refine z0 ?_|apply ds_nil|apply dw_seq2|refine z16 ?_|apply dw_block|apply dw_skip|apply dw_exit|apply thenD_n|apply thenD_e|refine z17 ?_|(refine z23 ?_ ?_ <;> intro hg)|fail)
  all_goals try (exfalso;omega)
  refine ds_loop (ι:=Nat) (fun k=>⟨2,[(1,.loc 0 0),(3,.row 1),(4,.d (.int .i64 i)),(5,.d (.bool (!hasP (r.has.take k) r.has[i].id))),(6,.d (.int .i64 k))],[(0,rplB r),(1,.row 36 2 (((topsL r.has (r.has.take i)).map Upd.id).map encId))]⟩)
   (fun k=>k≤r.has.length) (fun k=>r.has.length - k) 0 (Nat.zero_le _) (ent_ren id ⟨rfl,rfl,rfl,rfl,rfl,trivial⟩ ⟨rfl,rfl,trivial⟩ rfl rfl rfl rfl rfl rfl) ?_
  intro k g2
  by_cases hk:k < r.has.length
  ·have hsn:=hasP_snoc hk r.has[i].id
   have w:=hasId_fn r.has[k].parents r.has[i].id
   cases hb:hasP (r.has.take k) r.has[i].id with
   | true =>
    rw [hb,Bool.true_or] at hsn
    repeat' (first|refine z0 ?_|apply ds_nil|refine z5 ?_|refine z14 ?_|refine z10 ?_|apply dw_seq2|refine z16 ?_|refine z20 ?_|apply dw_block|apply dw_skip|apply dw_exit|refine z19 ?_|apply thenD_n|apply thenD_e|apply inB_n|refine z17 ?_|(refine z23 ?_ ?_ <;> intro hg)|fail)
    all_goals try (exfalso;omega)
    exact⟨k + 1,hk,ent_ren id ⟨rfl,rfl,rfl,by rw [hsn];rfl,rfl,trivial⟩ ⟨rfl,rfl,trivial⟩ rfl rfl rfl rfl rfl rfl,by omega⟩
   | false =>
    rw [hb,Bool.false_or] at hsn
    rw [← hsn] at w
    repeat' (first|refine z0 ?_|apply ds_nil|refine z5 ?_|refine z10 ?_|apply dw_seq2|refine z16 ?_|refine z20 ?_|apply dw_block|apply dw_skip|apply dw_exit|refine z18 ?_|apply thenD_n|apply thenD_e|apply inB_n|refine z17 ?_|refine z22 ?_ (hc:=by apply w)|refine z4 ?_|refine z2 ?_|(refine z23 ?_ ?_ <;> intro hg)|fail)
    all_goals try (exfalso;omega)
    exact⟨k + 1,hk,ent_ren id ⟨rfl,rfl,rfl,rfl,rfl,trivial⟩ ⟨rfl,rfl,trivial⟩ rfl rfl rfl rfl rfl rfl,by omega⟩
  ·rw [List.take_of_length_le (by omega:r.has.length≤k)]
   cases hb:hasP r.has r.has[i].id with
   | true =>
    rw [hb] at hst
    dsimp only at hst
    rw [List.append_nil] at hst
    repeat' (first|refine z0 ?_|apply ds_nil|refine z5 ?_|refine z14 ?_|refine z10 ?_|apply dw_seq2|refine z16 ?_|refine z20 ?_|apply dw_block|apply dw_skip|apply dw_exit|refine z19 ?_|apply thenD_n|apply thenD_e|apply inB_n|refine z17 ?_|(refine z23 ?_ ?_ <;> intro hg)|fail)
    all_goals try (exfalso;omega)
    exact⟨i + 1,hi,ent_ren id ⟨rfl,rfl,rfl,trivial⟩ ⟨rfl,by rw [hst];rfl,trivial⟩ rfl rfl rfl rfl rfl rfl,by omega⟩
   | false =>
    rw [hb] at hst
    dsimp only at hst
    repeat' (first|refine z0 ?_|apply ds_nil|refine z5 ?_|apply dw_seq2|refine z16 ?_|refine z20 ?_|apply dw_block|apply dw_skip|apply dw_exit|refine z18 ?_|apply thenD_n|apply thenD_e|refine z17 ?_|refine z4 ?_|(refine z23 ?_ ?_ <;> intro hg)|fail)
    all_goals try (exfalso;omega)
    refine ds_tradeC rfl ⟨by rw [List.length_singleton];omega,by unfold maxLen;rw [List.length_singleton];omega⟩ rfl rfl rfl rfl ?_
    repeat' (first|refine z0 ?_|apply ds_nil|refine z16 ?_|apply thenD_n|apply inB_n)
    exact⟨i + 1,hi,ent_ren (fun j=>match j with|1=>2|j=>j) ⟨rfl,rfl,rfl,trivial⟩ ⟨rfl,by rw [hst,List.map_append,List.map_append];rfl,trivial⟩ rfl rfl rfl rfl rfl rfl,by omega⟩
 ·rw [List.take_of_length_le (by omega:r.has.length≤i)]
  repeat' (first|refine z0 ?_|apply ds_nil|apply dw_seq2|refine z16 ?_|apply dw_block|apply dw_skip|apply dw_exit|apply thenD_n|apply thenD_e|refine z17 ?_|(refine z23 ?_ ?_ <;> intro hg)|fail)
  all_goals try (exfalso;omega)
  refine dw_ent (ent_seal 2 rfl rfl rfl) ?_
  repeat' (apply dw_ret)
  exact⟨.inl rfl,_,rfl,rfl,rfl⟩

theorem roundB_iff {has:List Upd} (hs:StrU has) (hr:∀ u∈has,readyU has u=true):roundB has=true↔∃ u∈has,¬ Der has u.id:=by
 unfold roundB
 rw [List.any_eq_true]
 constructor
 ·rintro⟨u,hu,h⟩
  exact⟨u,hu,fun hd=>der_no_round hs hd u hu rfl ((behM_iff hs _ _).1 h)⟩
 ·rintro⟨u,hu,h⟩
  refine Classical.byContradiction fun hn=>h (no_round_der hr (fun v hv hre=>hn ⟨v,hv,(behM_iff hs _ _).2 hre⟩) u hu)
def markOf (has:List Upd) (F:List Bool) (j:UId):Bool:=match has.findIdx? fun u=>u.id.same j with
 | some n=>F.getD n false
 | none=>false
theorem findIdx_at {has:List Upd} (hs:StrU has) {i:Nat} (hi:i < has.length):has.findIdx? (fun u=>u.id.same (has[i]'hi).id)=some i:=by
 rw [List.findIdx?_eq_some_iff_getElem]
 refine⟨hi,same_iff.2 rfl,fun j hj=>?_⟩
 rw [same_iff]
 intro he
 have h1:=hs.uniq (List.getElem_mem (by omega)) (List.getElem_mem hi) he
 have:=(List.getElem_inj hs.nodup).1 h1
 omega
theorem markOf_at {has:List Upd} (hs:StrU has) (F:List Bool) {i:Nat} (hi:i < has.length):markOf has F (has[i]'hi).id=F.getD i false:=by unfold markOf;rw [findIdx_at hs hi]
def FreeOk (has:List Upd) (F:List Bool):Prop:=F.length=has.length∧∀ (i:Nat) (hi:i < has.length),F.getD i false=true→Der has (has[i]'hi).id
theorem FreeOk.mark {has:List Upd} {F:List Bool} (h:FreeOk has F) {j:UId} (hm:markOf has F j=true):Der has j:=by
 unfold markOf at hm
 split at hm
 ·rename_i n hf
  obtain⟨hn,hs,_⟩:=List.findIdx?_eq_some_iff_getElem.1 hf
  rw [← same_iff.1 hs]
  exact h.2 n hn hm
 ·cases hm
theorem FreeOk.set {has:List Upd} {F:List Bool} (h:FreeOk has F) {i:Nat} (hi:i < has.length) (ha:(underU (has[i]'hi)).all (markOf has F)=true):FreeOk has (F.set i true):=by
 refine⟨by rw [List.length_set];exact h.1,fun j hj hm=>?_⟩
 by_cases he:i=j
 ·subst he
  exact .mk _ (List.getElem_mem hi) fun k hk=>h.mark (List.all_eq_true.1 ha k hk)
 ·refine h.2 j hj ?_
  rw [List.getD,List.getElem?_set_ne he] at hm
  exact hm
def Closed (has:List Upd) (F:List Bool):Prop:=∀ (i:Nat) (hi:i < has.length),F.getD i false=false→(underU (has[i]'hi)).all (markOf has F)=false
theorem Closed.der {has:List Upd} (hs:StrU has) {F:List Bool} (h:Closed has F) {j:UId} (hd:Der has j):markOf has F j=true:=by
 induction hd with
 | mk u hu _ ih =>
  obtain⟨i,hi,rfl⟩:=List.mem_iff_getElem.1 hu
  rw [markOf_at hs F hi]
  cases hb:F.getD i false with
  | true=>rfl
  | false =>
   have:=h i hi hb
   rw [List.all_eq_true.2 ih] at this
   cases this
theorem free_iff {has:List Upd} (hs:StrU has) {F:List Bool} (h:FreeOk has F) (hc:Closed has F) {i:Nat} (hi:i < has.length):F.getD i false=true↔Der has (has[i]'hi).id :=
 ⟨h.2 i hi,fun hd=>by rw [← markOf_at hs F hi];exact hc.der hs hd⟩
def leftF (F:List Bool):Nat:=F.countP fun b=>!b
theorem leftF_set {F:List Bool} {i:Nat} (hi:i < F.length) (hf:F.getD i false=false):leftF (F.set i true) + 1=leftF F:=by
 have e:F=F.take i++F[i]::F.drop (i + 1):=by rw [← List.drop_eq_getElem_cons hi,List.take_append_drop]
 have hb:F[i]=false:=by rw [List.getD,List.getElem?_eq_getElem hi] at hf;exact hf
 have e2:F.set i true=F.take i++true::F.drop (i + 1):=by rw [List.set_eq_take_append_cons_drop,if_pos hi]
 unfold leftF
 rw [e2]
 conv=>rhs;rw [e]
 rw [List.countP_append,List.countP_append,List.countP_cons,List.countP_cons,hb]
 simp
 omega
theorem leftF_pos {F:List Bool}:0 < leftF F↔∃ (i:Nat) (_:i < F.length),F.getD i false=false:=by
 unfold leftF
 rw [List.countP_pos_iff]
 constructor
 ·rintro⟨b,hb,h⟩
  obtain⟨i,hi,rfl⟩:=List.mem_iff_getElem.1 hb
  exact⟨i,hi,by rw [List.getD,List.getElem?_eq_getElem hi];simpa using h⟩
 ·rintro⟨i,hi,h⟩
  rw [List.getD,List.getElem?_eq_getElem hi] at h
  exact⟨F[i],List.getElem_mem hi,by simpa using h⟩
theorem left_iff {has:List Upd} (hs:StrU has) {F:List Bool} (h:FreeOk has F) (hc:Closed has F):0 < leftF F↔∃ u∈has,¬ Der has u.id:=by
 rw [leftF_pos]
 constructor
 ·rintro⟨i,hi,hf⟩
  have hi':i < has.length:=by rw [← h.1];exact hi
  exact⟨has[i],List.getElem_mem hi',fun hd=>by rw [(free_iff hs h hc hi').2 hd] at hf;cases hf⟩
 ·rintro⟨u,hu,hd⟩
  obtain⟨i,hi,rfl⟩:=List.mem_iff_getElem.1 hu
  refine⟨i,by rw [h.1];exact hi,?_⟩
  cases hb:F.getD i false with
  | false=>rfl
  | true=>exact absurd ((free_iff hs h hc hi).1 hb) hd
theorem markOf_idx (has:List Upd) (F:List Bool) (j:UId):(idxF (fun u=>u.id.same j) has = -1∧markOf has F j=false)∨∃ (n:Nat) (_:n < has.length),idxF (fun u=>u.id.same j) has=n∧markOf has F j=F.getD n false:=by
 unfold idxF markOf
 cases h:has.findIdx? fun u=>u.id.same j with
 | none=>exact .inl ⟨rfl,rfl⟩
 | some n=>exact .inr ⟨n,(List.findIdx?_eq_some_iff_getElem.1 h).1,rfl,rfl⟩
set_option maxHeartbeats 8000000 in
theorem isRound_fn (has:List Upd) (hl:has.length≤100000) (hs:StrU has) (hk:∀ u∈has,u.parents.length + u.takes.length≤1000000):Fn 120 [.d (.slice 5 (has.map encUpd))] (fun r=>∃ b,r = .d (.bool b)∧(b=true↔∃ u∈has,¬ Der has u.id)):=by
 refine fnp_enter' _ Try.func120 rfl rfl (by kernel_rfl) ?_
 intro O w0 E0 β0
 have ll:(has.map encUpd).length=has.length:=List.length_map _
 repeat' (first|refine z0 ?_|apply ds_nil|apply dw_seq2|refine z16 ?_|apply thenD_n)
 refine ds_mk ((List.replicate has.length false).map encBl) rfl rfl (by rw [ll]) rfl rfl rfl rfl rfl rfl (by show 1 * _≤_;omega) (by unfold maxLen;omega) (by rw [List.map_replicate];rfl) rfl rfl ?_
 repeat' (first|refine z0 ?_|apply ds_nil|apply dw_seq2|refine z16 ?_|apply dw_block|apply thenD_n)
 refine ds_loop (ι:=List Bool × Bool) (fun x=>⟨1,[(0,.d (.slice 5 (has.map encUpd))),(3,.row 0),(4,.d (.int .i64 (leftF x.1))),(5,.d (.bool x.2))],[(0,.row 4 1 (x.1.map encBl))]⟩)
  (fun x=>FreeOk has x.1∧(x.2=false→Closed has x.1)) (fun x=>2 * leftF x.1 + (match x.2 with|true=>1|false=>0)) (List.replicate has.length false,true)
  ⟨⟨List.length_replicate,fun i hi h=>by rw [List.getD,List.getElem?_replicate] at h;split at h <;> cases h⟩,fun h=>by cases h⟩ (ent_ren id ⟨rfl,rfl,?_,rfl,trivial⟩ ⟨rfl,trivial⟩ rfl rfl rfl rfl rfl rfl) ?_
 ·exact congrArg (fun z:Int=>SV.d (.int .i64 z)) (by unfold leftF;rw [ll,List.countP_replicate];simp)
 rintro⟨F,ch⟩ ⟨g1,g2⟩
 dsimp only at g1 g2 ⊢
 cases ch with
 | false =>
  repeat' (first|refine z0 ?_|apply ds_nil|apply dw_seq2|refine z16 ?_|apply dw_exit|apply dw_ret|refine z19 ?_|apply thenD_n|apply thenD_e|refine z17 ?_|fail)
  exact⟨.inl rfl,_,rfl,rfl,_,rfl,by rw [decide_eq_true_eq,← left_iff hs g1 (g2 rfl)];omega⟩
 | true =>
  clear g2
  repeat' (first|refine z0 ?_|apply ds_nil|apply dw_seq2|refine z16 ?_|apply dw_block|apply dw_skip|refine z18 ?_|apply thenD_n)
  refine ds_loop (ι:=Nat × List Bool × Bool) (fun x=>⟨1,[(0,.d (.slice 5 (has.map encUpd))),(3,.row 0),(4,.d (.int .i64 (leftF x.2.1))),(5,.d (.bool x.2.2)),(6,.d (.int .i64 x.1))],[(0,.row 4 1 (x.2.1.map encBl))]⟩)
   (fun x=>x.1≤has.length∧FreeOk has x.2.1∧(x.2.2=false→x.2.1=F∧∀ (j:Nat) (hj:j < has.length),j < x.1→F.getD j false=false→(underU (has[j]'hj)).all (markOf has F)=false)∧(x.2.2=true→leftF x.2.1 < leftF F)) (fun x=>has.length - x.1) (0,F,false)
   ⟨Nat.zero_le _,g1,fun _=>⟨rfl,fun j _ h=>absurd h (Nat.not_lt_zero j)⟩,fun h=>by cases h⟩ (ent_ren id ⟨rfl,rfl,rfl,rfl,rfl,trivial⟩ ⟨rfl,trivial⟩ rfl rfl rfl rfl rfl rfl) ?_
  rintro⟨i,G,cg⟩ ⟨f1,f2,f3,f4⟩
  dsimp only at f1 f2 f3 f4 ⊢
  have lg:(G.map encBl).length=G.length:=List.length_map _
  have lgh:=f2.1
  by_cases hi:i < has.length
  ·have w1:=underOf_fn has[i] (hk _ (List.getElem_mem hi))
   have hul:(underU has[i]).length≤1000000:=by unfold underU;rw [List.length_append];exact hk _ (List.getElem_mem hi)
   obtain⟨ids,hids⟩:∃ ids,ids=underU has[i]:=⟨_,rfl⟩
   rw [← hids] at w1 hul
   have li:(ids.map encId).length=ids.length:=List.length_map _
   have hiG:i < G.length:=by omega
   repeat' (first|refine z0 ?_|apply ds_nil|apply dw_seq2|refine z16 ?_|apply dw_block|apply dw_skip|apply dw_exit|apply thenD_n|apply thenD_e|apply inB_n|refine z17 ?_|refine z21 ?_ (hc:=by apply w1)|(refine z23 ?_ ?_ <;> intro hg)|fail)
   all_goals try (exfalso;omega)
   have hgd:G.getD i false=G[i]:=by rw [List.getD,List.getElem?_eq_getElem hiG];rfl
   refine ds_loop (ι:=Nat) (fun k=>⟨1,[(0,.d (.slice 5 (has.map encUpd))),(3,.row 0),(4,.d (.int .i64 (leftF G))),(5,.d (.bool cg)),(6,.d (.int .i64 i)),(7,.d (.slice 2 (ids.map encId))),(8,.d (.bool (!G[i] && (ids.take k).all (markOf has G)))),(9,.d (.int .i64 k))],[(0,.row 4 1 (G.map encBl))]⟩)
    (fun k=>k≤ids.length) (fun k=>ids.length - k) 0 (Nat.zero_le _) (ent_ren id ⟨rfl,rfl,rfl,rfl,rfl,rfl,by rw [List.take_zero,List.all_nil,Bool.and_true];rfl,rfl,trivial⟩ ⟨rfl,trivial⟩ rfl rfl rfl rfl rfl rfl) ?_
   clear w1
   intro k e1
   have stay:(!G[i] && ids.all (markOf has G))=false→((i + 1≤has.length)∧FreeOk has G∧(cg=false→G=F∧∀ (j:Nat) (hj:j < has.length),j < i + 1→F.getD j false=false→(underU (has[j]'hj)).all (markOf has F)=false)∧(cg=true→leftF G < leftF F)):=fun hc=>⟨hi,f2,fun h=>by
     obtain⟨h1,h2⟩:=f3 h
     refine⟨h1,fun j hj hlt hf=>?_⟩
     by_cases he:j=i
     ·subst he
      subst h1
      rw [hgd] at hf
      rw [hf,hids] at hc
      simpa using hc
     ·exact h2 j hj (by omega) hf,f4⟩
   cases hok:(!G[i] && (ids.take k).all (markOf has G)) with
   | true =>
    by_cases hk2:k < ids.length
    ·have w2:=placeOf_fn has ids[k] (by omega)
     have hst:(!G[i] && (ids.take (k + 1)).all (markOf has G))=markOf has G ids[k]:=by
      rw [List.take_succ_eq_append_getElem hk2,List.all_append,← Bool.and_assoc,hok]
      simp
     rcases markOf_idx has G ids[k] with ⟨m1,m2⟩|⟨n,hn,m1,m2⟩
     ·rw [m1] at w2
      rw [m2] at hst
      repeat' (first|refine z0 ?_|refine z12 ?_|apply ds_nil|(apply ds_stP;exact rfl;exact rfl;(apply hv_get;(omega));exact rfl;exact rfl;(exact hv_set rfl);exact rfl;exact rfl;exact rfl;exact rfl;exact rfl;exact rfl)|apply dw_seq2|refine z16 ?_|apply dw_block|apply dw_skip|apply dw_exit|refine z18 ?_|refine z19 ?_|apply thenD_n|apply thenD_e|apply inB_n|refine z17 ?_|refine z21 ?_ (hc:=by apply w2)|((fail_if_success (apply ds_known;exact rfl));apply ds_guardP;exact rfl;exact rfl;exact rfl;all_goals intro hg))
      all_goals try (exfalso;omega)
      exact⟨k + 1,hk2,ent_ren id ⟨rfl,rfl,rfl,rfl,rfl,rfl,by rw [hst];rfl,rfl,trivial⟩ ⟨rfl,trivial⟩ rfl rfl rfl rfl rfl rfl,by omega⟩
     ·have hnG:n < G.length:=by omega
      have hgn:G.getD n false=G[n]:=by rw [List.getD,List.getElem?_eq_getElem hnG];rfl
      rw [m1] at w2
      rw [m2,hgn] at hst
      repeat' (first|refine z0 ?_|refine z12 ?_|apply ds_nil|(apply ds_stP;exact rfl;exact rfl;(apply hv_get;(omega));exact rfl;exact rfl;(exact hv_set rfl);exact rfl;exact rfl;exact rfl;exact rfl;exact rfl;exact rfl)|apply dw_seq2|refine z16 ?_|apply dw_block|apply dw_skip|apply dw_exit|refine z18 ?_|refine z19 ?_|apply thenD_n|apply thenD_e|apply inB_n|refine z17 ?_|refine z21 ?_ (hc:=by apply w2)|((fail_if_success (apply ds_known;exact rfl));apply ds_guardP;exact rfl;exact rfl;exact rfl;all_goals intro hg))
      all_goals try (exfalso;omega)
      exact⟨k + 1,hk2,ent_ren id ⟨rfl,rfl,rfl,rfl,rfl,rfl,by rw [hst];rfl,rfl,trivial⟩ ⟨rfl,trivial⟩ rfl rfl rfl rfl rfl rfl,by omega⟩
    ·rw [List.take_of_length_le (by omega)] at hok
     have hok2:=hok
     rw [Bool.and_eq_true,Bool.not_eq_true'] at hok2
     have hls:=leftF_set hiG (hgd.trans hok2.1)
     have hcl:leftF G≤G.length:=List.countP_le_length
     repeat' (first|refine z0 ?_|refine z12 ?_|apply ds_nil|(apply ds_stP;exact rfl;exact rfl;(apply hv_get;(omega));exact rfl;exact rfl;(exact hv_set rfl);exact rfl;exact rfl;exact rfl;exact rfl;exact rfl;exact rfl)|apply dw_seq2|refine z16 ?_|apply dw_block|apply dw_skip|apply dw_exit|refine z18 ?_|refine z19 ?_|apply thenD_n|apply thenD_e|apply inB_n|refine z17 ?_|((fail_if_success (apply ds_known;exact rfl));apply ds_guardP;exact rfl;exact rfl;exact rfl;all_goals intro hg))
     all_goals try (exfalso;omega)
     refine⟨(i + 1,G.set i true,true),⟨hi,f2.set hi (by rw [← hids];exact hok2.2),fun h=>(by cases h),fun _=>?_⟩,ent_ren id ⟨rfl,rfl,?_,rfl,rfl,trivial⟩ ⟨by rw [List.map_set];rfl,trivial⟩ rfl rfl rfl rfl rfl rfl,by show has.length - (i + 1) < has.length - i;omega⟩
     ·dsimp only
      cases cg with
      | false=>obtain⟨h1,_⟩:=f3 rfl;subst h1;omega
      | true=>have:=f4 rfl;omega
     ·exact congrArg (fun z:Int=>SV.d (.int .i64 z)) (by dsimp only;omega)
   | false =>
    have hall:(!G[i] && ids.all (markOf has G))=false:=by
     cases hb:(!G[i] && ids.all (markOf has G)) with
     | false=>rfl
     | true =>
      rw [Bool.and_eq_true] at hb
      have:=List.all_eq_true.1 hb.2
      rw [hb.1,Bool.true_and] at hok
      have h9:(ids.take k).all (markOf has G)=true:=List.all_eq_true.2 fun x hx=>this x (List.mem_of_mem_take hx)
      rw [h9] at hok
      cases hok
    repeat' (first|refine z0 ?_|refine z12 ?_|apply ds_nil|apply dw_seq2|refine z16 ?_|apply dw_skip|apply dw_exit|refine z19 ?_|apply thenD_n|apply thenD_e|apply inB_n|refine z17 ?_|((fail_if_success (apply ds_known;exact rfl));apply ds_guardP;exact rfl;exact rfl;exact rfl;all_goals intro hg))
    all_goals try (exfalso;omega)
    all_goals exact⟨(i + 1,G,cg),stay hall,ent_ren id ⟨rfl,rfl,rfl,rfl,rfl,trivial⟩ ⟨rfl,trivial⟩ rfl rfl rfl rfl rfl rfl,by show has.length - (i + 1) < has.length - i;omega⟩
  ·repeat' (first|refine z0 ?_|apply ds_nil|apply dw_seq2|refine z16 ?_|apply dw_block|apply dw_skip|apply dw_exit|apply thenD_n|apply thenD_e|apply inB_n|refine z17 ?_|(refine z23 ?_ ?_ <;> intro hg)|fail)
   all_goals try (exfalso;omega)
   refine⟨(G,cg),⟨f2,fun h=>?_⟩,ent_ren id ⟨rfl,rfl,rfl,rfl,trivial⟩ ⟨rfl,trivial⟩ rfl rfl rfl rfl rfl rfl,?_⟩
   ·obtain⟨h1,h2⟩:=f3 h
    dsimp only at h1 ⊢
    subst h1
    exact fun j hj hf=>h2 j hj (by omega) hf
   ·dsimp only
    cases cg with
    | false=>obtain⟨h1,_⟩:=f3 rfl;subst h1;dsimp only;omega
    | true=>have:=f4 rfl;dsimp only;omega
theorem markOf_set {has:List Upd} {F:List Bool} {n:Nat} {j:UId} (h:markOf has F j=true):markOf has (F.set n true) j=true:=by
 unfold markOf at h ⊢
 split at h
 ·rename_i p hp
  by_cases he:n=p
  ·subst he
   rw [List.getD,List.getElem?_set_self']
   rw [List.getD] at h
   cases hx:F[n]? with
   | none=>rw [hx] at h;cases h
   | some b=>rfl
  ·rw [List.getD,List.getElem?_set_ne he]
   rw [List.getD] at h
   exact h
 ·cases h
theorem markOf_new {has:List Upd} (hs:StrU has) {F:List Bool} (hl:F.length=has.length) {n:Nat} (hn:n < has.length):markOf has (F.set n true) (has[n]'hn).id=true:=by
 rw [markOf_at hs _ hn,List.getD,List.getElem?_set_self (by omega)]
 rfl
structure BehOk (has:List Upd) (ids bs:List UId) (F:List Bool):Prop where
 len:F.length=has.length
 sound:∀ (i:Nat) (hi:i < has.length),F.getD i false=true→Reach has ids (has[i]'hi).id
 base:∀ j∈bs,hasU has j=true→markOf has F j=true
theorem BehOk.set {has:List Upd} {ids bs:List UId} {F:List Bool} (h:BehOk has ids bs F) {n:Nat} (hn:n < has.length) (hr:Reach has ids (has[n]'hn).id):BehOk has ids bs (F.set n true):=by
 refine⟨by rw [List.length_set];exact h.len,fun i hi hm=>?_,fun j hj hh=>markOf_set (h.base j hj hh)⟩
 by_cases he:n=i
 ·subst he;exact hr
 ·rw [List.getD,List.getElem?_set_ne he] at hm
  exact h.sound i hi hm
def BehCl (has:List Upd) (F:List Bool) (i:Nat):Prop:=∀ (hi:i < has.length),F.getD i false=true→∀ j∈underU (has[i]'hi),hasU has j=true→markOf has F j=true
theorem BehOk.iff {has:List Upd} (hs:StrU has) {ids:List UId} {F:List Bool} (h:BehOk has ids ids F) (hc:∀ i,BehCl has F i) {i:Nat} (hi:i < has.length):F.getD i false=true↔Reach has ids (has[i]'hi).id:=by
 refine⟨h.sound i hi,fun hr=>?_⟩
 have key:∀ {j:UId},Reach has ids j→markOf has F j=true:=by
  intro j hr
  induction hr with
  | base k hk hh=>exact h.base k hk hh
  | step u hu _ k hk hh ih =>
   obtain⟨p,hp,rfl⟩:=List.mem_iff_getElem.1 hu
   rw [markOf_at hs F hp] at ih
   exact hc p hp ih k hk hh
 rw [← markOf_at hs F hi]
 exact key hr
theorem BehOk.is {has:List Upd} (hs:StrU has) {ids:List UId} {F:List Bool} (h:BehOk has ids ids F) (hc:∀ i,BehCl has F i):F=has.map fun u=>metB (behM has ids) u.id:=by
 refine List.ext_getElem (by rw [List.length_map];exact h.len) fun i h1 h2=>?_
 rw [List.getElem_map]
 have hi:i < has.length:=by rw [← h.len];exact h1
 have e:F.getD i false=F[i]:=by rw [List.getD,List.getElem?_eq_getElem h1];rfl
 rw [← e,Bool.eq_iff_iff,h.iff hs hc hi,behM_iff hs]
theorem BehOk.more {has:List Upd} {ids bs:List UId} {F:List Bool} (h:BehOk has ids bs F) {i:UId} (hi:hasU has i=true→markOf has F i=true):BehOk has ids (bs++[i]) F :=
 ⟨h.len,h.sound,fun j hj hh=>by
  rcases List.mem_append.1 hj with hj|hj
  ·exact h.base j hj hh
  ·rw [List.mem_singleton] at hj;subst hj;exact hi hh⟩
theorem hasU_at {l:List Upd} {i:UId} (h:hasU l i=true):∃ (n:Nat) (hn:n < l.length),idxF (fun u:Upd=>u.id.same i) l=n∧(l[n]'hn).id=i:=by
 rcases idxF_or (fun u:Upd=>u.id.same i) l with ⟨_,h2⟩|⟨n,hn,h1,h2⟩
 ·obtain⟨u,hu,he⟩:=hasU_iff.1 h
  have:=h2 u hu
  rw [← Bool.not_eq_true,same_iff] at this
  exact absurd he this
 ·exact⟨n,hn,h1,same_iff.1 h2⟩
set_option maxHeartbeats 8000000 in
theorem behindOf_fn (has:List Upd) (ids:List UId) (hl:has.length≤100000) (hs:StrU has) (hk:∀ u∈has,u.parents.length + u.takes.length≤1000000):Fn 121 [.d (.slice 5 (has.map encUpd)),.d (.slice 2 (ids.map encId))] (fun r=>r = .d (.slice 1 ((has.map fun u=>metB (behM has ids) u.id).map encBl))):=by
 refine fnp_enter' _ Try.func121 rfl rfl (by kernel_rfl) ?_
 intro O w0 E0 β0
 have ll:(has.map encUpd).length=has.length:=List.length_map _
 have li:(ids.map encId).length=ids.length:=List.length_map _
 refine dw_len_map (t:=1) rfl fun hib=>?_
 repeat' (first|refine z0 ?_|apply ds_nil|apply dw_seq2|refine z16 ?_|apply thenD_n)
 refine ds_mk ((List.replicate has.length false).map encBl) rfl rfl (by rw [ll]) rfl rfl rfl rfl rfl rfl (by show 1 * _≤_;omega) (by unfold maxLen;omega) (by rw [List.map_replicate];rfl) rfl rfl ?_
 repeat' (first|refine z0 ?_|apply ds_nil|apply dw_seq2|refine z16 ?_|apply dw_block|apply thenD_n)
 refine ds_loop (ι:=Nat × List Bool) (fun x=>⟨1,[(0,.d (.slice 5 (has.map encUpd))),(1,.d (.slice 2 (ids.map encId))),(5,.row 0),(6,.d (.int .i64 x.1))],[(0,.row 4 1 (x.2.map encBl))]⟩)
  (fun x=>x.1≤ids.length∧BehOk has ids (ids.take x.1) x.2) (fun x=>ids.length - x.1) (0,List.replicate has.length false)
  ⟨Nat.zero_le _,List.length_replicate,fun i hi h=>(by rw [List.getD,List.getElem?_replicate] at h;split at h <;> cases h),fun j hj=>by simp at hj⟩ (ent_ren id ⟨rfl,rfl,rfl,rfl,trivial⟩ ⟨rfl,trivial⟩ rfl rfl rfl rfl rfl rfl) ?_
 rintro⟨i,F⟩ ⟨g1,g2⟩
 dsimp only at g1 g2 ⊢
 have lf:(F.map encBl).length=F.length:=List.length_map _
 have hFl:=g2.len
 by_cases hi:i < ids.length
 ·have w1:=placeOf_fn has ids[i] (by omega)
  cases hb:hasU has ids[i] with
  | true =>
   obtain⟨n,hn,h1,h2⟩:=hasU_at hb
   rw [h1] at w1
   have hnF:n < F.length:=by omega
   repeat' (first|refine z0 ?_|apply ds_nil|(apply ds_stP;exact rfl;exact rfl;(apply hv_get;(omega));exact rfl;exact rfl;(exact hv_set rfl);exact rfl;exact rfl;exact rfl;exact rfl;exact rfl;exact rfl)|apply dw_seq2|refine z16 ?_|apply dw_block|apply dw_skip|apply dw_exit|refine z18 ?_|apply thenD_n|apply thenD_e|apply inB_n|refine z17 ?_|refine z21 ?_ (hc:=by apply w1)|(refine z23 ?_ ?_ <;> intro hg)|fail)
   all_goals try (exfalso;omega)
   refine⟨(i + 1,F.set n true),⟨hi,?_⟩,ent_ren id ⟨rfl,rfl,rfl,rfl,trivial⟩ ⟨by rw [List.map_set];rfl,trivial⟩ rfl rfl rfl rfl rfl rfl,by show ids.length - (i + 1) < ids.length - i;omega⟩
   dsimp only
   rw [List.take_succ_eq_append_getElem hi]
   exact (g2.set hn (by rw [h2];exact .base _ (List.getElem_mem hi) hb)).more fun _=>by rw [← h2];exact markOf_new hs g2.len hn
  | false =>
   have hd:=hasU_idx has ids[i]
   rw [hb] at hd
   have hd:=of_decide_eq_true hd
   repeat' (first|refine z0 ?_|apply ds_nil|(apply ds_stP;exact rfl;exact rfl;(apply hv_get;(omega));exact rfl;exact rfl;(exact hv_set rfl);exact rfl;exact rfl;exact rfl;exact rfl;exact rfl;exact rfl)|apply dw_seq2|refine z16 ?_|apply dw_block|apply dw_skip|apply dw_exit|apply thenD_n|apply thenD_e|apply inB_n|refine z17 ?_|refine z21 ?_ (hc:=by apply w1)|(refine z23 ?_ ?_ <;> intro hg)|fail)
   all_goals try (exfalso;omega)
   refine⟨(i + 1,F),⟨hi,?_⟩,ent_ren id ⟨rfl,rfl,rfl,rfl,trivial⟩ ⟨rfl,trivial⟩ rfl rfl rfl rfl rfl rfl,by show ids.length - (i + 1) < ids.length - i;omega⟩
   dsimp only
   rw [List.take_succ_eq_append_getElem hi]
   exact g2.more fun h=>by rw [hb] at h;cases h
 ·rw [List.take_of_length_le (by omega)] at g2
  clear lf hFl
  repeat' (first|refine z0 ?_|apply ds_nil|apply dw_seq2|refine z16 ?_|apply dw_block|apply dw_skip|apply dw_exit|apply thenD_n|apply thenD_e|refine z17 ?_|(refine z23 ?_ ?_ <;> intro hg)|fail)
  all_goals try (exfalso;omega)
  clear hi g1 li hib
  refine ds_loop (ι:=List Bool × Bool) (fun x=>⟨1,[(0,.d (.slice 5 (has.map encUpd))),(5,.row 0),(8,.d (.bool x.2))],[(0,.row 4 1 (x.1.map encBl))]⟩)
   (fun x=>BehOk has ids ids x.1∧(x.2=false→∀ i,BehCl has x.1 i)) (fun x=>2 * leftF x.1 + (match x.2 with|true=>1|false=>0)) (F,true)
   ⟨g2,fun h=>by cases h⟩ (ent_ren id ⟨rfl,rfl,rfl,trivial⟩ ⟨rfl,trivial⟩ rfl rfl rfl rfl rfl rfl) ?_
  clear g2
  rintro⟨F,ch⟩ ⟨g1,g2⟩
  dsimp only at g1 g2 ⊢
  cases ch with
  | false =>
   repeat' (first|refine z0 ?_|apply ds_nil|apply dw_seq2|refine z16 ?_|apply dw_exit|refine z19 ?_|apply thenD_n|apply thenD_e|refine z17 ?_|fail)
   refine dw_ent (ent_seal 4 rfl rfl rfl) ?_
   repeat' (apply dw_ret)
   exact⟨.inl rfl,_,rfl,rfl,by rw [← g1.is hs (g2 rfl)];rfl⟩
  | true =>
   clear g2
   repeat' (first|refine z0 ?_|apply ds_nil|apply dw_seq2|refine z16 ?_|apply dw_block|apply dw_skip|refine z18 ?_|apply thenD_n)
   refine ds_loop (ι:=Nat × List Bool × Bool) (fun x=>⟨1,[(0,.d (.slice 5 (has.map encUpd))),(5,.row 0),(8,.d (.bool x.2.2)),(9,.d (.int .i64 ((x.1:Int) - 1)))],[(0,.row 4 1 (x.2.1.map encBl))]⟩)
    (fun x=>x.1≤has.length∧BehOk has ids ids x.2.1∧(x.2.2=false→x.2.1=F∧∀ j,x.1≤j→BehCl has F j)∧(x.2.2=true→leftF x.2.1 < leftF F)) (fun x=>x.1) (has.length,F,false)
    ⟨Nat.le_refl _,g1,fun _=>⟨rfl,fun j h1 h2=>absurd h2 (by dsimp only at h1;omega)⟩,fun h=>by cases h⟩ (ent_ren id ⟨rfl,rfl,rfl,by rw [← ll];rfl,trivial⟩ ⟨rfl,trivial⟩ rfl rfl rfl rfl rfl rfl) ?_
   rintro⟨i,G,cg⟩ ⟨f1,f2,f3,f4⟩
   dsimp only at f1 f2 f3 f4 ⊢
   have lg:(G.map encBl).length=G.length:=List.length_map _
   have lgh:=f2.len
   cases i with
   | zero =>
    repeat' (first|refine z0 ?_|apply ds_nil|apply dw_seq2|refine z16 ?_|apply dw_exit|refine z19 ?_|apply thenD_n|apply thenD_e|apply inB_n|refine z17 ?_|fail)
    all_goals try (exfalso;omega)
    refine⟨(G,cg),⟨f2,fun h=>?_⟩,ent_ren id ⟨rfl,rfl,rfl,trivial⟩ ⟨rfl,trivial⟩ rfl rfl rfl rfl rfl rfl,?_⟩
    ·obtain⟨h1,h2⟩:=f3 h
     dsimp only at h1 ⊢
     subst h1
     exact fun j=>h2 j (Nat.zero_le _)
    ·cases cg with
     | true =>
      have:=f4 rfl
      dsimp only
      omega
     | false =>
      obtain⟨h1,_⟩:=f3 rfl
      subst h1
      dsimp only
      omega
   | succ i =>
    have hi:i < has.length:=by omega
    have hiG:i < G.length:=by omega
    have hgd:G.getD i false=G[i]:=by rw [List.getD,List.getElem?_eq_getElem hiG];rfl
    have w1:=underOf_fn has[i] (hk _ (List.getElem_mem hi))
    have hul:(underU has[i]).length≤1000000:=by unfold underU;rw [List.length_append];exact hk _ (List.getElem_mem hi)
    obtain⟨us,hus⟩:∃ us,us=underU has[i]:=⟨_,rfl⟩
    rw [← hus] at w1 hul
    have lu:(us.map encId).length=us.length:=List.length_map _
    repeat' (first|refine z0 ?_|apply ds_nil|apply dw_seq2|refine z16 ?_|apply dw_block|apply dw_skip|apply dw_exit|apply thenD_n|apply thenD_e|apply inB_n|refine z17 ?_|refine z21 ?_ (hc:=by apply w1)|(refine z23 ?_ ?_ <;> intro hg)|fail)
    all_goals try (exfalso;omega)
    refine ds_loop (ι:=Nat × List Bool × Bool) (fun x=>⟨1,[(0,.d (.slice 5 (has.map encUpd))),(5,.row 0),(8,.d (.bool x.2.2)),(9,.d (.int .i64 i)),(10,.d (.slice 2 (us.map encId))),(11,.d (.int .i64 x.1))],[(0,.row 4 1 (x.2.1.map encBl))]⟩)
     (fun x=>x.1≤us.length∧BehOk has ids ids x.2.1∧x.2.1.getD i false=G[i]∧(x.2.2=false→cg=false∧x.2.1=F∧(G[i]=true→∀ j∈us.take x.1,hasU has j=true→markOf has F j=true))∧(x.2.2=true→leftF x.2.1 < leftF F)) (fun x=>us.length - x.1) (0,G,cg)
     ⟨Nat.zero_le _,f2,hgd,fun h=>⟨h,(f3 h).1,fun _ j hj=>by simp at hj⟩,f4⟩ (ent_ren id ⟨rfl,rfl,rfl,congrArg (fun z:Int=>SV.d (.int .i64 z)) (by omega),rfl,rfl,trivial⟩ ⟨rfl,trivial⟩ rfl rfl rfl rfl rfl rfl) ?_
    clear w1
    rintro⟨k,G2,c2⟩ ⟨e1,e2,e3,e4,e5⟩
    dsimp only at e1 e2 e3 e4 e5 ⊢
    have lg2:(G2.map encBl).length=G2.length:=List.length_map _
    have lgh2:=e2.len
    have hiG2:i < G2.length:=by omega
    have hgd2:G2[i]=G[i]:=by rw [← e3,List.getD,List.getElem?_eq_getElem hiG2];rfl
    by_cases hk2:k < us.length∧G[i]=true
    ·obtain⟨hk2,hgi⟩:=hk2
     rw [hgi] at hgd2
     have w2:=placeOf_fn has us[k] (by omega)
     have hmem:us[k]∈underU has[i]:=by rw [← hus];exact List.getElem_mem hk2
     cases hb:hasU has us[k] with
     | false =>
      have hd:=hasU_idx has us[k]
      rw [hb] at hd
      have hd:=of_decide_eq_true hd
      repeat' (first|refine z0 ?_|refine z12 ?_|apply ds_nil|(apply ds_stP;exact rfl;exact rfl;(apply hv_get;(omega));exact rfl;exact rfl;(exact hv_set rfl);exact rfl;exact rfl;exact rfl;exact rfl;exact rfl;exact rfl)|apply dw_seq2|refine z16 ?_|apply dw_block|apply dw_skip|apply dw_exit|refine z19 ?_|apply thenD_n|apply thenD_e|apply inB_n|refine z17 ?_|refine z21 ?_ (hc:=by apply w2)|(apply dw_cond;exact rfl;all_goals intro hg)|((fail_if_success (apply ds_known;exact rfl));apply ds_guardP;exact rfl;exact rfl;exact rfl;all_goals intro hg))
      all_goals try (exfalso;first|omega|(rw [hgd2] at hg;cases hg;done))
      refine⟨(k + 1,G2,c2),⟨hk2,e2,e3,fun h=>?_,e5⟩,ent_ren id ⟨rfl,rfl,rfl,rfl,rfl,rfl,trivial⟩ ⟨rfl,trivial⟩ rfl rfl rfl rfl rfl rfl,by show us.length - (k + 1) < us.length - k;omega⟩
      obtain⟨h1,h2,h3⟩:=e4 h
      refine⟨h1,h2,fun hg j hj hh=>?_⟩
      dsimp only at hj
      rw [List.take_succ_eq_append_getElem hk2] at hj
      rcases List.mem_append.1 hj with hj|hj
      ·exact h3 hg j hj hh
      ·rw [List.mem_singleton] at hj;rw [hj,hb] at hh;cases hh
     | true =>
      obtain⟨n,hn,h1,h2⟩:=hasU_at hb
      rw [h1] at w2
      have hnG:n < G2.length:=by omega
      have hgn:G2.getD n false=G2[n]:=by rw [List.getD,List.getElem?_eq_getElem hnG];rfl
      have hmk:markOf has G2 us[k]=G2[n]:=by rw [← h2,markOf_at hs G2 hn,hgn]
      cases hbn:G2[n] with
      | true =>
       rw [hbn] at hmk
       repeat' (first|refine z0 ?_|refine z12 ?_|apply ds_nil|(apply ds_stP;exact rfl;exact rfl;(apply hv_get;(omega));exact rfl;exact rfl;(exact hv_set rfl);exact rfl;exact rfl;exact rfl;exact rfl;exact rfl;exact rfl)|apply dw_seq2|refine z16 ?_|apply dw_block|apply dw_skip|apply dw_exit|refine z19 ?_|apply thenD_n|apply thenD_e|apply inB_n|refine z17 ?_|refine z21 ?_ (hc:=by apply w2)|(apply dw_cond;exact rfl;all_goals intro hg)|((fail_if_success (apply ds_known;exact rfl));apply ds_guardP;exact rfl;exact rfl;exact rfl;all_goals intro hg))
       all_goals try (exfalso;first|omega|(rw [hgd2] at hg;cases hg;done)|(rw [hbn] at hg;cases hg;done))
       refine⟨(k + 1,G2,c2),⟨hk2,e2,e3,fun h=>?_,e5⟩,ent_ren id ⟨rfl,rfl,rfl,rfl,rfl,rfl,trivial⟩ ⟨rfl,trivial⟩ rfl rfl rfl rfl rfl rfl,by show us.length - (k + 1) < us.length - k;omega⟩
       obtain⟨q1,q2,q3⟩:=e4 h
       refine⟨q1,q2,fun hg j hj hh=>?_⟩
       dsimp only at hj q2
       rw [List.take_succ_eq_append_getElem hk2] at hj
       rcases List.mem_append.1 hj with hj|hj
       ·exact q3 hg j hj hh
       ·rw [List.mem_singleton] at hj;rw [hj,← q2];exact hmk
      | false =>
       have hls:=leftF_set hnG (hgn.trans hbn)
       have hF:leftF G2≤leftF F:=by
        cases c2 with
        | true=>exact Nat.le_of_lt (e5 rfl)
        | false=>rw [(e4 rfl).2.1];exact Nat.le_refl _
       have hne:n≠i:=fun h=>by subst h;rw [hbn] at hgd2;cases hgd2
       repeat' (first|refine z0 ?_|refine z12 ?_|apply ds_nil|(apply ds_stP;exact rfl;exact rfl;(apply hv_get;(omega));exact rfl;exact rfl;(exact hv_set rfl);exact rfl;exact rfl;exact rfl;exact rfl;exact rfl;exact rfl)|apply dw_seq2|refine z16 ?_|apply dw_block|apply dw_skip|apply dw_exit|refine z19 ?_|apply thenD_n|apply thenD_e|apply inB_n|refine z17 ?_|refine z21 ?_ (hc:=by apply w2)|(apply dw_cond;exact rfl;all_goals intro hg)|((fail_if_success (apply ds_known;exact rfl));apply ds_guardP;exact rfl;exact rfl;exact rfl;all_goals intro hg))
       all_goals try (exfalso;first|omega|(rw [hgd2] at hg;cases hg;done)|(rw [hbn] at hg;cases hg;done))
       refine⟨(k + 1,G2.set n true,true),⟨hk2,e2.set hn ?_,?_,fun h=>(by cases h),fun _=>by dsimp only;omega⟩,ent_ren id ⟨rfl,rfl,rfl,rfl,rfl,rfl,trivial⟩ ⟨by rw [List.map_set];rfl,trivial⟩ rfl rfl rfl rfl rfl rfl,by show us.length - (k + 1) < us.length - k;omega⟩
       ·rw [h2]
        exact .step has[i] (List.getElem_mem hi) (e2.sound i hi (by rw [e3];exact hgi)) _ hmem hb
       ·dsimp only
        rw [List.getD,List.getElem?_set_ne hne]
        exact e3
    ·have fin:(i≤has.length∧BehOk has ids ids G2∧(c2=false→G2=F∧∀ j,i≤j→BehCl has F j)∧(c2=true→leftF G2 < leftF F)):=by
      refine⟨by omega,e2,fun h=>?_,e5⟩
      obtain⟨q1,q2,q3⟩:=e4 h
      refine⟨q2,fun j hj=>?_⟩
      by_cases he:j=i
      ·subst he
       intro hj hm u hu hh
       have hgi:G[j]=true:=by rw [← e3,q2];exact hm
       refine q3 hgi u ?_ hh
       rw [List.take_of_length_le (Nat.le_of_not_lt fun hlt=>hk2 ⟨hlt,hgi⟩),hus]
       exact hu
      ·exact (f3 q1).2 j (by omega)
     by_cases hk3:k < us.length
     ·have hgf:G2[i]=false:=by rw [hgd2];exact Bool.eq_false_iff.2 fun h=>hk2 ⟨hk3,h⟩
      repeat' (first|refine z0 ?_|refine z12 ?_|apply ds_nil|apply dw_seq2|refine z16 ?_|apply dw_block|apply dw_skip|apply dw_exit|refine z19 ?_|apply thenD_n|apply thenD_e|apply inB_n|refine z17 ?_|(apply dw_cond;exact rfl;all_goals intro hg)|((fail_if_success (apply ds_known;exact rfl));apply ds_guardP;exact rfl;exact rfl;exact rfl;all_goals intro hg))
      all_goals try (exfalso;first|omega|(rw [hgf] at hg;cases hg;done))
      exact⟨(i,G2,c2),fin,ent_ren id ⟨rfl,rfl,rfl,rfl,trivial⟩ ⟨rfl,trivial⟩ rfl rfl rfl rfl rfl rfl,by show i < i + 1;omega⟩
     ·repeat' (first|refine z0 ?_|refine z12 ?_|apply ds_nil|apply dw_seq2|refine z16 ?_|apply dw_block|apply dw_skip|apply dw_exit|refine z19 ?_|apply thenD_n|apply thenD_e|apply inB_n|refine z17 ?_|(apply dw_cond;exact rfl;all_goals intro hg)|((fail_if_success (apply ds_known;exact rfl));apply ds_guardP;exact rfl;exact rfl;exact rfl;all_goals intro hg))
      all_goals try (exfalso;omega)
      exact⟨(i,G2,c2),fin,ent_ren id ⟨rfl,rfl,rfl,rfl,trivial⟩ ⟨rfl,trivial⟩ rfl rfl rfl rfl rfl rfl,by show i < i + 1;omega⟩
theorem rises_adj {α:Type} {o:α→α→Int}:∀ {l:List α},rises o l=true↔∀ (i:Nat) (h:i + 1 < l.length),o (l[i]'(by omega)) l[i + 1] < 0
 | []=>⟨fun _ i h=>absurd h (Nat.not_lt_zero _),fun _=>rfl⟩
 | [x]=>⟨fun _ i h=>by simp at h,fun _=>rfl⟩
 | x::y::l=>by
  unfold rises
  rw [Bool.and_eq_true,decide_eq_true_eq,rises_adj]
  constructor
  ·rintro⟨h1,h2⟩ i h
   cases i with
   | zero=>exact h1
   | succ i=>exact h2 i (by simpa using h)
  ·intro h
   exact⟨h 0 (by simp),fun i hi=>h (i + 1) (by simpa using hi)⟩
theorem pairs_iff {α:Type} {o:α→α→Int} {a b:List α}:(rises o a=true∧rises o b=true)↔∀ (i:Nat) (h:i + 1 < (a++b).length),i + 1≠a.length→o ((a++b)[i]'(by omega)) (a++b)[i + 1] < 0:=by
 rw [rises_adj,rises_adj]
 constructor
 ·rintro⟨h1,h2⟩ i h hne
  by_cases hi:i + 1 < a.length
  ·rw [List.getElem_append_left (by omega),List.getElem_append_left hi]
   exact h1 i hi
  ·rw [List.length_append] at h
   rw [List.getElem_append_right (by omega),List.getElem_append_right (by omega)]
   have:=h2 (i - a.length) (by omega)
   simp only [show i + 1 - a.length=i - a.length + 1 by omega]
   exact this
 ·intro h
  refine⟨fun i hi=>?_,fun i hi=>?_⟩
  ·have:=h i (by rw [List.length_append];omega) (by omega)
   rw [List.getElem_append_left (by omega),List.getElem_append_left hi] at this
   exact this
  ·have:=h (i + a.length) (by rw [List.length_append];omega) (by omega)
   rw [List.getElem_append_right (by omega),List.getElem_append_right (by omega)] at this
   simp only [show i + a.length + 1 - a.length=i + 1 by omega,Nat.add_sub_cancel] at this
   exact this
theorem any_step {α:Type} {f:α→Bool} {l:List α} {i:Nat} (hi:i < l.length):(l.drop i).any f=(f l[i] || (l.drop (i + 1)).any f):=by rw [List.drop_eq_getElem_cons hi,List.any_cons]
set_option maxHeartbeats 8000000 in
theorem rcheckR_fn (r:Rpl) (hh:r.has.length≤4398046511104) (hw:r.waits.length≤4398046511104):Fn 42 [elRpl r] (fun res=>res = .d (.int .i64 (checkR r))):=by
 have lh:(r.has.map encUpd).length=r.has.length:=List.length_map _
 have lw:(r.waits.map encUpd).length=r.waits.length:=List.length_map _
 refine fnp_enter' _ Try.func42 rfl rfl (by kernel_rfl) ?_
 intro O w0 E0 β0
 by_cases h1:200 < r.has.length + r.waits.length
 ·have hc:checkR r=2:=if_pos h1
  rw [hc]
  repeat' (first|refine z0 ?_|apply ds_nil|refine z5 ?_|apply dw_seq2|refine z16 ?_|refine z20 ?_|apply dw_skip|apply dw_ret|apply thenD_n|apply thenD_r|refine z1 ?_|(refine z23 ?_ ?_ <;> intro hg)|fail)
  all_goals try (exfalso;omega)
  all_goals exact ret_i rfl rfl
 ·have hc:checkR r=if firstL checkU (r.has++r.waits)≠0 then firstL checkU (r.has++r.waits)
    else if rises (fun a b:Upd=>ordId a.id b.id) r.has=false∨rises (fun a b:Upd=>ordId a.id b.id) r.waits=false∨(r.waits.any fun u=>hasU r.has u.id)=true then 4
    else if (r.has.any fun u=>!readyU r.has u)=true then 5
    else if roundB r.has=true∨(r.waits.any fun u=>readyU r.has u)=true then 4
    else 0:=if_neg h1
  rw [hc]
  clear hc
  repeat' (first|(apply dt_bs0;exact rfl;exact rfl;exact rfl;exact rfl;exact rfl;exact rfl;exact rfl;exact rfl;exact rfl;exact rfl)|(first|refine z0 ?_|apply ds_nil|refine z5 ?_|refine z9 ?_|refine z11 ?_|apply dw_seq2|refine z16 ?_|refine z20 ?_|apply dw_block|apply dw_skip|apply thenD_n|refine z1 ?_|(refine z23 ?_ ?_ <;> intro hg)|fail))
  all_goals try (exfalso;omega)
  refine dw_ent (ent_seal 3 rfl rfl rfl) ?_
  refine dw_ent (ent_ren (k':=1) (L':=[(1,.loc 0 0),(2,.d (.int .i64 0)),(3,.d (.slice 5 ((r.has++r.waits).map encUpd))),(4,.d (.int .i64 0))]) (H':=[(0,rplB r)]) id ⟨rfl,rfl,by rw [List.map_append];rfl,rfl,trivial⟩ ⟨rfl,trivial⟩ rfl rfl rfl rfl rfl rfl) ?_
  obtain⟨all,hall⟩:∃ all,all=r.has++r.waits:=⟨_,rfl⟩
  have hal:all.length=r.has.length + r.waits.length:=by rw [hall,List.length_append]
  have la:(all.map encUpd).length=all.length:=List.length_map _
  have hpair:=pairs_iff (o:=fun a b:Upd=>ordId a.id b.id) (a:=r.has) (b:=r.waits)
  rw [← hall]
  simp only [← hall] at hpair
  repeat' fail
  refine ds_loop (ι:=Nat) (fun i=>⟨1,[(1,.loc 0 0),(2,.d (.int .i64 0)),(3,.d (.slice 5 (all.map encUpd))),(4,.d (.int .i64 i))],[(0,rplB r)]⟩)
   (fun i=>i≤all.length∧firstL checkU all=firstL checkU (all.drop i)) (fun i=>all.length - i) 0 ⟨Nat.zero_le _,rfl⟩ (ent_ren id ⟨rfl,rfl,rfl,rfl,trivial⟩ ⟨rfl,trivial⟩ rfl rfl rfl rfl rfl rfl) ?_
  rintro i ⟨g1,g2⟩
  dsimp only at g1 g2 ⊢
  by_cases hi:i < all.length
  ·rw [firstL_step hi] at g2
   have w2:=checkUpdate_fn all[i]
   by_cases h3:checkU all[i]≠0
   ·rw [if_pos h3] at g2
    rw [g2,if_pos h3]
    repeat' (first|refine z0 ?_|apply ds_nil|apply dw_seq2|refine z16 ?_|apply dw_block|apply dw_skip|apply dw_exit|apply dw_ret|apply thenD_n|apply thenD_e|apply thenD_r|apply inB_n|apply inB_r|refine z17 ?_|refine z21 ?_ (hc:=by apply w2)|(refine z23 ?_ ?_ <;> intro hg)|fail)
    all_goals try (exfalso;omega)
    all_goals exact ret_i rfl rfl
   ·rw [if_neg h3] at g2
    repeat' (first|refine z0 ?_|apply ds_nil|apply dw_seq2|refine z16 ?_|apply dw_block|apply dw_skip|apply dw_exit|apply dw_ret|apply thenD_n|apply thenD_e|apply thenD_r|apply inB_n|apply inB_r|refine z17 ?_|refine z21 ?_ (hc:=by apply w2)|(refine z23 ?_ ?_ <;> intro hg)|fail)
    all_goals try (exfalso;omega)
    exact⟨i + 1,⟨hi,g2⟩,ent_ren id ⟨rfl,rfl,rfl,rfl,trivial⟩ ⟨rfl,trivial⟩ rfl rfl rfl rfl rfl rfl,by omega⟩
  ·rw [firstL_end (by omega)] at g2
   rw [g2,if_neg (by simp)]
   have hok:=firstL_none g2
   have hsm:∀ u∈all,u.parents.length + u.takes.length≤1000000:=fun u hu=>by have:=checkU_small (hok u hu);omega
   clear g1 g2
   repeat' (first|refine z0 ?_|apply ds_nil|apply dw_seq2|refine z16 ?_|apply dw_block|apply dw_skip|apply dw_exit|apply thenD_n|apply thenD_e|refine z17 ?_|(refine z23 ?_ ?_ <;> intro hg)|fail)
   all_goals try (exfalso;omega)
   clear hi
   refine ds_loop (ι:=Nat) (fun i=>⟨1,[(1,.loc 0 0),(2,.d (.int .i64 0)),(3,.d (.slice 5 (all.map encUpd))),(6,.d (.int .i64 ((i:Int) + 1)))],[(0,rplB r)]⟩)
    (fun i=>i≤all.length∧∀ (j:Nat) (h:j + 1 < all.length),j < i→j + 1≠r.has.length→ordId (all[j]'(by omega)).id all[j + 1].id < 0) (fun i=>all.length - i) 0 ⟨Nat.zero_le _,fun j _ h=>absurd h (Nat.not_lt_zero j)⟩ (ent_ren id ⟨rfl,rfl,rfl,rfl,trivial⟩ ⟨rfl,trivial⟩ rfl rfl rfl rfl rfl rfl) ?_
   rintro i ⟨g1,g2⟩
   dsimp only at g1 g2 ⊢
   by_cases hi:i + 1 < all.length
   ·have step:(i + 1≠r.has.length→ordId (all[i]'(by omega)).id all[i + 1].id < 0)→(i + 1≤all.length∧∀ (j:Nat) (h:j + 1 < all.length),j < i + 1→j + 1≠r.has.length→ordId (all[j]'(by omega)).id all[j + 1].id < 0):=fun h=>⟨by omega,fun j hj hlt hne=>by
     by_cases he:j=i
     ·subst he;exact h hne
     ·exact g2 j hj (by omega) hne⟩
    by_cases hm:i + 1=r.has.length
    ·repeat' (first|refine z0 ?_|apply ds_nil|refine z5 ?_|refine z14 ?_|refine z10 ?_|apply dw_seq2|refine z16 ?_|refine z20 ?_|apply dw_block|apply dw_skip|apply dw_exit|refine z19 ?_|apply thenD_n|apply thenD_e|apply inB_n|refine z17 ?_|(refine z23 ?_ ?_ <;> intro hg)|((fail_if_success (apply dt_known;exact rfl));apply dt_guardP;exact rfl;exact rfl;exact rfl;all_goals intro hg))
     all_goals try (exfalso;omega)
     exact⟨i + 1,step fun h=>absurd hm h,ent_ren id ⟨rfl,rfl,rfl,rfl,trivial⟩ ⟨rfl,trivial⟩ rfl rfl rfl rfl rfl rfl,by omega⟩
    ·have w2:=idOrder_fn (all[i]'(by omega)).id all[i + 1].id
     by_cases ho:ordId (all[i]'(by omega)).id all[i + 1].id < 0
     ·repeat' (first|refine z0 ?_|apply ds_nil|refine z5 ?_|refine z14 ?_|refine z10 ?_|apply dw_seq2|refine z16 ?_|refine z20 ?_|apply dw_block|apply dw_skip|apply dw_exit|refine z19 ?_|apply thenD_n|apply thenD_e|apply inB_n|refine z17 ?_|refine z22 ?_ (hc:=by apply w2)|(refine z23 ?_ ?_ <;> intro hg)|((fail_if_success (apply dt_known;exact rfl));apply dt_guardP;exact rfl;exact rfl;exact rfl;all_goals intro hg))
      all_goals try (exfalso;omega)
      exact⟨i + 1,step fun _=>ho,ent_ren id ⟨rfl,rfl,rfl,rfl,trivial⟩ ⟨rfl,trivial⟩ rfl rfl rfl rfl rfl rfl,by omega⟩
     ·have hb:¬ (rises (fun a b:Upd=>ordId a.id b.id) r.has=true∧rises (fun a b:Upd=>ordId a.id b.id) r.waits=true):=fun h=>ho (hpair.1 h i hi hm)
      rw [if_pos (by
       cases h1:rises (fun a b:Upd=>ordId a.id b.id) r.has with
       | false=>exact .inl rfl
       | true =>
        cases h2:rises (fun a b:Upd=>ordId a.id b.id) r.waits with
        | false=>exact .inr (.inl rfl)
        | true=>exact absurd ⟨h1,h2⟩ hb)]
      repeat' (first|refine z0 ?_|apply ds_nil|refine z5 ?_|refine z14 ?_|refine z10 ?_|apply dw_seq2|refine z16 ?_|refine z20 ?_|apply dw_block|apply dw_skip|apply dw_exit|apply dw_ret|refine z19 ?_|apply thenD_n|apply thenD_e|apply thenD_r|apply inB_n|apply inB_r|refine z17 ?_|refine z22 ?_ (hc:=by apply w2)|(refine z23 ?_ ?_ <;> intro hg)|((fail_if_success (apply dt_known;exact rfl));apply dt_guardP;exact rfl;exact rfl;exact rfl;all_goals intro hg))
      all_goals try (exfalso;omega)
      exact ret_i rfl rfl
   ·obtain⟨hr1,hr2⟩:=hpair.2 fun j hj hne=>g2 j hj (by omega) hne
    have hs:=rises_str hr1
    clear g2 hpair
    rw [hr1,hr2]
    repeat' (first|refine z0 ?_|apply ds_nil|refine z5 ?_|refine z14 ?_|refine z10 ?_|apply dw_seq2|refine z16 ?_|refine z20 ?_|apply dw_block|apply dw_skip|apply dw_exit|refine z19 ?_|apply thenD_n|apply thenD_e|apply inB_n|refine z17 ?_|(refine z23 ?_ ?_ <;> intro hg)|((fail_if_success (apply dt_known;exact rfl));apply dt_guardP;exact rfl;exact rfl;exact rfl;all_goals intro hg))
    all_goals try (exfalso;omega)
    clear hi g1
    refine ds_loop (ι:=Nat) (fun i=>⟨1,[(1,.loc 0 0),(2,.d (.int .i64 0)),(7,.d (.int .i64 i))],[(0,rplB r)]⟩)
     (fun i=>i≤r.waits.length∧(r.waits.any fun u=>hasU r.has u.id)=(r.waits.drop i).any fun u=>hasU r.has u.id) (fun i=>r.waits.length - i) 0 ⟨Nat.zero_le _,rfl⟩ (ent_ren id ⟨rfl,rfl,rfl,trivial⟩ ⟨rfl,trivial⟩ rfl rfl rfl rfl rfl rfl) ?_
    rintro i ⟨g1,g2⟩
    dsimp only at g1 g2 ⊢
    by_cases hi:i < r.waits.length
    ·rw [any_step hi] at g2
     have w2:=placeOf_fn r.has (r.waits[i]'hi).id (by omega)
     have hd:=hasU_idx r.has (r.waits[i]'hi).id
     cases hb:hasU r.has (r.waits[i]'hi).id with
     | true =>
      rw [hb] at g2 hd
      have hd:=of_decide_eq_false hd
      rw [if_pos (.inr (.inr (by rw [g2];rfl)))]
      repeat' (first|refine z0 ?_|apply ds_nil|refine z5 ?_|refine z10 ?_|apply dw_seq2|refine z16 ?_|refine z20 ?_|apply dw_block|apply dw_skip|apply dw_exit|apply dw_ret|apply thenD_n|apply thenD_e|apply thenD_r|apply inB_n|apply inB_r|refine z17 ?_|refine z22 ?_ (hc:=by apply w2)|(refine z23 ?_ ?_ <;> intro hg)|fail)
      all_goals try (exfalso;omega)
      exact ret_i rfl rfl
     | false =>
      rw [hb,Bool.false_or] at g2
      rw [hb] at hd
      have hd:=of_decide_eq_true hd
      repeat' (first|refine z0 ?_|apply ds_nil|refine z5 ?_|refine z10 ?_|apply dw_seq2|refine z16 ?_|refine z20 ?_|apply dw_block|apply dw_skip|apply dw_exit|apply thenD_n|apply thenD_e|apply inB_n|refine z17 ?_|refine z22 ?_ (hc:=by apply w2)|(refine z23 ?_ ?_ <;> intro hg)|fail)
      all_goals try (exfalso;omega)
      exact⟨i + 1,⟨hi,g2⟩,ent_ren id ⟨rfl,rfl,rfl,trivial⟩ ⟨rfl,trivial⟩ rfl rfl rfl rfl rfl rfl,by omega⟩
    ·rw [List.drop_of_length_le (by omega)] at g2
     rw [g2,if_neg (by simp)]
     repeat' (first|refine z0 ?_|apply ds_nil|refine z5 ?_|apply dw_seq2|refine z16 ?_|refine z20 ?_|apply dw_block|apply dw_skip|apply dw_exit|apply thenD_n|apply thenD_e|refine z17 ?_|(refine z23 ?_ ?_ <;> intro hg)|fail)
     all_goals try (exfalso;omega)
     clear hi g1 g2
     refine ds_loop (ι:=Nat) (fun i=>⟨1,[(1,.loc 0 0),(2,.d (.int .i64 0)),(8,.d (.int .i64 i))],[(0,rplB r)]⟩)
      (fun i=>i≤r.has.length∧(r.has.any fun u=>!readyU r.has u)=(r.has.drop i).any fun u=>!readyU r.has u) (fun i=>r.has.length - i) 0 ⟨Nat.zero_le _,rfl⟩ (ent_ren id ⟨rfl,rfl,rfl,trivial⟩ ⟨rfl,trivial⟩ rfl rfl rfl rfl rfl rfl) ?_
     rintro i ⟨g1,g2⟩
     dsimp only at g1 g2 ⊢
     by_cases hi:i < r.has.length
     ·rw [any_step hi] at g2
      have w2:=isReadyU_fn r.has (r.has[i]'hi) (by omega) (hsm _ (by rw [hall];exact List.mem_append_left _ (List.getElem_mem hi)))
      cases hb:readyU r.has (r.has[i]'hi) with
      | false =>
       rw [hb] at g2 w2
       rw [if_pos (by rw [g2];rfl)]
       repeat' (first|refine z0 ?_|apply ds_nil|refine z5 ?_|refine z10 ?_|apply dw_seq2|refine z16 ?_|refine z20 ?_|apply dw_block|apply dw_skip|apply dw_exit|apply dw_ret|refine z18 ?_|apply thenD_n|apply thenD_e|apply thenD_r|apply inB_r|refine z17 ?_|refine z22 ?_ (hc:=by apply w2)|(refine z23 ?_ ?_ <;> intro hg)|fail)
       all_goals try (exfalso;omega)
       exact ret_i rfl rfl
      | true =>
       rw [hb,Bool.not_true,Bool.false_or] at g2
       rw [hb] at w2
       repeat' (first|refine z0 ?_|apply ds_nil|refine z5 ?_|refine z10 ?_|apply dw_seq2|refine z16 ?_|refine z20 ?_|apply dw_block|apply dw_skip|apply dw_exit|refine z19 ?_|apply thenD_n|apply thenD_e|apply inB_n|refine z17 ?_|refine z22 ?_ (hc:=by apply w2)|(refine z23 ?_ ?_ <;> intro hg)|fail)
       all_goals try (exfalso;omega)
       exact⟨i + 1,⟨hi,g2⟩,ent_ren id ⟨rfl,rfl,rfl,trivial⟩ ⟨rfl,trivial⟩ rfl rfl rfl rfl rfl rfl,by omega⟩
     ·rw [List.drop_of_length_le (by omega)] at g2
      rw [g2,if_neg (by simp)]
      have hready:∀ u∈r.has,readyU r.has u=true:=fun u hu=>by
       have:=List.any_eq_false.1 g2 u hu
       simpa using this
      clear g1 g2
      have w5:=isRound_fn r.has (by omega) hs (fun u hu=>hsm u (by rw [hall];exact List.mem_append_left _ hu))
      have hrb:=roundB_iff hs hready
      have w5:Fn 120 [.d (.slice 5 (r.has.map encUpd))] (fun x=>x = .d (.bool (roundB r.has))):=FnP.imp w5 (by
       rintro x ⟨b,rfl,hb⟩
       rw [Bool.eq_iff_iff.2 (hb.trans hrb.symm)])
      cases hr5:roundB r.has with
      | true =>
       rw [hr5] at w5
       rw [if_pos (.inl rfl)]
       repeat' (first|refine z0 ?_|apply ds_nil|refine z5 ?_|apply dw_seq2|refine z16 ?_|refine z20 ?_|apply dw_block|apply dw_skip|apply dw_exit|apply dw_ret|refine z18 ?_|apply thenD_n|apply thenD_e|apply thenD_r|refine z17 ?_|refine z21 ?_ (hc:=by apply w5)|(refine z23 ?_ ?_ <;> intro hg)|fail)
       all_goals try (exfalso;omega)
       exact ret_i rfl rfl
      | false =>
       rw [hr5] at w5
       repeat' (first|refine z0 ?_|apply ds_nil|refine z5 ?_|apply dw_seq2|refine z16 ?_|refine z20 ?_|apply dw_block|apply dw_skip|apply dw_exit|refine z19 ?_|apply thenD_n|apply thenD_e|refine z17 ?_|refine z21 ?_ (hc:=by apply w5)|(refine z23 ?_ ?_ <;> intro hg)|fail)
       all_goals try (exfalso;omega)
       refine ds_loop (ι:=Nat) (fun i=>⟨1,[(1,.loc 0 0),(2,.d (.int .i64 0)),(9,.d (.int .i64 i))],[(0,rplB r)]⟩)
        (fun i=>i≤r.waits.length∧(r.waits.any fun u=>readyU r.has u)=(r.waits.drop i).any fun u=>readyU r.has u) (fun i=>r.waits.length - i) 0 ⟨Nat.zero_le _,rfl⟩ (ent_ren id ⟨rfl,rfl,rfl,trivial⟩ ⟨rfl,trivial⟩ rfl rfl rfl rfl rfl rfl) ?_
       rintro i ⟨g1,g2⟩
       dsimp only at g1 g2 ⊢
       by_cases hi:i < r.waits.length
       ·rw [any_step hi] at g2
        have w2:=isReadyU_fn r.has (r.waits[i]'hi) (by omega) (hsm _ (by rw [hall];exact List.mem_append_right _ (List.getElem_mem hi)))
        cases hb:readyU r.has (r.waits[i]'hi) with
        | true =>
         rw [hb] at g2 w2
         rw [if_pos (.inr (by rw [g2];rfl))]
         repeat' (first|refine z0 ?_|apply ds_nil|refine z5 ?_|refine z10 ?_|apply dw_seq2|refine z16 ?_|refine z20 ?_|apply dw_block|apply dw_skip|apply dw_exit|apply dw_ret|refine z18 ?_|apply thenD_n|apply thenD_e|apply thenD_r|apply inB_r|refine z17 ?_|refine z22 ?_ (hc:=by apply w2)|(refine z23 ?_ ?_ <;> intro hg)|fail)
         all_goals try (exfalso;omega)
         exact ret_i rfl rfl
        | false =>
         rw [hb,Bool.false_or] at g2
         rw [hb] at w2
         repeat' (first|refine z0 ?_|apply ds_nil|refine z5 ?_|refine z10 ?_|apply dw_seq2|refine z16 ?_|refine z20 ?_|apply dw_block|apply dw_skip|apply dw_exit|refine z19 ?_|apply thenD_n|apply thenD_e|apply inB_n|refine z17 ?_|refine z22 ?_ (hc:=by apply w2)|(refine z23 ?_ ?_ <;> intro hg)|fail)
         all_goals try (exfalso;omega)
         exact⟨i + 1,⟨hi,g2⟩,ent_ren id ⟨rfl,rfl,rfl,trivial⟩ ⟨rfl,trivial⟩ rfl rfl rfl rfl rfl rfl,by omega⟩
       ·rw [List.drop_of_length_le (by omega)] at g2
        rw [g2,if_neg (by simp)]
        repeat' (first|refine z0 ?_|apply ds_nil|refine z5 ?_|apply dw_seq2|refine z16 ?_|refine z20 ?_|apply dw_block|apply dw_skip|apply dw_exit|apply dw_ret|apply thenD_n|apply thenD_e|refine z17 ?_|(refine z23 ?_ ?_ <;> intro hg)|fail)
        all_goals try (exfalso;omega)
        exact ret_i rfl rfl
theorem eraseIdx_at {α:Type} (a b:List α) (x:α):(a++x::b).eraseIdx a.length=a++b:=by
 rw [List.eraseIdx_append_of_length_le (Nat.le_refl _),Nat.sub_self,List.eraseIdx_cons_zero]
theorem RplGo.moveAt {A:List Upd} {h a b:List Upd} {x:Upd} (hg:RplGo A ⟨h,a++x::b⟩) (hr:readyU h x=true):RplGo A ⟨insU h x,a++b⟩:=by
 have hm:=hg.move (u:=x) (by simp) hr
 have hi:a.length < (a++x::b).length:=by rw [List.length_append,List.length_cons];omega
 have he:(a++x::b)[a.length]=x:=by rw [List.getElem_append_right (Nat.le_refl _)];simp
 have:=erase_filter hg.sw hi
 dsimp only at hm this
 rw [he] at this
 rw [← this,eraseIdx_at] at hm
 exact hm
def AddOfIs (r:Rpl) (u:Upd) (res:SV):Prop :=
 (hasU r.both u.id=true∧res = .tup [elRpl r,.d (.bool true)]) ∨
 (hasU r.both u.id=false∧200≤r.both.length∧res = .tup [elRpl ⟨[],[]⟩,.d (.bool false)]) ∨
 (hasU r.both u.id=false∧r.both.length < 200∧∃ o,RplOk (u::r.both) o∧res = .tup [elRpl o,.d (.bool true)])
set_option maxHeartbeats 8000000 in
theorem addOf_fn (r:Rpl) (u:Upd) (hok:RplOk r.both r) (h1:r.has.length≤100000) (h2:r.waits.length≤100000) (hs:∀ v,v=u∨v∈r.has∨v∈r.waits→v.parents.length + v.takes.length≤1000000):Fn 122 [elRpl r,elUpd u] (AddOfIs r u):=by
 refine fnp_enter' _ Try.func122 rfl rfl (by kernel_rfl) ?_
 intro O w0 E0 β0
 have lh:(r.has.map encUpd).length=r.has.length:=List.length_map _
 have lw:(r.waits.map encUpd).length=r.waits.length:=List.length_map _
 have hty:=hasU_app r.has r.waits u.id
 have w1:=placeOf_fn r.has u.id (by omega)
 have w2:=placeOf_fn r.waits u.id (by omega)
 have d1:=hasU_idx r.has u.id
 have d2:=hasU_idx r.waits u.id
 have hbl:r.both.length=r.has.length + r.waits.length:=List.length_append
 cases hb1:hasU r.has u.id with
 | true =>
  rw [hb1] at d1 hty
  have d1:=of_decide_eq_false d1
  repeat' (first|refine z0 ?_|refine z12 ?_|apply ds_nil|refine z5 ?_|apply dw_seq2|refine z16 ?_|refine z20 ?_|apply dw_skip|refine z18 ?_|apply thenD_n|refine z21 ?_ (hc:=by apply w1)|refine z21 ?_ (hc:=by apply w2)|refine z1 ?_|refine z3 ?_|(refine z23 ?_ ?_ <;> intro hg)|((fail_if_success (apply ds_known;exact rfl));apply ds_guardP;exact rfl;exact rfl;exact rfl;all_goals intro hg))
  all_goals try (exfalso;omega)
  repeat' (first|apply dw_ret|apply thenD_r)
  exact⟨.inl rfl,_,rfl,rfl,.inl ⟨by rw [hty];rfl,rfl⟩⟩
 | false =>
  rw [hb1] at d1 hty
  have d1:=of_decide_eq_true d1
  cases hb2:hasU r.waits u.id with
  | true =>
   rw [hb2] at d2 hty
   have d2:=of_decide_eq_false d2
   repeat' (first|refine z0 ?_|refine z12 ?_|apply ds_nil|refine z5 ?_|apply dw_seq2|refine z16 ?_|refine z20 ?_|apply dw_skip|refine z18 ?_|apply thenD_n|refine z21 ?_ (hc:=by apply w1)|refine z21 ?_ (hc:=by apply w2)|refine z1 ?_|refine z3 ?_|(refine z23 ?_ ?_ <;> intro hg)|((fail_if_success (apply ds_known;exact rfl));apply ds_guardP;exact rfl;exact rfl;exact rfl;all_goals intro hg))
   all_goals try (exfalso;omega)
   repeat' (first|apply dw_ret|apply thenD_r)
   exact⟨.inl rfl,_,rfl,rfl,.inl ⟨by rw [hty];rfl,rfl⟩⟩
  | false =>
   rw [hb2] at d2 hty
   have d2:=of_decide_eq_true d2
   by_cases hf:200≤r.has.length + r.waits.length
   ·repeat' (first|refine z0 ?_|refine z12 ?_|apply ds_nil|refine z5 ?_|apply dw_seq2|refine z16 ?_|refine z20 ?_|apply dw_skip|refine z18 ?_|apply thenD_n|refine z21 ?_ (hc:=by apply w1)|refine z21 ?_ (hc:=by apply w2)|refine z1 ?_|refine z3 ?_|(refine z23 ?_ ?_ <;> intro hg)|((fail_if_success (apply ds_known;exact rfl));apply ds_guardP;exact rfl;exact rfl;exact rfl;all_goals intro hg))
    all_goals try (exfalso;omega)
    refine dw_ent (ent_cellnil 2 0 5 rfl rfl rfl) ?_
    refine dw_ent (ent_cellnil 2 1 5 rfl rfl rfl) ?_
    repeat' (first|apply dw_ret|apply thenD_r)
    exact⟨.inl rfl,_,rfl,rfl,.inr (.inl ⟨by rw [hty];rfl,by omega,rfl⟩)⟩
   ·have w3:=inOrder_fn r.waits u (by omega)
    repeat' (first|refine z0 ?_|refine z12 ?_|apply ds_nil|refine z5 ?_|refine z6 ?_|refine z7 ?_|refine z11 ?_|apply dw_seq2|refine z16 ?_|refine z20 ?_|apply dw_block|apply dw_skip|refine z18 ?_|apply thenD_n|refine z21 ?_ (hc:=by apply w1)|refine z21 ?_ (hc:=by apply w2)|refine z22 ?_ (hc:=by apply w3)|refine z1 ?_|refine z3 ?_|(refine z23 ?_ ?_ <;> intro hg)|((fail_if_success (apply ds_known;exact rfl));apply ds_guardP;exact rfl;exact rfl;exact rfl;all_goals intro hg))
    all_goals try (exfalso;omega)
    have w3:=True.intro
    clear w1 w2 d1 d2 w3
    refine ds_loop (ι:=Rpl × Bool) (fun x=>⟨2,[(4,.loc 0 0),(6,.loc 1 0),(7,.d (.bool x.2))],[(0,.blk 73 [.nils,.nils]),(1,.blk 73 [.d (.slice 5 (x.1.has.map encUpd)),.d (.slice 5 (x.1.waits.map encUpd))])]⟩)
     (fun x=>RplGo (u::r.both) x.1∧x.1.has.length + x.1.waits.length=r.has.length + r.waits.length + 1∧(x.2=false→∀ v∈x.1.waits,readyU x.1.has v=false)) (fun x=>2 * x.1.waits.length + (match x.2 with|true=>1|false=>0)) (⟨r.has,insU r.waits u⟩,true)
     ⟨hok.more hb1 hb2,by dsimp only;rw [insU_len];omega,fun h=>by cases h⟩ (ent_ren (fun j=>match j with|0=>2|1=>10|j=>j) ⟨rfl,rfl,rfl,trivial⟩ ⟨rfl,rfl,trivial⟩ rfl rfl rfl rfl rfl rfl) ?_
    rintro⟨⟨H,W⟩,ch⟩ ⟨g1,g2,g3⟩
    dsimp only at g1 g2 g3 ⊢
    cases ch with
    | false =>
     repeat' (first|refine z0 ?_|apply ds_nil|apply dw_seq2|refine z16 ?_|apply dw_exit|refine z19 ?_|apply thenD_n|apply thenD_e|refine z17 ?_|refine z3 ?_|fail)
     repeat' (apply dw_ret)
     exact⟨.inl rfl,_,rfl,rfl,.inr (.inr ⟨by rw [hty];rfl,by omega,⟨H,W⟩,g1.done (g3 rfl),rfl⟩)⟩
    | true =>
     clear g3
     have lW:(W.map encUpd).length=W.length:=List.length_map _
     repeat' (first|refine z0 ?_|apply ds_nil|apply dw_seq2|refine z16 ?_|apply dw_block|apply dw_skip|refine z18 ?_|apply thenD_n)
     refine dw_ent (ent_nilrow (t:=8) 40 5 rfl) ?_
     repeat' fail
     refine ds_loop (ι:=Nat × List Upd × List Upd × Bool) (fun x=>⟨3,[(4,.loc 0 0),(6,.loc 1 0),(7,.d (.bool x.2.2.2)),(8,.row 2),(9,.d (.int .i64 x.1))],[(0,.blk 73 [.nils,.nils]),(1,.blk 73 [.d (.slice 5 (x.2.1.map encUpd)),.d (.slice 5 (W.map encUpd))]),(2,.row 40 5 (x.2.2.1.map encUpd))]⟩)
      (fun x=>x.1≤W.length∧RplGo (u::r.both) ⟨x.2.1,x.2.2.1++W.drop x.1⟩∧x.2.1.length + x.2.2.1.length + (W.length - x.1)=r.has.length + r.waits.length + 1∧x.2.2.1.length≤x.1∧(x.2.2.2=false→x.2.1=H∧x.2.2.1=W.take x.1∧∀ v∈W.take x.1,readyU H v=false)∧(x.2.2.2=true→x.2.2.1.length < x.1)) (fun x=>W.length - x.1) (0,H,[],false)
      ⟨Nat.zero_le _,g1,by dsimp only [List.length_nil];omega,Nat.zero_le _,fun _=>⟨rfl,rfl,fun v hv=>by simp at hv⟩,fun h=>by cases h⟩ (ent_ren id ⟨rfl,rfl,rfl,rfl,rfl,trivial⟩ ⟨rfl,rfl,rfl,trivial⟩ rfl rfl rfl rfl rfl rfl) ?_
     rintro⟨i,G,ws,m⟩ ⟨f1,f2,f3,f4,f5,f6⟩
     dsimp only at f1 f2 f3 f4 f5 f6 ⊢
     have lo:(ws.map encUpd).length=ws.length:=List.length_map _
     by_cases hi:i < W.length
     ·have hmem:W[i]=u∨W[i]∈r.has∨W[i]∈r.waits:=by
       have:=(g1.all W[i]).2 (.inr (List.getElem_mem hi))
       rcases List.mem_cons.1 this with h|h
       ·exact .inl h
       ·exact .inr (List.mem_append.1 h)
      have w1:=isReadyU_fn G W[i] (by omega) (hs _ hmem)
      rw [List.drop_eq_getElem_cons hi] at f2
      cases hr:readyU G W[i] with
      | true =>
       rw [hr] at w1
       have w2:=inOrder_fn G W[i] (by omega)
       repeat' (first|refine z0 ?_|apply ds_nil|apply dw_seq2|refine z16 ?_|apply dw_block|apply dw_skip|apply dw_exit|refine z18 ?_|apply thenD_n|apply thenD_e|apply inB_n|refine z17 ?_|refine z21 ?_ (hc:=by apply w1)|refine z21 ?_ (hc:=by apply w2)|refine z1 ?_|refine z3 ?_|(refine z23 ?_ ?_ <;> intro hg)|fail)
       all_goals try (exfalso;omega)
       exact⟨(i + 1,insU G W[i],ws,true),⟨hi,f2.moveAt hr,by dsimp only;rw [insU_len];omega,by dsimp only;omega,fun h=>(by cases h),fun _=>by dsimp only;omega⟩,ent_ren id ⟨rfl,rfl,rfl,rfl,rfl,trivial⟩ ⟨rfl,rfl,rfl,trivial⟩ rfl rfl rfl rfl rfl rfl,by show W.length - (i + 1) < W.length - i;omega⟩
      | false =>
       rw [hr] at w1
       repeat' (first|refine z0 ?_|apply ds_nil|apply dw_seq2|refine z16 ?_|apply dw_block|apply dw_skip|apply dw_exit|refine z19 ?_|apply thenD_n|apply thenD_e|apply inB_n|refine z17 ?_|refine z21 ?_ (hc:=by apply w1)|refine z1 ?_|refine z3 ?_|refine z4 ?_|refine z2 ?_|(refine z23 ?_ ?_ <;> intro hg)|fail)
       all_goals try (exfalso;omega)
       refine⟨(i + 1,G,ws++[W[i]],m),⟨hi,by simpa using f2,by dsimp only;rw [List.length_append,List.length_singleton];omega,by dsimp only;rw [List.length_append,List.length_singleton];omega,fun h=>?_,fun h=>?_⟩,ent_ren (fun j=>match j with|2=>4|j=>j) ⟨rfl,rfl,rfl,rfl,rfl,trivial⟩ ⟨rfl,rfl,by rw [List.map_append];rfl,trivial⟩ rfl rfl rfl rfl rfl rfl,by show W.length - (i + 1) < W.length - i;omega⟩
       ·obtain⟨h1,h2,h3⟩:=f5 h
        dsimp only at h1 ⊢
        subst h1
        refine⟨rfl,by rw [List.take_succ_eq_append_getElem hi,h2],fun v hv=>?_⟩
        rw [List.take_succ_eq_append_getElem hi] at hv
        rcases List.mem_append.1 hv with hv|hv
        ·exact h3 v hv
        ·rw [List.mem_singleton] at hv;rw [hv];exact hr
       ·have:=f6 h
        dsimp only
        rw [List.length_append,List.length_singleton]
        omega
     ·rw [List.drop_of_length_le (by omega),List.append_nil] at f2
      repeat' ((fail_if_success (apply dw_stopT 18));(first|refine z0 ?_|apply ds_nil|apply dw_seq2|refine z16 ?_|apply dw_block|apply dw_skip|apply dw_exit|apply thenD_n|apply thenD_e|refine z17 ?_|refine z1 ?_|refine z3 ?_|(refine z23 ?_ ?_ <;> intro hg)|fail))
      all_goals try (exfalso;omega)
      refine dw_ent (ent_seal 8 rfl rfl rfl) ?_
      repeat' (first|refine z0 ?_|apply ds_nil|refine z16 ?_|apply thenD_n|apply inB_n|refine z3 ?_|fail)
      refine⟨(⟨G,ws⟩,m),⟨f2,by dsimp only;omega,fun h=>?_⟩,ent_ren id ⟨rfl,rfl,rfl,trivial⟩ ⟨rfl,rfl,trivial⟩ rfl rfl rfl rfl rfl rfl,?_⟩
      ·obtain⟨h1,h2,h3⟩:=f5 h
       dsimp only at h1 h2 ⊢
       rw [List.take_of_length_le (by omega)] at h2 h3
       rw [h1,h2]
       exact h3
      ·cases m with
       | true =>
        have:=f6 rfl
        dsimp only
        omega
       | false =>
        have:=(f5 rfl).2.1
        rw [this,List.take_of_length_le (by omega)]
        dsimp only
        omega
theorem RplOk.nodup {A:List Upd} {r:Rpl} (h:RplOk A r):r.both.Nodup :=
 List.nodup_append.2 ⟨h.sh.nodup,h.sw.nodup,fun u hu v hv he=>h.apart u hu v hv (by rw [he])⟩
structure ToldOk (A:List Upd) (r:Rpl):Prop where
 ok:RplOk A r
 nodup:A.Nodup
theorem ToldOk.len {A:List Upd} {r:Rpl} (h:ToldOk A r):A.length=r.both.length :=
 ((List.perm_ext_iff_of_nodup h.nodup h.ok.nodup).2 fun u=>(h.ok.all u).trans List.mem_append.symm).length_eq
theorem ToldOk.has {A:List Upd} {r:Rpl} (h:ToldOk A r) (i:UId):hasU A i=hasU r.both i:=hasU_congr (fun u=>(h.ok.all u).trans List.mem_append.symm) i
theorem ToldOk.self {r:Rpl} (h:RplOk r.both r):ToldOk r.both r:=⟨h,h.nodup⟩
theorem ToldOk.step {A:List Upd} {r o:Rpl} (h:ToldOk A r) {u:Upd} (hu:hasU r.both u.id=false) (ho:RplOk (u::r.both) o):ToldOk (u::A) o:=by
 refine⟨ho.congr fun v=>?_,List.nodup_cons.2 ⟨fun hm=>?_,h.nodup⟩⟩
 ·rw [List.mem_cons,List.mem_cons,h.ok.all,List.mem_append]
 ·rw [← h.has,← Bool.not_eq_true,hasU_iff] at hu
  exact hu ⟨u,hm,rfl⟩
def ToldIs (r:Rpl) (l:List Upd) (o:Option Rpl):Prop :=
 match tellA r.both l,o with
 | none,none=>True
 | some A,some o=>ToldOk A o
 | _,_=>False
theorem ToldIs.unique {r:Rpl} {l:List Upd} {o p:Option Rpl} (h:ToldIs r l o) (g:ToldIs r l p):o=p:=by
 unfold ToldIs at h g
 revert h g
 cases tellA r.both l with
 | none=>cases o with
  | none=>cases p with
   | none=>exact fun _ _=>rfl
   | some p=>exact fun _ g=>g.elim
  | some o=>exact fun h=>h.elim
 | some A=>cases o with
  | none=>exact fun h=>h.elim
  | some o=>cases p with
   | none=>exact fun _ g=>g.elim
   | some p=>exact fun h g=>by rw [h.ok.unique g.ok]
theorem rpl0_ok:RplOk [] ⟨[],[]⟩:=⟨.nil,.nil,fun u=>by simp,fun u hu=>by simp at hu,fun u hu=>by simp at hu,fun u hu=>by simp at hu⟩
theorem second_waits:readyU [] secondU=false:=by kernel_rfl
theorem rpl1_ok:RplOk [secondU] ⟨[],[secondU]⟩:=by
 have g:RplGo [secondU] ⟨[],[secondU]⟩:=rpl0_ok.more (u:=secondU) rfl rfl
 exact g.done fun u hu=>by rw [List.mem_singleton.1 hu];exact second_waits
theorem rpl2_ok:RplOk [firstU,secondU] ⟨[firstU,secondU],[]⟩:=by
 have g1:RplGo [firstU,secondU] ⟨[],[firstU,secondU]⟩:=rpl1_ok.more (u:=firstU) (by kernel_rfl) (by kernel_rfl)
 have g2:RplGo [firstU,secondU] ⟨[firstU],[secondU]⟩:=g1.moveAt (a:=[]) (b:=[secondU]) (by kernel_rfl)
 have g3:RplGo [firstU,secondU] ⟨[firstU,secondU],[]⟩:=g2.moveAt (a:=[]) (b:=[]) (by kernel_rfl)
 exact g3.done fun u hu=>by simp at hu
theorem check2_ok:checkR ⟨[firstU,secondU],[]⟩=0:=by kernel_rfl
end Go.Proofs.Ytapciiffpnociaa
