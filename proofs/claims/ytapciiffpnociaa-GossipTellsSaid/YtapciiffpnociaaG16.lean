/- Several texts in one: GosC GosD GosE GosF GxArg DagZ DagM GosG WirIn DagIn. Condition: none. -/
import Derived.Test.YtapciiffpnociaaG15
import Derived.Test.YtapciiffpnociaaG02
import Derived.Test.YtapciiffpnociaaG14
import Derived.Test.YtapciiffpnociaaG10
import Derived.Test.YtapciiffpnociaaG12
namespace Go.Proofs.Ytapciiffpnociaa
open Go Go.RowKit
def missR (has:List Upd) (ids:List UId):List Upd:=has.filter fun u=>!metB (behM has ids) u.id
def missL (has:List Upd) (ids:List UId) (l:List Upd):List Upd:=l.filter fun u=>!metB (behM has ids) u.id
theorem missL_snoc (has l:List Upd) (ids:List UId) (x:Upd):missL has ids (l++[x])=missL has ids l++(match metB (behM has ids) x.id with|true=>[]|false=>[x]):=by
 unfold missL
 rw [List.filter_append,List.filter_cons]
 cases metB (behM has ids) x.id <;> rfl
theorem missL_len (has:List Upd) (ids:List UId) (l:List Upd):(missL has ids l).length≤l.length:=List.length_filter_le _ _
attribute [local irreducible] DW DS DL DQ Ev FnOk FnP thenD inBlockD DT
set_option maxHeartbeats 8000000 in
theorem missingOf_fn (r:Rpl) (ids:List UId) (hl:r.has.length≤100000) (hs:StrU r.has) (hk:∀ u∈r.has,u.parents.length + u.takes.length≤1000000):Fn 43 [elRpl r,.d (.slice 2 (ids.map encId))] (fun res=>res = .d (.slice 5 ((missR r.has ids).map encUpd))):=by
 refine fnp_enter' _ Try.func43 rfl rfl (by kernel_rfl) ?_
 intro O w0 E0 β0
 have ll:(r.has.map encUpd).length=r.has.length:=List.length_map _
 have w1:=behindOf_fn r.has ids hl hs hk
 obtain⟨F,hF⟩:∃ F,F=r.has.map fun u=>metB (behM r.has ids) u.id:=⟨_,rfl⟩
 rw [← hF] at w1
 have lF:F.length=r.has.length:=by rw [hF,List.length_map]
 have lf:(F.map encBl).length=F.length:=List.length_map _
 repeat' (first|refine z0 ?_|apply ds_nil|apply dw_seq2|refine z16 ?_|apply dw_block|apply thenD_n|refine z21 ?_ (hc:=by apply w1)|refine z1 ?_|fail)
 refine dw_ent (ent_nilrow (t:=6) 40 5 rfl) ?_
 repeat' fail
 clear w1
 refine ds_loop (ι:=Nat) (fun i=>⟨2,[(2,.loc 0 0),(5,.d (.slice 1 (F.map encBl))),(6,.row 1),(7,.d (.int .i64 i))],[(0,rplB r),(1,.row 40 5 ((missL r.has ids (r.has.take i)).map encUpd))]⟩)
  (fun i=>i≤r.has.length) (fun i=>r.has.length - i) 0 (Nat.zero_le _) (ent_ren id ⟨rfl,rfl,rfl,rfl,trivial⟩ ⟨rfl,rfl,trivial⟩ rfl rfl rfl rfl rfl rfl) ?_
 intro i g1
 dsimp only at g1 ⊢
 have lo:((missL r.has ids (r.has.take i)).map encUpd).length≤i:=by
  rw [List.length_map]
  have:=missL_len r.has ids (r.has.take i)
  rw [List.length_take] at this
  omega
 by_cases hi:i < r.has.length
 ·have hst:=missL_snoc r.has (r.has.take i) ids r.has[i]
  rw [← List.take_succ_eq_append_getElem hi] at hst
  have hiF:i < F.length:=by omega
  have hFi:F[i]=metB (behM r.has ids) r.has[i].id:=by simp [hF]
  rw [← hFi] at hst
  cases hb:F[i] with
  | true =>
   rw [hb] at hst
   dsimp only at hst
   rw [List.append_nil] at hst
   repeat' (first|refine z0 ?_|apply ds_nil|apply dw_seq2|refine z16 ?_|apply dw_block|apply dw_skip|apply dw_exit|apply thenD_n|apply thenD_e|apply inB_n|refine z17 ?_|refine z4 ?_|(refine z23 ?_ ?_ <;> intro hg)|(apply dw_cond;exact rfl;all_goals intro hg))
   all_goals try (exfalso;first|omega|(rw [hb] at hg;cases hg;done))
   exact⟨i + 1,hi,ent_ren id ⟨rfl,rfl,rfl,rfl,trivial⟩ ⟨rfl,by rw [hst];rfl,trivial⟩ rfl rfl rfl rfl rfl rfl,by omega⟩
  | false =>
   rw [hb] at hst
   dsimp only at hst
   repeat' (first|refine z0 ?_|apply ds_nil|apply dw_seq2|refine z16 ?_|apply dw_block|apply dw_skip|apply dw_exit|apply thenD_n|apply thenD_e|apply inB_n|refine z17 ?_|refine z4 ?_|(refine z23 ?_ ?_ <;> intro hg)|(apply dw_cond;exact rfl;all_goals intro hg))
   all_goals try (exfalso;first|omega|(rw [hb] at hg;cases hg;done))
   refine ds_tradeC rfl ⟨by rw [List.length_singleton];omega,by unfold maxLen;rw [List.length_singleton];omega⟩ rfl rfl rfl rfl ?_
   repeat' (first|refine z0 ?_|apply ds_nil|refine z16 ?_|apply thenD_n|apply inB_n)
   exact⟨i + 1,hi,ent_ren (fun j=>match j with|1=>2|j=>j) ⟨rfl,rfl,rfl,rfl,trivial⟩ ⟨rfl,by rw [hst,List.map_append];rfl,trivial⟩ rfl rfl rfl rfl rfl rfl,by omega⟩
 ·rw [List.take_of_length_le (by omega:r.has.length≤i)]
  repeat' (first|refine z0 ?_|apply ds_nil|apply dw_seq2|refine z16 ?_|apply dw_block|apply dw_skip|apply dw_exit|apply thenD_n|apply thenD_e|apply inB_n|refine z17 ?_|refine z4 ?_|refine z2 ?_|(refine z23 ?_ ?_ <;> intro hg)|(apply dw_cond;exact rfl;all_goals intro hg))
  all_goals try (exfalso;omega)
  refine dw_ent (ent_seal 4 rfl rfl rfl) ?_
  repeat' (apply dw_ret)
  exact⟨.inl rfl,_,rfl,rfl,rfl⟩
theorem tellA_step {A:List Upd} {l:List Upd} {i:Nat} (hi:i < l.length):tellA A (l.drop i)=if hasU A l[i].id then tellA A (l.drop (i + 1)) else if 200≤A.length then none else tellA (l[i]::A) (l.drop (i + 1)):=by
 rw [List.drop_eq_getElem_cons hi,tellA]
set_option maxHeartbeats 8000000 in
theorem tellOf_fn (r:Rpl) (l:List Upd) (hok:RplOk r.both r) (h1:r.has.length + r.waits.length≤200) (hs:∀ v,v∈r.has∨v∈r.waits∨v∈l→v.parents.length + v.takes.length≤1000000) :
  Fn 44 [elRpl r,.d (.slice 5 (l.map encUpd))] (fun res=>∃ o,ToldIs r l o∧res=match o with|some o=>.tup [elRpl o,.d (.bool true)]|none=>.tup [elRpl ⟨[],[]⟩,.d (.bool false)]):=by
 refine fnp_enter' _ Try.func44 rfl rfl (by kernel_rfl) ?_
 intro O w0 E0 β0
 have ll:(l.map encUpd).length=l.length:=List.length_map _
 have hbl:∀ x:Rpl,x.both.length=x.has.length + x.waits.length:=fun x=>List.length_append
 refine dw_len_map (t:=1) rfl fun hlb=>?_
 repeat' (first|refine z0 ?_|apply ds_nil|apply dw_seq2|refine z16 ?_|apply dw_block|apply thenD_n|refine z1 ?_|fail)
 refine ds_loop (ι:=Nat × List Upd × Rpl) (fun x=>⟨2,[(1,.d (.slice 5 (l.map encUpd))),(2,.loc 0 0),(4,.loc 1 0),(6,.d (.int .i64 x.1))],[(0,rplB x.2.2),(1,.blk 73 [.nils,.nils])]⟩)
  (fun x=>x.1≤l.length∧ToldOk x.2.1 x.2.2∧tellA x.2.1 (l.drop x.1)=tellA r.both l∧x.2.1.length≤200∧∀ v∈x.2.1,v.parents.length + v.takes.length≤1000000) (fun x=>l.length - x.1) (0,r.both,r)
  ⟨Nat.zero_le _,ToldOk.self hok,rfl,by rw [hbl];exact h1,fun v hv=>hs v ((List.mem_append.1 hv).elim .inl fun h=>.inr (.inl h))⟩ (ent_ren id ⟨rfl,rfl,rfl,rfl,trivial⟩ ⟨rfl,rfl,trivial⟩ rfl rfl rfl rfl rfl rfl) ?_
 rintro⟨i,A,x⟩ ⟨g1,g2,g3,g4,g5⟩
 dsimp only at g1 g2 g3 g4 g5 ⊢
 have hlen:=g2.len
 have hxl:=hbl x
 by_cases hi:i < l.length
 ·rw [tellA_step hi] at g3
  have w1:=addOf_fn x l[i] g2.ok.self (by omega) (by omega) (fun v hv=>by
   rcases hv with rfl|hv
   ·exact hs _ (.inr (.inr (List.getElem_mem hi)))
   ·exact g5 v ((g2.ok.all v).2 hv))
  have hh:=g2.has l[i].id
  cases hb:hasU x.both l[i].id with
  | true =>
   rw [hh,hb,if_pos rfl] at g3
   have w1:Fn 122 [elRpl x,elUpd l[i]] (fun res=>res = .tup [elRpl x,.d (.bool true)]):=FnP.imp w1 (by
    rintro res (⟨_,h⟩|⟨h,_⟩|⟨h,_⟩)
    ·exact h
    ·rw [hb] at h;cases h
    ·rw [hb] at h;cases h)
   repeat' (first|refine z0 ?_|apply ds_nil|refine z5 ?_|refine z6 ?_|refine z7 ?_|refine z11 ?_|apply dw_seq2|refine z16 ?_|refine z20 ?_|apply dw_block|apply dw_skip|apply dw_exit|refine z19 ?_|apply thenD_n|apply thenD_e|apply inB_n|refine z17 ?_|refine z22 ?_ (hc:=by apply w1)|refine z3 ?_|(refine z23 ?_ ?_ <;> intro hg)|fail)
   all_goals try (exfalso;omega)
   refine⟨(i + 1,A,x),⟨hi,g2,g3,g4,g5⟩,ent_ren id ⟨rfl,rfl,rfl,rfl,trivial⟩ ⟨rfl,rfl,trivial⟩ rfl rfl rfl rfl rfl rfl,by show l.length - (i + 1) < l.length - i;omega⟩
  | false =>
   rw [hh,hb,if_neg (by simp)] at g3
   by_cases hf:200≤A.length
   ·rw [if_pos hf] at g3
    have w1:Fn 122 [elRpl x,elUpd l[i]] (fun res=>res = .tup [elRpl ⟨[],[]⟩,.d (.bool false)]):=FnP.imp w1 (by
     rintro res (⟨h,_⟩|⟨_,_,h⟩|⟨_,h,_⟩)
     ·rw [hb] at h;cases h
     ·exact h
     ·omega)
    repeat' (first|refine z0 ?_|apply ds_nil|refine z5 ?_|refine z6 ?_|refine z7 ?_|refine z11 ?_|apply dw_seq2|refine z16 ?_|refine z20 ?_|apply dw_block|apply dw_skip|apply dw_exit|refine z18 ?_|apply thenD_n|apply thenD_e|refine z17 ?_|refine z22 ?_ (hc:=by apply w1)|refine z3 ?_|(refine z23 ?_ ?_ <;> intro hg)|fail)
    all_goals try (exfalso;omega)
    refine dw_ent (ent_cellnil 1 0 5 rfl rfl rfl) ?_
    refine dw_ent (ent_cellnil 1 1 5 rfl rfl rfl) ?_
    repeat' (first|apply dw_ret|apply thenD_r|apply inB_r)
    exact⟨.inl rfl,_,rfl,rfl,none,by unfold ToldIs;rw [← g3];trivial,rfl⟩
   ·rw [if_neg hf] at g3
    obtain⟨_,s,hs2⟩:=g2.ok.self.add hb
    have w1:Fn 122 [elRpl x,elUpd l[i]] (fun res=>res = .tup [elRpl s,.d (.bool true)]):=FnP.imp w1 (by
     rintro res (⟨h,_⟩|⟨_,h,_⟩|⟨_,_,o,h,rfl⟩)
     ·rw [hb] at h;cases h
     ·omega
     ·rw [h.unique hs2])
    have hst:=g2.step hb hs2
    repeat' (first|refine z0 ?_|apply ds_nil|refine z5 ?_|refine z6 ?_|refine z7 ?_|refine z11 ?_|apply dw_seq2|refine z16 ?_|refine z20 ?_|apply dw_block|apply dw_skip|apply dw_exit|refine z19 ?_|apply thenD_n|apply thenD_e|apply inB_n|refine z17 ?_|refine z22 ?_ (hc:=by apply w1)|refine z3 ?_|(refine z23 ?_ ?_ <;> intro hg)|fail)
    all_goals try (exfalso;omega)
    exact⟨(i + 1,l[i]::A,s),⟨hi,hst,g3,by rw [List.length_cons];omega,fun v hv=>by
     rcases List.mem_cons.1 hv with rfl|hv
     ·exact hs _ (.inr (.inr (List.getElem_mem hi)))
     ·exact g5 v hv⟩,ent_ren id ⟨rfl,rfl,rfl,rfl,trivial⟩ ⟨rfl,rfl,trivial⟩ rfl rfl rfl rfl rfl rfl,by show l.length - (i + 1) < l.length - i;omega⟩
 ·rw [List.drop_of_length_le (by omega)] at g3
  repeat' (first|refine z0 ?_|apply ds_nil|refine z5 ?_|apply dw_seq2|refine z16 ?_|refine z20 ?_|apply dw_block|apply dw_skip|apply dw_exit|apply thenD_n|apply thenD_e|refine z17 ?_|refine z3 ?_|(refine z23 ?_ ?_ <;> intro hg)|fail)
  all_goals try (exfalso;omega)
  repeat' (apply dw_ret)
  exact⟨.inl rfl,_,rfl,rfl,some x,by unfold ToldIs;rw [← g3];exact g2,rfl⟩
def OneM (m:List (MK × Int)):Prop:=∀ i:UId,(mapGet? m (keyI i)).getD 0=0∨(mapGet? m (keyI i)).getD 0=1
theorem OneM.set {m:List (MK × Int)} (h:OneM m) (i:UId):OneM (mapSet m (keyI i) 1):=fun j=>by
 rw [mapGet_set]
 split
 ·exact .inr rfl
 ·exact h j
theorem OneM.walk {has:List Upd}:∀ (n:Nat) {m:List (MK × Int)} (i:UId),OneM m→OneM (walkM has n m i)
 | 0,_,_,h=>h
 | n + 1,m,i,h=>by
  unfold walkM
  split
  ·exact h
  ·have key:∀ (l:List UId) (m:List (MK × Int)),OneM m→OneM (l.foldl (walkM has n) m):=by
    intro l
    induction l with
    | nil=>exact fun _ h=>h
    | cons j l ih=>exact fun m h=>ih _ (OneM.walk n j h)
   exact key _ _ (h.set i)
theorem behM_one (has:List Upd) (l:List UId):OneM (behM has l):=by
 have key:∀ (l:List UId) (m:List (MK × Int)),OneM m→OneM (l.foldl (walkM has (has.length + 1)) m):=by
  intro l
  induction l with
  | nil=>exact fun _ h=>h
  | cons j l ih=>exact fun m h=>ih _ (OneM.walk _ j h)
 exact key l [] fun _=>.inl rfl
theorem behM_zero (has:List Upd) (l:List UId) (i:UId):decide ((mapGet? (behM has l) (keyI i)).getD 0=0) = !metB (behM has l) i:=by
 unfold metB
 rcases behM_one has l i with h|h <;> rw [h] <;> rfl
set_option maxHeartbeats 8000000 in
theorem missing_fn (r:Rpl) (ids:List UId) (hl:r.has.length≤100000) (hid:ids.length≤1000000) (hs:StrU r.has) (hsh:∀ u∈r.has,ShortU u):Fn 115 [elRpl r,.d (.slice 2 (ids.map encId))] (fun res=>res = .d (.slice 5 ((missR r.has ids).map encUpd))):=by
 refine fnp_enter' _ Try.func115 rfl rfl (by kernel_rfl) ?_
 intro O w0 E0 β0
 have ll:(r.has.map encUpd).length=r.has.length:=List.length_map _
 have w1:=behind_fn r.has ids (by omega) hid hs (fun u hu=>by have:=hsh u hu;have:=this.parents;have:=(hsh u hu).takes;omega)
 repeat' (first|refine z0 ?_|apply ds_nil|apply dw_seq2|refine z16 ?_|apply dw_block|apply thenD_n|refine z21 ?_ (hc:=by apply w1)|refine z1 ?_|fail)
 refine dw_ent (ent_nilrow (t:=6) 40 5 rfl) ?_
 repeat' fail
 clear w1
 refine ds_loop (ι:=Nat) (fun i=>⟨1,[(5,.md false (behM r.has ids)),(6,.row 0),(14,.d (.slice 5 (r.has.map encUpd))),(15,.d (.int .i64 r.has.length)),(16,.d (.int .i64 i))],[(0,.row 40 5 ((missL r.has ids (r.has.take i)).map encUpd))]⟩)
  (fun i=>i≤r.has.length) (fun i=>r.has.length - i) 0 (Nat.zero_le _) (ent_ren (fun j=>match j with|0=>1|j=>j) ⟨rfl,rfl,rfl,by rw [← ll];rfl,rfl,trivial⟩ ⟨rfl,trivial⟩ rfl rfl rfl rfl rfl rfl) ?_
 intro i g1
 dsimp only at g1 ⊢
 have lo:((missL r.has ids (r.has.take i)).map encUpd).length≤i:=by
  rw [List.length_map]
  have:=missL_len r.has ids (r.has.take i)
  rw [List.length_take] at this
  omega
 by_cases hi:i < r.has.length
 ·have hst:=missL_snoc r.has (r.has.take i) ids r.has[i]
  rw [← List.take_succ_eq_append_getElem hi] at hst
  have hz:=behM_zero r.has ids r.has[i].id
  have hu:=hsh _ (List.getElem_mem hi)
  have w2:=wown_fn r.has[i] (Nat.le_trans hu.parents (by decide)) (Nat.le_trans hu.takes (by decide)) hu.says hu.args
  repeat' (first|refine z0 ?_|apply ds_nil|apply dw_seq2|refine z16 ?_|apply dw_block|apply dw_skip|apply dw_exit|apply thenD_n|apply thenD_e|refine z17 ?_|refine z1 ?_|refine z3 ?_|(refine z23 ?_ ?_ <;> intro hg)|fail)
  all_goals try (exfalso;omega)
  refine ds_lookup (kd:=false) (kvs:=behM r.has ids) (key:=keyI r.has[i].id) mapId_t ⟨rfl,rfl⟩ rfl rfl rfl rfl rfl ?_
  cases hb:metB (behM r.has ids) r.has[i].id with
  | true =>
   rw [hb] at hz hst
   have hz:=of_decide_eq_false hz
   dsimp only at hst
   rw [List.append_nil] at hst
   repeat' (first|refine z0 ?_|apply ds_nil|refine z16 ?_|apply dw_skip|apply thenD_n|apply inB_n|(refine z23 ?_ ?_ <;> intro hg)|fail)
   all_goals try (exfalso;first|omega|exact hz (by assumption))
   exact⟨i + 1,hi,ent_ren id ⟨rfl,rfl,rfl,rfl,rfl,trivial⟩ ⟨by rw [hst];rfl,trivial⟩ rfl rfl rfl rfl rfl rfl,by omega⟩
  | false =>
   rw [hb] at hz hst
   have hz:=of_decide_eq_true hz
   dsimp only at hst
   repeat' (first|refine z0 ?_|apply ds_nil|refine z16 ?_|apply dw_skip|apply thenD_n|apply inB_n|refine z21 ?_ (hc:=by apply w2)|refine z4 ?_|(refine z23 ?_ ?_ <;> intro hg)|fail)
   all_goals try (exfalso;first|omega|exact absurd hz (by assumption))
   refine ds_tradeC rfl ⟨by rw [List.length_singleton];omega,by unfold maxLen;rw [List.length_singleton];omega⟩ rfl rfl rfl rfl ?_
   repeat' (first|refine z0 ?_|apply ds_nil|refine z16 ?_|apply thenD_n|apply inB_n)
   exact⟨i + 1,hi,ent_ren (fun j=>match j with|0=>2|j=>j) ⟨rfl,rfl,rfl,rfl,rfl,trivial⟩ ⟨by rw [hst,List.map_append];rfl,trivial⟩ rfl rfl rfl rfl rfl rfl,by omega⟩
 ·rw [List.take_of_length_le (by omega:r.has.length≤i)]
  repeat' (first|refine z0 ?_|apply ds_nil|apply dw_seq2|refine z16 ?_|apply dw_block|apply dw_skip|apply dw_exit|apply thenD_n|apply thenD_e|refine z17 ?_|refine z1 ?_|refine z3 ?_|(refine z23 ?_ ?_ <;> intro hg)|fail)
  all_goals try (exfalso;omega)
  refine dw_ent (ent_seal 4 rfl rfl rfl) ?_
  repeat' (apply dw_ret)
  exact⟨.inl rfl,_,rfl,rfl,rfl⟩
def toldV (o:Option Rpl):SV:=match o with
 | some o=>.tup [elRpl o,.d (.bool true)]
 | none=>.tup [elRpl ⟨[],[]⟩,.d (.bool false)]
set_option maxHeartbeats 8000000 in
theorem told_fn (r:Rpl) (l:List Upd) (hok:RplOk r.both r) (h1:r.has.length + r.waits.length≤200) (hsh:∀ v,v∈r.has∨v∈r.waits∨v∈l→ShortU v) :
  Fn 116 [elRpl r,.d (.slice 5 (l.map encUpd))] (fun res=>∃ o,ToldIs r l o∧res=toldV o):=by
 refine fnp_enter' _ Try.func116 rfl rfl (by kernel_rfl) ?_
 intro O w0 E0 β0
 have ll:(l.map encUpd).length=l.length:=List.length_map _
 have hbl:∀ x:Rpl,x.both.length=x.has.length + x.waits.length:=fun x=>List.length_append
 refine dw_len_map (t:=1) rfl fun hlb=>?_
 have w1:=dOwn_fn r (by omega) (by omega) (fun v hv=>hsh v (.inl hv)) (fun v hv=>hsh v (.inr (.inl hv)))
 repeat' (first|refine z0 ?_|apply ds_nil|apply dw_seq2|refine z16 ?_|apply thenD_n|refine z1 ?_|fail)
 refine ds_callO id w1 rfl rfl rfl rfl trivial rfl rfl rfl rfl rfl rfl ?_ ?_
 ·rintro k2 res H2 ⟨rfl,rfl,rfl⟩;exact⟨rfl,rfl⟩
 rintro k2 res H2 ⟨rfl,rfl,rfl⟩
 change DS _ _ _ _ _ _ _ _
 repeat' (first|refine z0 ?_|apply ds_nil|apply dw_seq2|refine z16 ?_|apply dw_block|apply thenD_n|refine z1 ?_|refine z3 ?_|fail)
 refine ds_loop (ι:=Nat × List Upd × Rpl) (fun x=>⟨4,[(4,.loc 3 0),(6,.loc 0 0),(11,.d (.slice 5 (l.map encUpd))),(12,.d (.int .i64 l.length)),(13,.d (.int .i64 x.1))],[(0,.blk 73 [.row 1,.row 2]),(1,.row 40 5 (x.2.2.has.map encUpd)),(2,.row 40 5 (x.2.2.waits.map encUpd)),(3,.blk 73 [.nils,.nils])]⟩)
  (fun x=>x.1≤l.length∧ToldOk x.2.1 x.2.2∧tellA x.2.1 (l.drop x.1)=tellA r.both l∧x.2.1.length≤200∧∀ v∈x.2.1,ShortU v) (fun x=>l.length - x.1) (0,r.both,r)
  ⟨Nat.zero_le _,ToldOk.self hok,rfl,by rw [hbl];exact h1,fun v hv=>hsh v ((List.mem_append.1 hv).elim .inl fun h=>.inr (.inl h))⟩ (ent_ren (fun j=>match j with|0=>4|1=>2|2=>3|3=>1|j=>j) ⟨rfl,rfl,rfl,by rw [← ll];rfl,rfl,trivial⟩ ⟨rfl,rfl,rfl,rfl,trivial⟩ rfl rfl rfl rfl rfl rfl) ?_
 clear w1
 rintro⟨i,A,x⟩ ⟨g1,g2,g3,g4,g5⟩
 dsimp only at g1 g2 g3 g4 g5 ⊢
 have hlen:=g2.len
 have hxl:=hbl x
 by_cases hi:i < l.length
 ·rw [tellA_step hi] at g3
  have hh:=g2.has l[i].id
  have hap:=hasU_app x.has x.waits l[i].id
  have w4:=put2_fn x l[i] g2.ok.self (by omega) (by omega) (hsh _ (.inr (.inr (List.getElem_mem hi)))) (fun v hv=>g5 v ((g2.ok.all v).2 (.inl hv))) (fun v hv=>g5 v ((g2.ok.all v).2 (.inr hv)))
  repeat' (first|refine z0 ?_|apply ds_nil|apply dw_seq2|refine z16 ?_|apply dw_block|apply dw_skip|apply dw_exit|apply thenD_n|apply thenD_e|refine z17 ?_|refine z1 ?_|refine z3 ?_|(refine z23 ?_ ?_ <;> intro hg)|fail)
  all_goals try (exfalso;omega)
  refine ds_callO id w4 rfl rfl rfl rfl ⟨rfl,rfl,rfl,trivial⟩ rfl rfl rfl rfl rfl rfl ?_ ?_
  ·rintro k2 res H2 ⟨rfl,⟨_,rfl,rfl⟩|⟨_,_,_,rfl,rfl⟩|⟨_,_,_,o,_,rfl,rfl⟩⟩ <;> exact⟨rfl,rfl⟩
  rintro k2 res H2 ⟨rfl,⟨f1,rfl,rfl⟩|⟨f1,f2,f3,rfl,rfl⟩|⟨f1,f2,f3,o,f4,rfl,rfl⟩⟩
  all_goals change DS _ _ _ _ _ _ _ _
  ·rw [hh,hap,if_pos (by simpa using f1)] at g3
   repeat' (first|refine z0 ?_|apply ds_nil|refine z16 ?_|apply dw_skip|refine z19 ?_|apply thenD_n|apply inB_n)
   exact⟨(i + 1,A,x),⟨hi,g2,g3,g4,g5⟩,ent_ren (fun j=>match j with|1=>6|2=>7|j=>j) ⟨rfl,rfl,rfl,rfl,rfl,trivial⟩ ⟨rfl,rfl,rfl,rfl,trivial⟩ rfl rfl rfl rfl rfl rfl,by show l.length - (i + 1) < l.length - i;omega⟩
  ·rw [hh,hap,f1,f2,if_neg (by simp),if_pos (by omega)] at g3
   repeat' (first|refine z0 ?_|apply ds_nil|apply dw_seq2|refine z16 ?_|refine z18 ?_|apply thenD_n|refine z3 ?_|fail)
   refine dw_ent (ent_cellnil 3 0 5 rfl rfl rfl) ?_
   refine dw_ent (ent_cellnil 3 1 5 rfl rfl rfl) ?_
   repeat' (first|apply dw_ret|apply thenD_r|apply inB_r)
   exact⟨.inl rfl,_,rfl,rfl,none,by unfold ToldIs;rw [← g3];trivial,rfl⟩
  ·have f5:hasU x.both l[i].id=false:=by rw [hap,f1,f2];rfl
   rw [hh,f5,if_neg (by simp),if_neg (by omega)] at g3
   have hst:=g2.step f5 f4
   repeat' (first|refine z0 ?_|apply ds_nil|refine z16 ?_|apply dw_skip|refine z19 ?_|apply thenD_n|apply inB_n)
   exact⟨(i + 1,l[i]::A,o),⟨hi,hst,g3,by rw [List.length_cons];omega,fun v hv=>by
    rcases List.mem_cons.1 hv with rfl|hv
    ·exact hsh _ (.inr (.inr (List.getElem_mem hi)))
    ·exact g5 v hv⟩,ent_ren (fun j=>match j with|1=>6|2=>7|j=>j) ⟨rfl,rfl,rfl,rfl,rfl,trivial⟩ ⟨rfl,rfl,rfl,rfl,trivial⟩ rfl rfl rfl rfl rfl rfl,by show l.length - (i + 1) < l.length - i;omega⟩
 ·rw [List.drop_of_length_le (by omega)] at g3
  repeat' (first|refine z0 ?_|apply ds_nil|apply dw_seq2|refine z16 ?_|apply dw_block|apply dw_skip|apply dw_exit|apply thenD_n|apply thenD_e|refine z17 ?_|refine z1 ?_|refine z3 ?_|(refine z23 ?_ ?_ <;> intro hg)|fail)
  all_goals try (exfalso;omega)
  refine dw_ent (ent_cellseal 3 0 1 rfl rfl rfl rfl rfl) ?_
  refine dw_ent (ent_cellseal 3 1 2 rfl rfl rfl rfl rfl) ?_
  repeat' (apply dw_ret)
  exact⟨.inl rfl,_,rfl,rfl,some x,by unfold ToldIs;rw [← g3];exact g2,rfl⟩
def topI (r:Rpl):List UId:=(topsU r.has).map Upd.id
theorem topI_len (r:Rpl):(topI r).length≤r.has.length:=by
 unfold topI topsU topsL
 rw [List.length_map]
 exact List.length_filter_le _ _
theorem tellA_ex:∀ (l A:List Upd) (r:Rpl),ToldOk A r→∃ o:Option Rpl,match tellA A l,o with
  | none,none=>True
  | some A,some o=>ToldOk A o
  | _,_=>False
 | [],A,r,h=>⟨some r,by unfold tellA;exact h⟩
 | u::l,A,r,h=>by
  unfold tellA
  by_cases hu:hasU A u.id=true
  ·rw [if_pos hu]
   exact tellA_ex l A r h
  ·rw [if_neg hu]
   by_cases hf:200≤A.length
   ·rw [if_pos hf]
    exact⟨none,trivial⟩
   ·rw [if_neg hf]
    have hb:hasU r.both u.id=false:=by rw [← h.has];simpa using hu
    obtain⟨_,s,hs⟩:=h.ok.self.add hb
    exact tellA_ex l (u::A) s (h.step hb hs)
theorem told_ex {r:Rpl} (h:RplOk r.both r) (l:List Upd):∃ o,ToldIs r l o:=tellA_ex l r.both r (ToldOk.self h)
def roundE (a b:Rpl):Int:=firstL checkR [a,b]
theorem roundE_ok {a b:Rpl} (h:roundE a b=0):checkR a=0∧checkR b=0:=⟨firstL_none h a (by simp),firstL_none h b (by simp)⟩
abbrev encRpl (r:Rpl):List D:=[.slice 5 (r.has.map encUpd),.slice 5 (r.waits.map encUpd)]
def roundV (o p:Option Rpl):SV:=match o,p with
 | some x,some y=>.tup [elRpl x,elRpl y,.d (.int .i64 0)]
 | _,_=>.tup [elRpl ⟨[],[]⟩,elRpl ⟨[],[]⟩,.d (.int .i64 2)]
set_option maxHeartbeats 8000000 in
theorem gmissing_fn (r:Rpl) (ids:List UId) (h1:r.has.length≤4398046511104) (h2:r.waits.length≤4398046511104) :
  Fn 40 [elRpl r,.d (.slice 2 (ids.map encId))] (fun res=>res = .tup [.d (.slice 5 ((if checkR r=0∧ids.length≤200 then missR r.has ids else []).map encUpd)),.d (.int .i64 (if checkR r=0 then (if ids.length≤200 then 0 else 2) else checkR r))]):=by
 refine fnp_enter' _ Try.func40 rfl rfl (by kernel_rfl) ?_
 intro O w0 E0 β0
 have li:(ids.map encId).length=ids.length:=List.length_map _
 have w1:=dcheck_fn r h1 h2
 refine dw_len_map (t:=1) rfl fun hib=>?_
 by_cases hr:checkR r=0
 ·obtain⟨hlen,hall,hok⟩:=checkR_ok hr
  rw [if_pos hr]
  rw [hr] at w1
  by_cases hi:ids.length≤200
  ·rw [if_pos ⟨hr,hi⟩,if_pos hi]
   have w2:=missing_fn r ids (by omega) (by omega) hok.sh (fun u hu=>short_of (hall u (List.mem_append_left _ hu)))
   repeat' (first|refine z0 ?_|apply ds_nil|apply dw_seq2|refine z16 ?_|apply dw_skip|apply dw_ret|refine z19 ?_|apply thenD_n|apply thenD_r|refine z21 ?_ (hc:=by apply w1)|refine z21 ?_ (hc:=by apply w2)|refine z1 ?_|(refine z23 ?_ ?_ <;> intro hg)|fail)
   all_goals try (exfalso;omega)
   exact⟨.inl rfl,_,rfl,rfl,rfl⟩
  ·rw [if_neg (fun h=>hi h.2),if_neg hi]
   repeat' (first|refine z0 ?_|apply ds_nil|apply dw_seq2|refine z16 ?_|apply dw_skip|refine z19 ?_|apply thenD_n|refine z21 ?_ (hc:=by apply w1)|refine z1 ?_|(refine z23 ?_ ?_ <;> intro hg)|fail)
   all_goals try (exfalso;omega)
   refine dw_ent (ent_nild 4 5 rfl) ?_
   repeat' (first|apply dw_ret|apply thenD_r)
   exact⟨.inl rfl,_,rfl,rfl,rfl⟩
 ·rw [if_neg (fun h=>hr h.1),if_neg hr]
  repeat' (first|refine z0 ?_|apply ds_nil|apply dw_seq2|refine z16 ?_|apply dw_skip|apply thenD_n|refine z21 ?_ (hc:=by apply w1)|refine z1 ?_|(refine z23 ?_ ?_ <;> intro hg)|fail)
  all_goals try (exfalso;omega)
  refine dw_ent (ent_nild 4 5 rfl) ?_
  repeat' (first|apply dw_ret|apply thenD_r)
  exact⟨.inl rfl,_,rfl,rfl,rfl⟩
set_option maxHeartbeats 8000000 in
theorem round_fn2 (a b:Rpl) (o p:Option Rpl) (h1:a.has.length≤4398046511104) (h2:a.waits.length≤4398046511104) (h3:b.has.length≤4398046511104) (h4:b.waits.length≤4398046511104)
  (ho:roundE a b=0→ToldIs a (missR b.has (topI a)) o) (hp:roundE a b=0→ToldIs b (missR a.has (topI b)) p) :
  Fn 41 [elRpl a,elRpl b] (fun res=>res=if roundE a b=0 then roundV o p else .tup [elRpl ⟨[],[]⟩,elRpl ⟨[],[]⟩,.d (.int .i64 (roundE a b))]):=by
 refine fnp_enter' _ Try.func41 rfl rfl (by kernel_rfl) ?_
 intro O w0 E0 β0
 repeat' (first|refine z0 ?_|apply ds_nil|apply dw_seq2|refine z16 ?_|apply dw_block|apply thenD_n|refine z1 ?_|refine z4 ?_|fail)
 obtain⟨rs,hrs⟩:∃ rs,rs=[a,b]:=⟨_,rfl⟩
 have hlen:rs.length=2:=by rw [hrs];rfl
 have hbd:∀ r∈rs,r.has.length≤4398046511104∧r.waits.length≤4398046511104:=by
  rw [hrs]
  intro r hr
  rcases List.mem_cons.1 hr with e|e
  ·rw [e];exact⟨h1,h2⟩
  ·rw [List.mem_singleton.1 e];exact⟨h3,h4⟩
 have hE:roundE a b=firstL checkR rs:=by rw [hrs];rfl
 refine ds_loop (ι:=Nat) (fun i=>⟨4,[(2,.loc 0 0),(3,.loc 1 0),(4,.loc 2 0),(5,.loc 3 0),(16,.d (.slice 2 (rs.map encRpl))),(17,.d (.int .i64 rs.length)),(18,.d (.int .i64 i))],[(0,rplB a),(1,rplB b),(2,.blk 73 [.nils,.nils]),(3,.blk 73 [.nils,.nils])]⟩)
  (fun i=>i≤rs.length∧roundE a b=firstL checkR (rs.drop i)) (fun i=>rs.length - i) 0 ⟨Nat.zero_le _,hE⟩ (ent_ren id ⟨rfl,rfl,rfl,rfl,by rw [hrs];rfl,by rw [hrs];rfl,rfl,trivial⟩ ⟨rfl,rfl,rfl,rfl,trivial⟩ rfl rfl rfl rfl rfl rfl) ?_
 rintro i ⟨g1,g2⟩
 dsimp only at g1 g2 ⊢
 have lr:(rs.map encRpl).length=rs.length:=List.length_map _
 by_cases hi:i < rs.length
 ·rw [firstL_step hi] at g2
  obtain⟨q1,q2⟩:=hbd _ (List.getElem_mem hi)
  have w:=dcheck_fn rs[i] q1 q2
  by_cases hc:checkR rs[i]≠0
  ·rw [if_pos hc] at g2
   rw [if_neg (by rw [g2];exact hc)]
   rw [← g2] at w hc
   repeat' (first|refine z0 ?_|apply ds_nil|refine z5 ?_|apply dw_seq2|refine z16 ?_|refine z20 ?_|apply dw_block|apply dw_skip|apply dw_exit|apply thenD_n|apply thenD_e|apply inB_n|refine z17 ?_|refine z21 ?_ (hc:=by apply w)|refine z1 ?_|refine z3 ?_|(refine z23 ?_ ?_ <;> intro hg)|fail)
   all_goals try (exfalso;omega)
   refine dw_ent (ent_cellnil 2 0 5 rfl rfl rfl) ?_
   refine dw_ent (ent_cellnil 2 1 5 rfl rfl rfl) ?_
   refine dw_ent (ent_cellnil 3 0 5 rfl rfl rfl) ?_
   refine dw_ent (ent_cellnil 3 1 5 rfl rfl rfl) ?_
   repeat' (first|apply dw_ret|apply thenD_r|apply inB_r)
   exact⟨.inl rfl,_,rfl,rfl,rfl⟩
  ·rw [if_neg hc] at g2
   have hc2:checkR rs[i]=0:=Decidable.not_not.1 hc
   rw [hc2] at w
   repeat' (first|refine z0 ?_|apply ds_nil|refine z5 ?_|apply dw_seq2|refine z16 ?_|refine z20 ?_|apply dw_block|apply dw_skip|apply dw_exit|refine z19 ?_|apply thenD_n|apply thenD_e|apply inB_n|refine z17 ?_|refine z21 ?_ (hc:=by apply w)|refine z1 ?_|refine z3 ?_|(refine z23 ?_ ?_ <;> intro hg)|fail)
   all_goals try (exfalso;omega)
   exact⟨i + 1,⟨hi,g2⟩,ent_ren id ⟨rfl,rfl,rfl,rfl,rfl,rfl,rfl,trivial⟩ ⟨rfl,rfl,rfl,rfl,trivial⟩ rfl rfl rfl rfl rfl rfl,by omega⟩
 ·rw [firstL_end (by omega)] at g2
  obtain⟨ca,cb⟩:=roundE_ok g2
  rw [if_pos g2]
  obtain⟨la,ha,oka⟩:=checkR_ok ca
  obtain⟨lb,hb,okb⟩:=checkR_ok cb
  have sa:∀ u,u∈a.has∨u∈a.waits→ShortU u:=fun u hu=>short_of (ha u (List.mem_append.2 hu))
  have sb:∀ u,u∈b.has∨u∈b.waits→ShortU u:=fun u hu=>short_of (hb u (List.mem_append.2 hu))
  have fa:=flat_len Upd.parents 6 a.has fun u hu=>(checkU_small (ha u (List.mem_append_left _ hu))).1
  have fb:=flat_len Upd.parents 6 b.has fun u hu=>(checkU_small (hb u (List.mem_append_left _ hu))).1
  have ta:=topI_len a
  have tb:=topI_len b
  have w1:=tops_fn a (by omega) (by omega)
  have w2:=tops_fn b (by omega) (by omega)
  change Fn _ _ (fun res=>res = .d (.slice 2 ((topI a).map encId))) at w1
  change Fn _ _ (fun res=>res = .d (.slice 2 ((topI b).map encId))) at w2
  have w3:=missing_fn b (topI a) (by omega) (by omega) okb.sh (fun u hu=>sb u (.inl hu))
  have w4:=missing_fn a (topI b) (by omega) (by omega) oka.sh (fun u hu=>sa u (.inl hu))
  have w5:Fn 116 [elRpl a,.d (.slice 5 ((missR b.has (topI a)).map encUpd))] (fun res=>res=toldV o) :=
   FnP.imp (told_fn a (missR b.has (topI a)) oka la fun v hv=>by
    rcases hv with h|h|h
    ·exact sa v (.inl h)
    ·exact sa v (.inr h)
    ·exact sb v (.inl (List.mem_filter.1 h).1)) (by
    rintro _ ⟨o',h,rfl⟩
    rw [h.unique (ho g2)])
  have w6:Fn 116 [elRpl b,.d (.slice 5 ((missR a.has (topI b)).map encUpd))] (fun res=>res=toldV p) :=
   FnP.imp (told_fn b (missR a.has (topI b)) okb lb fun v hv=>by
    rcases hv with h|h|h
    ·exact sb v (.inl h)
    ·exact sb v (.inr h)
    ·exact sa v (.inl (List.mem_filter.1 h).1)) (by
    rintro _ ⟨o',h,rfl⟩
    rw [h.unique (hp g2)])
  clear ho hp hbd
  obtain⟨ia,hia⟩:∃ x,x=topI a:=⟨_,rfl⟩
  obtain⟨ib,hib⟩:∃ x,x=topI b:=⟨_,rfl⟩
  obtain⟨ma,hma⟩:∃ x,x=missR b.has (topI a):=⟨_,rfl⟩
  obtain⟨mb,hmb⟩:∃ x,x=missR a.has (topI b):=⟨_,rfl⟩
  rw [← hma] at w3 w5
  rw [← hmb] at w4 w6
  rw [← hia] at w1 w3
  rw [← hib] at w2 w4
  clear hma hmb hia hib
  cases o with
  | none =>
   cases p with
   | none =>
    dsimp only [toldV] at w5 w6
    repeat' (first|refine z0 ?_|refine z12 ?_|apply ds_nil|refine z5 ?_|refine z6 ?_|refine z7 ?_|refine z11 ?_|apply dw_seq2|refine z16 ?_|refine z20 ?_|apply dw_block|apply dw_skip|apply dw_exit|refine z18 ?_|apply thenD_n|apply thenD_e|refine z17 ?_|refine z22 ?_ (hc:=by apply w1)|refine z22 ?_ (hc:=by apply w2)|refine z22 ?_ (hc:=by apply w3)|refine z22 ?_ (hc:=by apply w4)|refine z22 ?_ (hc:=by apply w5)|refine z22 ?_ (hc:=by apply w6)|refine z1 ?_|refine z3 ?_|(refine z23 ?_ ?_ <;> intro hg)|fail)
    all_goals try (exfalso;omega)
    refine dw_ent (ent_cellnil 2 0 5 rfl rfl rfl) ?_
    refine dw_ent (ent_cellnil 2 1 5 rfl rfl rfl) ?_
    refine dw_ent (ent_cellnil 3 0 5 rfl rfl rfl) ?_
    refine dw_ent (ent_cellnil 3 1 5 rfl rfl rfl) ?_
    repeat' (first|apply dw_ret|apply thenD_r)
    exact⟨.inl rfl,_,rfl,rfl,rfl⟩
   | some y =>
    dsimp only [toldV] at w5 w6
    repeat' (first|refine z0 ?_|refine z12 ?_|apply ds_nil|refine z5 ?_|refine z6 ?_|refine z7 ?_|refine z11 ?_|apply dw_seq2|refine z16 ?_|refine z20 ?_|apply dw_block|apply dw_skip|apply dw_exit|refine z18 ?_|apply thenD_n|apply thenD_e|refine z17 ?_|refine z22 ?_ (hc:=by apply w1)|refine z22 ?_ (hc:=by apply w2)|refine z22 ?_ (hc:=by apply w3)|refine z22 ?_ (hc:=by apply w4)|refine z22 ?_ (hc:=by apply w5)|refine z22 ?_ (hc:=by apply w6)|refine z1 ?_|refine z3 ?_|(refine z23 ?_ ?_ <;> intro hg)|fail)
    all_goals try (exfalso;omega)
    refine dw_ent (ent_cellnil 2 0 5 rfl rfl rfl) ?_
    refine dw_ent (ent_cellnil 2 1 5 rfl rfl rfl) ?_
    refine dw_ent (ent_cellnil 3 0 5 rfl rfl rfl) ?_
    refine dw_ent (ent_cellnil 3 1 5 rfl rfl rfl) ?_
    repeat' (first|apply dw_ret|apply thenD_r)
    exact⟨.inl rfl,_,rfl,rfl,rfl⟩
  | some x =>
   cases p with
   | none =>
    dsimp only [toldV] at w5 w6
    repeat' (first|refine z0 ?_|apply ds_nil|refine z5 ?_|refine z6 ?_|refine z7 ?_|refine z11 ?_|apply dw_seq2|refine z16 ?_|refine z20 ?_|apply dw_block|apply dw_skip|apply dw_exit|refine z18 ?_|apply thenD_n|apply thenD_e|refine z17 ?_|refine z22 ?_ (hc:=by apply w1)|refine z22 ?_ (hc:=by apply w2)|refine z22 ?_ (hc:=by apply w3)|refine z22 ?_ (hc:=by apply w4)|refine z22 ?_ (hc:=by apply w5)|refine z22 ?_ (hc:=by apply w6)|refine z1 ?_|refine z3 ?_|(refine z23 ?_ ?_ <;> intro hg)|fail)
    all_goals try (exfalso;omega)
    refine dw_ent (ent_cellnil 2 0 5 rfl rfl rfl) ?_
    refine dw_ent (ent_cellnil 2 1 5 rfl rfl rfl) ?_
    refine dw_ent (ent_cellnil 3 0 5 rfl rfl rfl) ?_
    refine dw_ent (ent_cellnil 3 1 5 rfl rfl rfl) ?_
    repeat' (first|apply dw_ret|apply thenD_r)
    exact⟨.inl rfl,_,rfl,rfl,rfl⟩
   | some y =>
    dsimp only [toldV] at w5 w6
    repeat' (first|refine z0 ?_|apply ds_nil|refine z5 ?_|refine z6 ?_|refine z7 ?_|refine z10 ?_|refine z11 ?_|apply dw_seq2|refine z16 ?_|refine z20 ?_|apply dw_block|apply dw_skip|apply dw_exit|refine z19 ?_|apply thenD_n|apply thenD_e|refine z17 ?_|refine z22 ?_ (hc:=by apply w1)|refine z22 ?_ (hc:=by apply w2)|refine z22 ?_ (hc:=by apply w3)|refine z22 ?_ (hc:=by apply w4)|refine z22 ?_ (hc:=by apply w5)|refine z22 ?_ (hc:=by apply w6)|refine z1 ?_|refine z3 ?_|(refine z23 ?_ ?_ <;> intro hg)|fail)
    all_goals try (exfalso;omega)
    repeat' (apply dw_ret)
    exact⟨.inl rfl,_,rfl,rfl,rfl⟩
end Go.Proofs.Ytapciiffpnociaa
namespace Go.Proofs.Ytapciiffpnociaa
open Go Go.RowKit
theorem FnP.args {dr:Bool} {P:Program} {τ:List (Nat × TI)} {τok:TabOk P τ} {f:FuncId} {args args':List SV} {R:SV→Prop} (hc:FnP dr P τ τok f args R) (h:∀ X e w vs,RelL X e w args' vs→RelL X e w args vs):FnP dr P τ τok f args' R :=
 ⟨hc.1,fun O e w vs hH hr=>hc.2 O e w vs hH (h _ _ _ _ hr)⟩
theorem nil_rel {X e w} {es:Nat} {v:Value} (h:Rel X e w .nils v):Rel X e w (.d (.slice es [])) v:=by
 rw [show v = .slice none 0 0 from h]
 exact .nil
theorem agg2_rel {X e w} {p q:Nat} {v:Value} (h:Rel X e w (.agg [.nils,.nils]) v):Rel X e w (.agg [.d (.slice p []),.d (.slice q [])]) v:=by
 obtain⟨us,hv,hr⟩:=h
 match us,hr with
 | [a,b],⟨h1,h2,_⟩=>exact⟨[a,b],hv,nil_rel h1,nil_rel h2,trivial⟩
 | [],h=>exact h.elim
 | [_],⟨_,h⟩=>exact h.elim
 | _::_::_::_,⟨_,_,h⟩=>exact h.elim
attribute [local irreducible] DW DS DL DQ Ev FnOk FnP thenD inBlockD DT
set_option maxHeartbeats 8000000 in
theorem replicaIs_fn (r:Rpl) (e w:Int) (want:Rpl):Fn 48 [elRpl r,.d (.int .i64 e),.d (.int .i64 w),elRpl want] (fun res=>res = .d (.bool (decide (e=w) && (sameL Upd.same r.has (if w≠0 then ⟨[],[]⟩ else want).has && sameL Upd.same r.waits (if w≠0 then ⟨[],[]⟩ else want).waits)))):=by
 refine fnp_enter' _ Try.func48 rfl rfl (by kernel_rfl) ?_
 intro O w0 E0 β0
 have w1:=sameReplica_fn r want
 have w2:=sameReplica_fn r ⟨[],[]⟩
 by_cases hw:w=0
 ·rw [if_neg (by simp [hw])]
  clear w2
  by_cases he:e=w
  ·rw [decide_eq_true he,Bool.true_and]
   repeat' (first|refine z0 ?_|refine z12 ?_|apply ds_nil|apply dw_seq2|refine z16 ?_|apply dw_skip|apply dw_ret|apply thenD_n|refine z21 ?_ (hc:=by apply w1)|refine z1 ?_|refine z3 ?_|(refine z23 ?_ ?_ <;> intro hg)|((fail_if_success (apply ds_known;exact rfl));apply ds_guardP;exact rfl;exact rfl;exact rfl;all_goals intro hg))
   all_goals try (exfalso;omega)
   exact ret_b rfl rfl
  ·rw [decide_eq_false he,Bool.false_and]
   repeat' (first|refine z0 ?_|refine z12 ?_|apply ds_nil|apply dw_seq2|refine z16 ?_|apply dw_skip|apply dw_ret|apply thenD_n|refine z21 ?_ (hc:=by apply w1)|refine z1 ?_|refine z3 ?_|(refine z23 ?_ ?_ <;> intro hg)|((fail_if_success (apply ds_known;exact rfl));apply ds_guardP;exact rfl;exact rfl;exact rfl;all_goals intro hg))
   all_goals try (exfalso;omega)
   exact ret_b rfl rfl
 ·rw [if_pos hw]
  clear w1
  by_cases he:e=w
  ·rw [decide_eq_true he,Bool.true_and]
   repeat' ((fail_if_success (apply dw_stopS 3));(first|refine z0 ?_|apply ds_nil|apply dw_seq2|refine z16 ?_|apply dw_skip|apply thenD_n|refine z1 ?_|refine z3 ?_|(refine z23 ?_ ?_ <;> intro hg)|fail))
   all_goals try (exfalso;omega)
   refine dw_ent (ent_cellnil 1 0 5 rfl rfl rfl) ?_
   refine dw_ent (ent_cellnil 1 1 5 rfl rfl rfl) ?_
   repeat' (first|refine z0 ?_|refine z12 ?_|apply ds_nil|apply dw_seq2|refine z16 ?_|apply dw_ret|apply thenD_n|refine z21 ?_ (hc:=by apply w2)|((fail_if_success (apply ds_known;exact rfl));apply ds_guardP;exact rfl;exact rfl;exact rfl;all_goals intro hg))
   all_goals try (exfalso;omega)
   exact ret_b rfl rfl
  ·rw [decide_eq_false he,Bool.false_and]
   repeat' (first|refine z0 ?_|refine z12 ?_|apply ds_nil|apply dw_seq2|refine z16 ?_|apply dw_skip|apply dw_ret|apply thenD_n|refine z1 ?_|refine z3 ?_|(refine z23 ?_ ?_ <;> intro hg)|((fail_if_success (apply ds_known;exact rfl));apply ds_guardP;exact rfl;exact rfl;exact rfl;all_goals intro hg))
   all_goals try (exfalso;omega)
   exact ret_b rfl rfl

end Go.Proofs.Ytapciiffpnociaa
namespace Go.Proofs.Ytapciiffpnociaa
open Go Go.RowKit
abbrev bothA:Rpl:=⟨[firstU,secondU],[]⟩
theorem both_miss:missR bothA.has [⟨0,1⟩]=[secondU]:=by kernel_rfl
theorem both_round:roundE bothA ⟨[],[]⟩=0:=by kernel_rfl
theorem both_told:ToldIs bothA (missR [] (topI bothA)) (some bothA):=ToldOk.self (rpl2_ok.self)
theorem none_told:ToldIs ⟨[],[]⟩ (missR bothA.has (topI ⟨[],[]⟩)) (some bothA):=by
 have h:tellA (Rpl.both ⟨[],[]⟩) (missR bothA.has (topI ⟨[],[]⟩))=some [secondU,firstU]:=by kernel_rfl
 unfold ToldIs
 rw [h]
 refine⟨rpl2_ok.congr fun u=>?_,?_⟩
 ·simp only [List.mem_cons,List.not_mem_nil,or_false]
  exact or_comm
 ·exact List.nodup_cons.2 ⟨fun h=>absurd (congrArg (fun u:Upd=>u.id.author) (List.mem_singleton.1 h)) (by decide),List.pairwise_singleton _ _⟩
theorem FnP.agg2b {dr:Bool} {P:Program} {τ:List (Nat × TI)} {τok:TabOk P τ} {f:FuncId} {p q:Nat} {s:SV} {R:SV→Prop} (hc:FnP dr P τ τok f [s,.agg [.d (.slice p []),.d (.slice q [])]] R):FnP dr P τ τok f [s,.agg [.nils,.nils]] R :=
 hc.args fun _ _ _ vs h=>match vs,h with
  | _::_::_,⟨h1,h2,h3⟩=>⟨h1,agg2_rel h2,h3⟩
  | [_],⟨_,h⟩=>h.elim
  | [],h=>h.elim
attribute [local irreducible] DW DS DL DQ Ev FnOk FnP thenD inBlockD DT
set_option maxHeartbeats 8000000 in
theorem gossipBegun_fn:Fn 46 [] (fun r=>r = .d (.bool true)):=by
 refine fnp_enter' _ Try.func46 rfl rfl (by kernel_rfl) ?_
 intro O w0 E0 β0
 have w1:=gmissing_fn bothA [⟨0,1⟩] (by decide) (by decide)
 rw [if_pos ⟨check2_ok,by decide⟩,if_pos check2_ok,if_pos (by decide),both_miss] at w1
 have w2:=round_fn2 bothA ⟨[],[]⟩ (some bothA) (some bothA) (by decide) (by decide) (by decide) (by decide) (fun _=>both_told) (fun _=>none_told)
 rw [if_pos both_round] at w2
 have w2:=FnP.agg2b w2
 have w3:=sameUpdates_fn [secondU] [secondU]
 rw [sameL_refl Upd.same_refl] at w3
 have w4:=sameReplica_fn bothA bothA
 rw [sameL_refl Upd.same_refl,sameL_refl Upd.same_refl] at w4
 dsimp only [roundV] at w2
 repeat' ((fail_if_success (apply dw_stopS 2));(first|refine z0 ?_|apply ds_nil|apply dw_seq2|refine z16 ?_|apply thenD_n|refine z21 ?_ (hc:=by apply first_fn)|refine z21 ?_ (hc:=by apply second_fn)|refine z1 ?_|refine z3 ?_|refine z4 ?_|fail))
 refine dw_ent (ent_cellnil 0 1 5 rfl rfl rfl) ?_
 repeat' (first|refine z0 ?_|apply ds_nil|apply dw_seq2|refine z16 ?_|apply dw_ret|apply thenD_n|refine z21 ?_ (hc:=by apply second_fn)|refine z21 ?_ (hc:=by apply w1)|refine z21 ?_ (hc:=by apply w2)|refine z21 ?_ (hc:=by apply w3)|refine z21 ?_ (hc:=by apply w4)|refine z1 ?_|refine z3 ?_|refine z4 ?_|fail)
 exact ret_b rfl rfl
theorem tellOf_one {r:Rpl} {l:List Upd} {o:Option Rpl} (h:ToldIs r l o) (hok:RplOk r.both r) (h1:r.has.length + r.waits.length≤200) (hs:∀ v,v∈r.has∨v∈r.waits∨v∈l→v.parents.length + v.takes.length≤1000000) :
  Fn 44 [elRpl r,.d (.slice 5 (l.map encUpd))] (fun res=>res=toldV o) :=
 FnP.imp (tellOf_fn r l hok h1 hs) (by
  rintro _ ⟨o',h',rfl⟩
  rw [h'.unique h]
  cases o <;> rfl)
set_option maxHeartbeats 8000000 in
theorem gossipTells_fn (a b:Rpl) (heads:List UId) (h1:a.has.length≤4398046511104) (h2:a.waits.length≤4398046511104) (h3:b.has.length≤4398046511104) (h4:b.waits.length≤4398046511104) :
  Fn 11 [elRpl a,elRpl b,.d (.slice 2 (heads.map encId))] (fun res=>res = .d (.bool true)):=by
 refine fnp_enter' _ Try.func11 rfl rfl (by kernel_rfl) ?_
 intro O w0 E0 β0
 have li:(heads.map encId).length=heads.length:=List.length_map _
 refine dw_len_map (t:=2) rfl fun hib=>?_
 have w1:=gmissing_fn a heads h1 h2
 have w3:=rcheckR_fn a h1 h2
 have w4:=rcheckR_fn b h3 h4
 have hE:roundE a b=if checkR a≠0 then checkR a else if checkR b≠0 then checkR b else 0:=rfl
 have nn:=replicaIs_fn ⟨[],[]⟩
 have sn:=sameUpdates_fn [] []
 by_cases ca:checkR a=0
 ·obtain⟨la,ha,oka⟩:=checkR_ok ca
  have ka:∀ u,u∈a.has∨u∈a.waits→u.parents.length + u.takes.length≤1000000:=fun u hu=>by have:=checkU_small (ha u (List.mem_append.2 hu));omega
  have w6:=missingOf_fn a heads (by omega) oka.sh (fun u hu=>ka u (.inl hu))
  rw [ca,if_neg (by simp)] at hE
  rw [ca] at w3
  by_cases cb:checkR b=0
  ·obtain⟨lb,hb,okb⟩:=checkR_ok cb
   have kb:∀ u,u∈b.has∨u∈b.waits→u.parents.length + u.takes.length≤1000000:=fun u hu=>by have:=checkU_small (hb u (List.mem_append.2 hu));omega
   rw [cb,if_neg (by simp)] at hE
   rw [cb] at w4
   obtain⟨o,ho⟩:=told_ex oka (missR b.has (topI a))
   obtain⟨p,hp⟩:=told_ex okb (missR a.has (topI b))
   have w2:=round_fn2 a b o p h1 h2 h3 h4 (fun _=>ho) (fun _=>hp)
   rw [if_pos hE] at w2
   have w7:=headsAre_fn a (by omega)
   have w8:=headsAre_fn b (by omega)
   change Fn _ _ (fun res=>res = .d (.slice 2 ((topI a).map encId))) at w7
   change Fn _ _ (fun res=>res = .d (.slice 2 ((topI b).map encId))) at w8
   have w9:=missingOf_fn b (topI a) (by omega) okb.sh (fun u hu=>kb u (.inl hu))
   have w10:=missingOf_fn a (topI b) (by omega) oka.sh (fun u hu=>ka u (.inl hu))
   have w11:=tellOf_one ho oka la fun v hv=>by
    rcases hv with h|h|h
    ·exact ka v (.inl h)
    ·exact ka v (.inr h)
    ·exact kb v (.inl (List.mem_filter.1 h).1)
   have w12:=tellOf_one hp okb lb fun v hv=>by
    rcases hv with h|h|h
    ·exact kb v (.inl h)
    ·exact kb v (.inr h)
    ·exact ka v (.inl (List.mem_filter.1 h).1)
   clear hE ho hp
   obtain⟨ia,hia⟩:∃ x,x=topI a:=⟨_,rfl⟩
   obtain⟨ib,hib⟩:∃ x,x=topI b:=⟨_,rfl⟩
   obtain⟨ma,hma⟩:∃ x,x=missR b.has (topI a):=⟨_,rfl⟩
   obtain⟨mb,hmb⟩:∃ x,x=missR a.has (topI b):=⟨_,rfl⟩
   rw [← hma] at w9 w11
   rw [← hmb] at w10 w12
   rw [← hia] at w7 w9
   rw [← hib] at w8 w10
   clear hma hmb hia hib
   by_cases hh:heads.length≤200
   ·rw [if_pos ⟨ca,hh⟩,if_pos ca,if_pos hh] at w1
    have w15:=sameUpdates_fn (missR a.has heads) (missR a.has heads)
    rw [sameL_refl Upd.same_refl] at w15
    cases o with
    | none =>
     cases p with
     | none =>
      have w13:=nn 2 2 ⟨[],[]⟩
      have w14:=nn 2 2 ⟨[],[]⟩
      rw [if_pos (by decide),decide_eq_true rfl] at w13 w14
      dsimp only [roundV] at w2
      dsimp only [toldV] at w11 w12
      repeat' (first|refine z0 ?_|refine z12 ?_|apply ds_nil|refine z5 ?_|refine z6 ?_|refine z7 ?_|refine z10 ?_|refine z11 ?_|apply dw_seq2|refine z16 ?_|refine z20 ?_|apply dw_skip|apply dw_ret|refine z18 ?_|refine z19 ?_|apply thenD_n|refine z21 ?_ (hc:=by apply w1)|refine z21 ?_ (hc:=by apply w2)|refine z21 ?_ (hc:=by apply w3)|refine z21 ?_ (hc:=by apply w4)|refine z21 ?_ (hc:=by apply w6)|refine z22 ?_ (hc:=by apply w7)|refine z22 ?_ (hc:=by apply w8)|refine z22 ?_ (hc:=by apply w9)|refine z22 ?_ (hc:=by apply w10)|refine z22 ?_ (hc:=by apply w11)|refine z22 ?_ (hc:=by apply w12)|refine z21 ?_ (hc:=by apply w13)|refine z21 ?_ (hc:=by apply w15)|refine z21 ?_ (hc:=by apply gossipBegun_fn)|refine z1 ?_|refine z3 ?_|(refine z23 ?_ ?_ <;> intro hg)|fail)
      all_goals try (exfalso;omega)
      exact ret_b rfl rfl
     | some y =>
      have w13:=nn 2 2 ⟨[],[]⟩
      have w14:=nn 2 2 y
      rw [if_pos (by decide),decide_eq_true rfl] at w13 w14
      dsimp only [roundV] at w2
      dsimp only [toldV] at w11 w12
      repeat' (first|refine z0 ?_|refine z12 ?_|apply ds_nil|refine z5 ?_|refine z6 ?_|refine z7 ?_|refine z10 ?_|refine z11 ?_|apply dw_seq2|refine z16 ?_|refine z20 ?_|apply dw_skip|apply dw_ret|refine z18 ?_|refine z19 ?_|apply thenD_n|refine z21 ?_ (hc:=by apply w1)|refine z21 ?_ (hc:=by apply w2)|refine z21 ?_ (hc:=by apply w3)|refine z21 ?_ (hc:=by apply w4)|refine z21 ?_ (hc:=by apply w6)|refine z22 ?_ (hc:=by apply w7)|refine z22 ?_ (hc:=by apply w8)|refine z22 ?_ (hc:=by apply w9)|refine z22 ?_ (hc:=by apply w10)|refine z22 ?_ (hc:=by apply w11)|refine z22 ?_ (hc:=by apply w12)|refine z21 ?_ (hc:=by apply w13)|refine z21 ?_ (hc:=by apply w14)|refine z21 ?_ (hc:=by apply w15)|refine z21 ?_ (hc:=by apply gossipBegun_fn)|refine z1 ?_|refine z3 ?_|(refine z23 ?_ ?_ <;> intro hg)|fail)
      all_goals try (exfalso;omega)
      exact ret_b rfl rfl
    | some x =>
     cases p with
     | none =>
      have w13:=nn 2 2 x
      have w14:=nn 2 2 ⟨[],[]⟩
      rw [if_pos (by decide),decide_eq_true rfl] at w13 w14
      dsimp only [roundV] at w2
      dsimp only [toldV] at w11 w12
      repeat' (first|refine z0 ?_|refine z12 ?_|apply ds_nil|refine z5 ?_|refine z6 ?_|refine z7 ?_|refine z10 ?_|refine z11 ?_|apply dw_seq2|refine z16 ?_|refine z20 ?_|apply dw_skip|apply dw_ret|refine z18 ?_|refine z19 ?_|apply thenD_n|refine z21 ?_ (hc:=by apply w1)|refine z21 ?_ (hc:=by apply w2)|refine z21 ?_ (hc:=by apply w3)|refine z21 ?_ (hc:=by apply w4)|refine z21 ?_ (hc:=by apply w6)|refine z22 ?_ (hc:=by apply w7)|refine z22 ?_ (hc:=by apply w8)|refine z22 ?_ (hc:=by apply w9)|refine z22 ?_ (hc:=by apply w10)|refine z22 ?_ (hc:=by apply w11)|refine z22 ?_ (hc:=by apply w12)|refine z21 ?_ (hc:=by apply w13)|refine z21 ?_ (hc:=by apply w14)|refine z21 ?_ (hc:=by apply w15)|refine z21 ?_ (hc:=by apply gossipBegun_fn)|refine z1 ?_|refine z3 ?_|(refine z23 ?_ ?_ <;> intro hg)|fail)
      all_goals try (exfalso;omega)
      exact ret_b rfl rfl
     | some y =>
      have w13:=replicaIs_fn x 0 0 x
      have w14:=replicaIs_fn y 0 0 y
      rw [if_neg (by simp),decide_eq_true rfl,sameL_refl Upd.same_refl,sameL_refl Upd.same_refl] at w13 w14
      dsimp only [roundV] at w2
      dsimp only [toldV] at w11 w12
      repeat' (first|refine z0 ?_|refine z12 ?_|apply ds_nil|refine z5 ?_|refine z6 ?_|refine z7 ?_|refine z10 ?_|refine z11 ?_|apply dw_seq2|refine z16 ?_|refine z20 ?_|apply dw_skip|apply dw_ret|refine z18 ?_|refine z19 ?_|apply thenD_n|refine z21 ?_ (hc:=by apply w1)|refine z21 ?_ (hc:=by apply w2)|refine z21 ?_ (hc:=by apply w3)|refine z21 ?_ (hc:=by apply w4)|refine z21 ?_ (hc:=by apply w6)|refine z22 ?_ (hc:=by apply w7)|refine z22 ?_ (hc:=by apply w8)|refine z22 ?_ (hc:=by apply w9)|refine z22 ?_ (hc:=by apply w10)|refine z22 ?_ (hc:=by apply w11)|refine z22 ?_ (hc:=by apply w12)|refine z21 ?_ (hc:=by apply w13)|refine z21 ?_ (hc:=by apply w14)|refine z21 ?_ (hc:=by apply w15)|refine z21 ?_ (hc:=by apply gossipBegun_fn)|refine z1 ?_|refine z3 ?_|(refine z23 ?_ ?_ <;> intro hg)|fail)
      all_goals try (exfalso;omega)
      exact ret_b rfl rfl
   ·rw [if_neg (fun h=>hh h.2),if_pos ca,if_neg hh] at w1
    clear w6
    cases o with
    | none =>
     cases p with
     | none =>
      have w13:=nn 2 2 ⟨[],[]⟩
      have w14:=nn 2 2 ⟨[],[]⟩
      rw [if_pos (by decide),decide_eq_true rfl] at w13 w14
      dsimp only [roundV] at w2
      dsimp only [toldV] at w11 w12
      repeat' ((fail_if_success (apply dw_stopS 19));(first|refine z0 ?_|refine z12 ?_|apply ds_nil|refine z5 ?_|refine z6 ?_|refine z7 ?_|refine z10 ?_|refine z11 ?_|apply dw_seq2|refine z16 ?_|refine z20 ?_|apply dw_skip|refine z18 ?_|refine z19 ?_|apply thenD_n|refine z21 ?_ (hc:=by apply w1)|refine z21 ?_ (hc:=by apply w2)|refine z21 ?_ (hc:=by apply w3)|refine z21 ?_ (hc:=by apply w4)|refine z22 ?_ (hc:=by apply w7)|refine z22 ?_ (hc:=by apply w8)|refine z22 ?_ (hc:=by apply w9)|refine z22 ?_ (hc:=by apply w10)|refine z22 ?_ (hc:=by apply w11)|refine z22 ?_ (hc:=by apply w12)|refine z1 ?_|refine z3 ?_|(refine z23 ?_ ?_ <;> intro hg)|fail))
      all_goals try (exfalso;omega)
      refine dw_ent (ent_nild 14 5 rfl) ?_
      repeat' (first|refine z0 ?_|apply ds_nil|apply dw_seq2|refine z16 ?_|apply dw_ret|apply thenD_n|refine z21 ?_ (hc:=by apply w13)|refine z21 ?_ (hc:=by apply sn)|refine z21 ?_ (hc:=by apply gossipBegun_fn)|fail)
      all_goals try (exfalso;omega)
      exact ret_b rfl rfl
     | some y =>
      have w13:=nn 2 2 ⟨[],[]⟩
      have w14:=nn 2 2 y
      rw [if_pos (by decide),decide_eq_true rfl] at w13 w14
      dsimp only [roundV] at w2
      dsimp only [toldV] at w11 w12
      repeat' ((fail_if_success (apply dw_stopS 19));(first|refine z0 ?_|refine z12 ?_|apply ds_nil|refine z5 ?_|refine z6 ?_|refine z7 ?_|refine z10 ?_|refine z11 ?_|apply dw_seq2|refine z16 ?_|refine z20 ?_|apply dw_skip|refine z18 ?_|refine z19 ?_|apply thenD_n|refine z21 ?_ (hc:=by apply w1)|refine z21 ?_ (hc:=by apply w2)|refine z21 ?_ (hc:=by apply w3)|refine z21 ?_ (hc:=by apply w4)|refine z22 ?_ (hc:=by apply w7)|refine z22 ?_ (hc:=by apply w8)|refine z22 ?_ (hc:=by apply w9)|refine z22 ?_ (hc:=by apply w10)|refine z22 ?_ (hc:=by apply w11)|refine z22 ?_ (hc:=by apply w12)|refine z1 ?_|refine z3 ?_|(refine z23 ?_ ?_ <;> intro hg)|fail))
      all_goals try (exfalso;omega)
      refine dw_ent (ent_nild 14 5 rfl) ?_
      repeat' (first|refine z0 ?_|apply ds_nil|apply dw_seq2|refine z16 ?_|apply dw_ret|apply thenD_n|refine z21 ?_ (hc:=by apply w13)|refine z21 ?_ (hc:=by apply w14)|refine z21 ?_ (hc:=by apply sn)|refine z21 ?_ (hc:=by apply gossipBegun_fn)|fail)
      all_goals try (exfalso;omega)
      exact ret_b rfl rfl
    | some x =>
     cases p with
     | none =>
      have w13:=nn 2 2 x
      have w14:=nn 2 2 ⟨[],[]⟩
      rw [if_pos (by decide),decide_eq_true rfl] at w13 w14
      dsimp only [roundV] at w2
      dsimp only [toldV] at w11 w12
      repeat' ((fail_if_success (apply dw_stopS 19));(first|refine z0 ?_|apply ds_nil|refine z5 ?_|refine z6 ?_|refine z7 ?_|refine z10 ?_|refine z11 ?_|apply dw_seq2|refine z16 ?_|refine z20 ?_|apply dw_skip|refine z18 ?_|refine z19 ?_|apply thenD_n|refine z21 ?_ (hc:=by apply w1)|refine z21 ?_ (hc:=by apply w2)|refine z21 ?_ (hc:=by apply w3)|refine z21 ?_ (hc:=by apply w4)|refine z22 ?_ (hc:=by apply w7)|refine z22 ?_ (hc:=by apply w8)|refine z22 ?_ (hc:=by apply w9)|refine z22 ?_ (hc:=by apply w10)|refine z22 ?_ (hc:=by apply w11)|refine z22 ?_ (hc:=by apply w12)|refine z1 ?_|refine z3 ?_|(refine z23 ?_ ?_ <;> intro hg)|fail))
      all_goals try (exfalso;omega)
      refine dw_ent (ent_nild 14 5 rfl) ?_
      repeat' (first|refine z0 ?_|apply ds_nil|apply dw_seq2|refine z16 ?_|apply dw_ret|apply thenD_n|refine z21 ?_ (hc:=by apply w13)|refine z21 ?_ (hc:=by apply w14)|refine z21 ?_ (hc:=by apply sn)|refine z21 ?_ (hc:=by apply gossipBegun_fn)|fail)
      all_goals try (exfalso;omega)
      exact ret_b rfl rfl
     | some y =>
      have w13:=replicaIs_fn x 0 0 x
      have w14:=replicaIs_fn y 0 0 y
      rw [if_neg (by simp),decide_eq_true rfl,sameL_refl Upd.same_refl,sameL_refl Upd.same_refl] at w13 w14
      dsimp only [roundV] at w2
      dsimp only [toldV] at w11 w12
      repeat' ((fail_if_success (apply dw_stopS 19));(first|refine z0 ?_|apply ds_nil|refine z5 ?_|refine z6 ?_|refine z7 ?_|refine z10 ?_|refine z11 ?_|apply dw_seq2|refine z16 ?_|refine z20 ?_|apply dw_skip|refine z18 ?_|refine z19 ?_|apply thenD_n|refine z21 ?_ (hc:=by apply w1)|refine z21 ?_ (hc:=by apply w2)|refine z21 ?_ (hc:=by apply w3)|refine z21 ?_ (hc:=by apply w4)|refine z22 ?_ (hc:=by apply w7)|refine z22 ?_ (hc:=by apply w8)|refine z22 ?_ (hc:=by apply w9)|refine z22 ?_ (hc:=by apply w10)|refine z22 ?_ (hc:=by apply w11)|refine z22 ?_ (hc:=by apply w12)|refine z1 ?_|refine z3 ?_|(refine z23 ?_ ?_ <;> intro hg)|fail))
      all_goals try (exfalso;omega)
      refine dw_ent (ent_nild 14 5 rfl) ?_
      repeat' (first|refine z0 ?_|apply ds_nil|apply dw_seq2|refine z16 ?_|apply dw_ret|apply thenD_n|refine z21 ?_ (hc:=by apply w13)|refine z21 ?_ (hc:=by apply w14)|refine z21 ?_ (hc:=by apply sn)|refine z21 ?_ (hc:=by apply gossipBegun_fn)|fail)
      all_goals try (exfalso;omega)
      exact ret_b rfl rfl
  ·rw [if_pos cb] at hE
   have w2:=round_fn2 a b none none h1 h2 h3 h4 (fun h=>absurd (hE.symm.trans h) cb) (fun h=>absurd (hE.symm.trans h) cb)
   rw [if_neg (by rw [hE];exact cb),hE] at w2
   have w5:=nn (checkR b) (checkR b) ⟨[],[]⟩
   rw [if_pos cb,decide_eq_true rfl] at w5
   clear hE nn
   generalize checkR b=v at *
   by_cases hh:heads.length≤200
   ·rw [if_pos ⟨ca,hh⟩,if_pos ca,if_pos hh] at w1
    have w15:=sameUpdates_fn (missR a.has heads) (missR a.has heads)
    rw [sameL_refl Upd.same_refl] at w15
    repeat' ((fail_if_success (apply dw_stopS 19));(first|refine z0 ?_|apply ds_nil|refine z5 ?_|apply dw_seq2|refine z16 ?_|refine z20 ?_|apply dw_skip|refine z18 ?_|refine z19 ?_|apply thenD_n|refine z21 ?_ (hc:=by apply w1)|refine z21 ?_ (hc:=by apply w2)|refine z21 ?_ (hc:=by apply w3)|refine z21 ?_ (hc:=by apply w4)|refine z21 ?_ (hc:=by apply w6)|refine z1 ?_|refine z3 ?_|(refine z23 ?_ ?_ <;> intro hg)|fail))
    all_goals try (exfalso;omega)
    refine dw_ent (ent_cellnil 4 0 5 rfl rfl rfl) ?_
    refine dw_ent (ent_cellnil 4 1 5 rfl rfl rfl) ?_
    refine dw_ent (ent_cellnil 5 0 5 rfl rfl rfl) ?_
    refine dw_ent (ent_cellnil 5 1 5 rfl rfl rfl) ?_
    repeat' (first|refine z0 ?_|apply ds_nil|apply dw_seq2|refine z16 ?_|apply dw_ret|apply thenD_n|refine z21 ?_ (hc:=by apply w5)|refine z21 ?_ (hc:=by apply w15)|refine z21 ?_ (hc:=by apply gossipBegun_fn)|fail)
    all_goals try (exfalso;omega)
    exact ret_b rfl (by simp;rfl)
   ·rw [if_neg (fun h=>hh h.2),if_pos ca,if_neg hh] at w1
    repeat' ((fail_if_success (apply dw_stopS 19));(first|refine z0 ?_|apply ds_nil|refine z5 ?_|apply dw_seq2|refine z16 ?_|refine z20 ?_|apply dw_skip|refine z18 ?_|refine z19 ?_|apply thenD_n|refine z21 ?_ (hc:=by apply w1)|refine z21 ?_ (hc:=by apply w2)|refine z21 ?_ (hc:=by apply w3)|refine z21 ?_ (hc:=by apply w4)|refine z1 ?_|refine z3 ?_|(refine z23 ?_ ?_ <;> intro hg)|fail))
    all_goals try (exfalso;omega)
    refine dw_ent (ent_cellnil 4 0 5 rfl rfl rfl) ?_
    refine dw_ent (ent_cellnil 4 1 5 rfl rfl rfl) ?_
    refine dw_ent (ent_cellnil 5 0 5 rfl rfl rfl) ?_
    refine dw_ent (ent_cellnil 5 1 5 rfl rfl rfl) ?_
    refine dw_ent (ent_nild 14 5 rfl) ?_
    repeat' (first|refine z0 ?_|apply ds_nil|apply dw_seq2|refine z16 ?_|apply dw_ret|apply thenD_n|refine z21 ?_ (hc:=by apply w5)|refine z21 ?_ (hc:=by apply sn)|refine z21 ?_ (hc:=by apply gossipBegun_fn)|fail)
    all_goals try (exfalso;omega)
    exact ret_b rfl (by simp;rfl)
 ·rw [if_neg (fun h=>ca h.1),if_neg ca] at w1
  rw [if_pos ca] at hE
  have w2:=round_fn2 a b none none h1 h2 h3 h4 (fun h=>absurd (hE.symm.trans h) ca) (fun h=>absurd (hE.symm.trans h) ca)
  rw [if_neg (by rw [hE];exact ca),hE] at w2
  have w5:=nn (checkR a) (checkR a) ⟨[],[]⟩
  rw [if_pos ca,decide_eq_true rfl] at w5
  clear hE nn w4
  generalize checkR a=v at *
  repeat' ((fail_if_success (apply dw_stopS 19));(first|refine z0 ?_|refine z12 ?_|apply ds_nil|refine z5 ?_|apply dw_seq2|refine z16 ?_|refine z20 ?_|apply dw_skip|refine z19 ?_|apply thenD_n|refine z21 ?_ (hc:=by apply w1)|refine z21 ?_ (hc:=by apply w2)|refine z21 ?_ (hc:=by apply w3)|refine z1 ?_|refine z3 ?_|(refine z23 ?_ ?_ <;> intro hg)|((fail_if_success (apply ds_known;exact rfl));apply ds_guardP;exact rfl;exact rfl;exact rfl;all_goals intro hg)))
  all_goals try (exfalso;omega)
  refine dw_ent (ent_cellnil 4 0 5 rfl rfl rfl) ?_
  refine dw_ent (ent_cellnil 4 1 5 rfl rfl rfl) ?_
  refine dw_ent (ent_cellnil 5 0 5 rfl rfl rfl) ?_
  refine dw_ent (ent_cellnil 5 1 5 rfl rfl rfl) ?_
  refine dw_ent (ent_nild 14 5 rfl) ?_
  repeat' (first|refine z0 ?_|refine z12 ?_|apply ds_nil|apply dw_seq2|refine z16 ?_|apply dw_ret|apply thenD_n|refine z21 ?_ (hc:=by apply w5)|refine z21 ?_ (hc:=by apply sn)|refine z21 ?_ (hc:=by apply gossipBegun_fn)|((fail_if_success (apply ds_known;exact rfl));apply ds_guardP;exact rfl;exact rfl;exact rfl;all_goals intro hg))
  all_goals try (exfalso;omega)
  exact ret_b rfl (by simp;rfl)
theorem listOf {α:Type} {e:RT} {enc:α→List D} (h:∀ x,TyD e x→∃ t,x=enc t):∀ (l:List (List D)),(∀ x∈l,TyD e x)→∃ ts:List α,l=ts.map enc
 | [],_=>⟨[],rfl⟩
 | x::l,hl=>by
  obtain⟨t,rfl⟩:=h x (hl x (List.mem_cons_self ..))
  obtain⟨ts,rfl⟩:=listOf h l fun y hy=>hl y (List.mem_cons_of_mem _ hy)
  exact⟨t::ts,rfl⟩
theorem sliceOf {α:Type} {c b:Nat} {e:RT} {enc:α→List D} (h:∀ x,TyD e x→∃ t,x=enc t) (x:List D) (hx:TyD (.slice c b e) x):∃ ts:List α,x=[.slice c (ts.map enc)]:=by
 obtain⟨l,_,_,rfl,h3⟩:=hx
 obtain⟨ts,rfl⟩:=listOf h l h3
 exact⟨ts,rfl⟩
abbrev rtId:RT:=.struct [.int .i64,.int .i64]
abbrev rtFct:RT:=.struct [.int .i64,.slice 1 8 (.int .i64)]
abbrev rtUpd:RT:=.struct [rtId,.slice 2 16 rtId,.slice 2 32 rtFct,.slice 2 16 rtId]
theorem int_of (x:List D) (h:TyD (.int .i64) x):∃ n:Int,x=encI n:=by
 obtain⟨n,_,rfl⟩:=h
 exact⟨n,rfl⟩
theorem id_of (x:List D) (h:TyD rtId x):∃ t:UId,x=encId t:=by
 obtain⟨a,b,rfl,⟨k,_,rfl⟩,c,d,rfl,⟨p,_,rfl⟩,rfl⟩:=h
 exact⟨⟨k,p⟩,rfl⟩
theorem fct_of (x:List D) (h:TyD rtFct x):∃ t:Fct,x=encFct t:=by
 obtain⟨a,b,rfl,⟨k,_,rfl⟩,c,d,rfl,h2,rfl⟩:=h
 obtain⟨l,rfl⟩:=sliceOf int_of c h2
 exact⟨⟨k,l⟩,rfl⟩
theorem upd_of (x:List D) (h:TyD rtUpd x):∃ u:Upd,x=encUpd u:=by
 obtain⟨a,b,rfl,h1,c,d,rfl,h2,e,f,rfl,h3,g,h,rfl,h4,rfl⟩:=h
 obtain⟨i,rfl⟩:=id_of a h1
 obtain⟨l,rfl⟩:=sliceOf id_of c h2
 obtain⟨m,rfl⟩:=sliceOf fct_of e h3
 obtain⟨n,rfl⟩:=sliceOf id_of g h4
 exact⟨⟨i,l,m,n⟩,rfl⟩
abbrev rtUpds:RT:=.slice 5 88 rtUpd
abbrev rtRpl:RT:=.struct [rtUpds,rtUpds]
theorem sliceOfB {R:Nat} {α:Type} {c b:Nat} {e:RT} {enc:α→List D} (h:∀ x,TyDR R e x→∃ t,x=enc t) (x:List D) (hx:TyDR R (.slice c b e) x):∃ ts:List α,x=[.slice c (ts.map enc)]∧ts.length * b≤R:=by
 obtain⟨l,h1,_,rfl,h3⟩:=hx
 have key:∀ l:List (List D),(∀ x∈l,TyDR R e x)→∃ ts:List α,l=ts.map enc:=by
  intro l
  induction l with
  | nil=>exact fun _=>⟨[],rfl⟩
  | cons x l ih =>
   intro hl
   obtain⟨t,rfl⟩:=h x (hl x (List.mem_cons_self ..))
   obtain⟨ts,rfl⟩:=ih fun y hy=>hl y (List.mem_cons_of_mem _ hy)
   exact⟨t::ts,rfl⟩
 obtain⟨ts,rfl⟩:=key l h3
 exact⟨ts,rfl,by rw [← List.length_map (f:=enc)];exact h1⟩
theorem rpl_arg (x:List D) (h:TyD rtRpl x):∃ r:Rpl,RT.arg rtRpl x=elRpl r∧r.has.length≤4398046511104∧r.waits.length≤4398046511104:=by
 obtain⟨a,b,rfl,h1,c,d,rfl,h2,rfl⟩:=h
 obtain⟨l,rfl,hl⟩:=sliceOfB upd_of a h1
 obtain⟨m,rfl,hm⟩:=sliceOfB upd_of c h2
 exact⟨⟨l,m⟩,rfl,by unfold reachBytes at hl;dsimp only;omega,by unfold reachBytes at hm;dsimp only;omega⟩
theorem ids_argD (x:List D) (h:TyD (.slice 2 16 rtId) x):∃ l:List UId,RT.arg (.slice 2 16 rtId) x = .d (.slice 2 (l.map encId)):=by
 obtain⟨l,rfl,_⟩:=sliceOfB id_of x h
 exact⟨l,rfl⟩
end Go.Proofs.Ytapciiffpnociaa
