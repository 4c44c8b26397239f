/- Several texts in one: DagR DagS DagT DagU DagV GosA GosB DagW DagX GosP DagY GosC GosD GosE GosF GxArg DagZ DagM GosG GosH WirIn DagIn. Condition: none. -/
import Derived.Test.YtapciiffpnociaaH13
import Derived.Test.YtapciiffpnociaaH01
import Derived.Test.YtapciiffpnociaaH02
import Derived.Test.YtapciiffpnociaaH10
import Derived.Test.YtapciiffpnociaaH11
namespace Go.Proofs.Ytapciiffpnociaa
open Go Go.RowKit
attribute [local irreducible] DW DS DL DQ Ev FnOk FnP thenD inBlockD DT
set_option maxHeartbeats 8000000 in
theorem placeOf_fn (l:List Upd) (y:UId) (hl:l.length≤4398046511104):Fn 49 [.d (.slice 5 (l.map encUpd)),elId y] (fun r=>r = .d (.int .i64 (idxF (fun u=>u.id.same y) l))):=by
 refine fnp_enter' _ Try.func49 rfl rfl (by kernel_rfl) ?_
 intro O w0 E0 β0
 have ll:(l.map encUpd).length=l.length:=List.length_map _
 repeat' (first|refine z0 ?_|apply ds_nil|apply dw_seq2|refine z16 ?_|apply dw_block|apply thenD_n|refine z1 ?_|fail)
 refine ds_loop (ι:=Nat) (fun i=>⟨1,[(0,.d (.slice 5 (l.map encUpd))),(3,.loc 0 0),(5,.d (.int .i64 i))],[(0,.blk 36 [.d (.int .i64 y.author),.d (.int .i64 y.number)])]⟩)
  (fun i=>i≤l.length∧∀ j (hj:j < l.length),j < i→UId.same l[j].id y=false) (fun i=>l.length - i) 0 ⟨Nat.zero_le _,fun j _ h=>absurd h (Nat.not_lt_zero j)⟩
  (ent_ren id ⟨rfl,rfl,rfl,trivial⟩ ⟨rfl,trivial⟩ rfl rfl rfl rfl rfl rfl) ?_
 rintro i ⟨h1,h2⟩
 dsimp only at h1 h2 ⊢
 repeat' (first|refine z0 ?_|apply ds_nil|apply dw_seq2|refine z16 ?_|apply thenD_n)
 refine dw_condP rfl (fun h=>?_) (fun h=>?_)
 ·have hi:i < l.length:=by omega
  repeat' (first|refine z5 ?_|refine z10 ?_|apply dw_seq2|refine z20 ?_|apply dw_block|apply dw_skip|apply thenD_n)
  refine dw_cond rfl (fun hb=>?_) (fun hb=>?_)
  ·repeat' (first|refine z0 ?_|apply ds_nil|apply dw_seq2|refine z16 ?_|apply dw_ret|apply thenD_n|apply thenD_r|apply inB_r)
   exact ret_i rfl (idxF_hit (p:=fun u:Upd=>u.id.same y) h2 hi (same_beq2 hb)).symm
  ·repeat' (first|refine z0 ?_|apply ds_nil|refine z16 ?_|apply dw_skip|apply thenD_n|apply inB_n)
   exact⟨i + 1,⟨hi,none_step (p:=fun u:Upd=>u.id.same y) h2 hi (same_beq2 hb)⟩,ent_ren id ⟨rfl,rfl,rfl,trivial⟩ ⟨rfl,trivial⟩ rfl rfl rfl rfl rfl rfl,by omega⟩
 ·repeat' (first|refine z0 ?_|apply ds_nil|apply dw_seq2|refine z16 ?_|apply dw_exit|apply dw_ret|apply thenD_n|apply thenD_e|refine z17 ?_|fail)
  exact ret_i rfl (idxF_none (p:=fun u:Upd=>u.id.same y) fun j hj=>h2 j hj (by omega)).symm
set_option maxHeartbeats 8000000 in
theorem sameUpdates_fn (l m:List (Upd)):Fn 47 [.d (.slice 5 (l.map encUpd)),.d (.slice 5 (m.map encUpd))] (fun r=>r = .d (.bool (sameL Upd.same l m))):=by
 refine fnp_enter' _ Try.func47 rfl rfl (by kernel_rfl) ?_
 intro O w0 E0 β0
 refine dw_len_map (t:=0) rfl fun hb=>?_
 repeat' (first|refine z0 ?_|apply ds_nil|apply dw_seq2|refine z16 ?_|apply thenD_n)
 refine dw_condP rfl (fun h=>?_) (fun h=>?_)
 ·have hne:l.length≠m.length:=by rw [List.length_map,List.length_map] at h;omega
  repeat' (first|refine z0 ?_|apply ds_nil|apply dw_seq2|refine z16 ?_|apply dw_ret|apply thenD_n|apply thenD_r)
  exact ret_b rfl (sameL_len _ _ _ hne).symm
 ·have hlen:l.length=m.length:=by rw [List.length_map,List.length_map] at h;omega
  repeat' (first|refine z0 ?_|apply ds_nil|apply dw_seq2|refine z16 ?_|apply dw_block|apply dw_skip|apply thenD_n)
  refine ds_loop (ι:=Nat) (fun i=>⟨0,[(0,.d (.slice 5 (l.map encUpd))),(1,.d (.slice 5 (m.map encUpd))),(5,.d (.int .i64 i))],[]⟩)
   (fun i=>i≤l.length∧sameL Upd.same l m=sameL Upd.same (l.drop i) (m.drop i)) (fun i=>l.length - i) 0 ⟨Nat.zero_le _,rfl⟩
   (ent_ren id ⟨rfl,rfl,rfl,trivial⟩ trivial rfl rfl rfl rfl rfl rfl) ?_
  rintro i ⟨h1,h2⟩
  repeat' (first|refine z0 ?_|apply ds_nil|apply dw_seq2|refine z16 ?_|apply thenD_n)
  refine dw_condP rfl (fun h=>?_) (fun h=>?_)
  ·have hi:i < l.length:=by rw [List.length_map] at h;omega
   have hm:i < m.length:=by omega
   have hd:=sameL_drop Upd.same l m i hi hm
   repeat' (first|refine z5 ?_|refine z10 ?_|apply dw_seq2|refine z20 ?_|apply dw_block|apply dw_skip|apply thenD_n|refine z22 ?_ (hc:=by apply sameUpdate_fn)|fail)
   refine dw_cond rfl (fun hb=>?_) (fun hb=>?_)
   ·have hp:Upd.same l[i] m[i]=false:=by simpa using hb
    repeat' (first|refine z0 ?_|apply ds_nil|apply dw_seq2|refine z16 ?_|apply dw_ret|apply thenD_n|apply thenD_r|apply inB_r)
    exact ret_b rfl (by rw [h2,hd,hp];rfl)
   ·have hp:Upd.same l[i] m[i]=true:=by simpa using hb
    repeat' (first|refine z0 ?_|apply ds_nil|refine z16 ?_|apply dw_skip|apply thenD_n|apply inB_n)
    exact⟨i + 1,⟨hi,by rw [h2,hd,hp];rfl⟩,ent_ren id ⟨rfl,rfl,rfl,trivial⟩ trivial rfl rfl rfl rfl rfl rfl,by omega⟩
  ·repeat' (first|refine z0 ?_|apply ds_nil|apply dw_seq2|refine z16 ?_|apply dw_exit|apply dw_ret|apply thenD_n|apply thenD_e|refine z17 ?_|fail)
   exact ret_b rfl (by rw [h2,sameL_end _ _ _ _ (by rw [List.length_map] at h;omega) (by rw [List.length_map] at h;omega)])
set_option maxHeartbeats 8000000 in
theorem sameReplica_fn (a b:Rpl):Fn 50 [elRpl a,elRpl b] (fun r=>r = .d (.bool (sameL Upd.same a.has b.has && sameL Upd.same a.waits b.waits))):=by
 refine fnp_enter' _ Try.func50 rfl rfl (by kernel_rfl) ?_
 intro O w0 E0 β0
 have w1:=sameUpdates_fn a.has b.has
 have w2:=sameUpdates_fn a.waits b.waits
 cases hb:sameL Upd.same a.has b.has with
 | true =>
  rw [hb] at w1
  repeat' (first|refine z0 ?_|apply ds_nil|apply dw_seq2|refine z16 ?_|apply dw_ret|apply thenD_n|refine z21 ?_ (hc:=by apply w1)|refine z21 ?_ (hc:=by apply w2)|refine z1 ?_|fail)
  exact ret_b rfl rfl
 | false =>
  rw [hb] at w1
  repeat' (first|refine z0 ?_|refine z12 ?_|apply ds_nil|apply dw_seq2|refine z16 ?_|apply dw_ret|apply thenD_n|refine z21 ?_ (hc:=by apply w1)|refine z1 ?_|fail)
  exact ret_b rfl rfl
abbrev rplB (r:Rpl):HB:=.blk 73 [.d (.slice 5 (r.has.map encUpd)),.d (.slice 5 (r.waits.map encUpd))]

def markOf (has:List Upd) (F:List Bool) (j:UId):Bool:=match has.findIdx? fun u=>u.id.same j with
 | some n=>F.getD n false
 | none=>false
theorem findIdx_at {has:List Upd} (hs:StrU has) {i:Nat} (hi:i < has.length):has.findIdx? (fun u=>u.id.same (has[i]'hi).id)=some i:=by
 rw [List.findIdx?_eq_some_iff_getElem]
 refine⟨hi,same_iff.2 rfl,fun j hj=>?_⟩
 rw [same_iff]
 intro he
 have h1:=hs.uniq (List.getElem_mem (by omega)) (List.getElem_mem hi) he
 have:=(List.getElem_inj hs.nodup).1 h1
 omega
theorem markOf_at {has:List Upd} (hs:StrU has) (F:List Bool) {i:Nat} (hi:i < has.length):markOf has F (has[i]'hi).id=F.getD i false:=by unfold markOf;rw [findIdx_at hs hi]
def FreeOk (has:List Upd) (F:List Bool):Prop:=F.length=has.length∧∀ (i:Nat) (hi:i < has.length),F.getD i false=true→Der has (has[i]'hi).id
theorem FreeOk.mark {has:List Upd} {F:List Bool} (h:FreeOk has F) {j:UId} (hm:markOf has F j=true):Der has j:=by
 unfold markOf at hm
 split at hm
 ·rename_i n hf
  obtain⟨hn,hs,_⟩:=List.findIdx?_eq_some_iff_getElem.1 hf
  rw [← same_iff.1 hs]
  exact h.2 n hn hm
 ·cases hm
theorem FreeOk.set {has:List Upd} {F:List Bool} (h:FreeOk has F) {i:Nat} (hi:i < has.length) (ha:(underU (has[i]'hi)).all (markOf has F)=true):FreeOk has (F.set i true):=by
 refine⟨by rw [List.length_set];exact h.1,fun j hj hm=>?_⟩
 by_cases he:i=j
 ·subst he
  exact .mk _ (List.getElem_mem hi) fun k hk=>h.mark (List.all_eq_true.1 ha k hk)
 ·refine h.2 j hj ?_
  rw [List.getD,List.getElem?_set_ne he] at hm
  exact hm
def Closed (has:List Upd) (F:List Bool):Prop:=∀ (i:Nat) (hi:i < has.length),F.getD i false=false→(underU (has[i]'hi)).all (markOf has F)=false
theorem Closed.der {has:List Upd} (hs:StrU has) {F:List Bool} (h:Closed has F) {j:UId} (hd:Der has j):markOf has F j=true:=by
 induction hd with
 | mk u hu _ ih =>
  obtain⟨i,hi,rfl⟩:=List.mem_iff_getElem.1 hu
  rw [markOf_at hs F hi]
  cases hb:F.getD i false with
  | true=>rfl
  | false =>
   have:=h i hi hb
   rw [List.all_eq_true.2 ih] at this
   cases this

theorem markOf_set {has:List Upd} {F:List Bool} {n:Nat} {j:UId} (h:markOf has F j=true):markOf has (F.set n true) j=true:=by
 unfold markOf at h ⊢
 split at h
 ·rename_i p hp
  by_cases he:n=p
  ·subst he
   rw [List.getD,List.getElem?_set_self']
   rw [List.getD] at h
   cases hx:F[n]? with
   | none=>rw [hx] at h;cases h
   | some b=>rfl
  ·rw [List.getD,List.getElem?_set_ne he]
   rw [List.getD] at h
   exact h
 ·cases h
structure BehOk (has:List Upd) (ids bs:List UId) (F:List Bool):Prop where
 len:F.length=has.length
 sound:∀ (i:Nat) (hi:i < has.length),F.getD i false=true→Reach has ids (has[i]'hi).id
 base:∀ j∈bs,hasU has j=true→markOf has F j=true
theorem BehOk.set {has:List Upd} {ids bs:List UId} {F:List Bool} (h:BehOk has ids bs F) {n:Nat} (hn:n < has.length) (hr:Reach has ids (has[n]'hn).id):BehOk has ids bs (F.set n true):=by
 refine⟨by rw [List.length_set];exact h.len,fun i hi hm=>?_,fun j hj hh=>markOf_set (h.base j hj hh)⟩
 by_cases he:n=i
 ·subst he;exact hr
 ·rw [List.getD,List.getElem?_set_ne he] at hm
  exact h.sound i hi hm
def BehCl (has:List Upd) (F:List Bool) (i:Nat):Prop:=∀ (hi:i < has.length),F.getD i false=true→∀ j∈underU (has[i]'hi),hasU has j=true→markOf has F j=true
theorem BehOk.iff {has:List Upd} (hs:StrU has) {ids:List UId} {F:List Bool} (h:BehOk has ids ids F) (hc:∀ i,BehCl has F i) {i:Nat} (hi:i < has.length):F.getD i false=true↔Reach has ids (has[i]'hi).id:=by
 refine⟨h.sound i hi,fun hr=>?_⟩
 have key:∀ {j:UId},Reach has ids j→markOf has F j=true:=by
  intro j hr
  induction hr with
  | base k hk hh=>exact h.base k hk hh
  | step u hu _ k hk hh ih =>
   obtain⟨p,hp,rfl⟩:=List.mem_iff_getElem.1 hu
   rw [markOf_at hs F hp] at ih
   exact hc p hp ih k hk hh
 rw [← markOf_at hs F hi]
 exact key hr
theorem BehOk.is {has:List Upd} (hs:StrU has) {ids:List UId} {F:List Bool} (h:BehOk has ids ids F) (hc:∀ i,BehCl has F i):F=has.map fun u=>metB (behM has ids) u.id:=by
 refine List.ext_getElem (by rw [List.length_map];exact h.len) fun i h1 h2=>?_
 rw [List.getElem_map]
 have hi:i < has.length:=by rw [← h.len];exact h1
 have e:F.getD i false=F[i]:=by rw [List.getD,List.getElem?_eq_getElem h1];rfl
 rw [← e,Bool.eq_iff_iff,h.iff hs hc hi,behM_iff hs]
theorem BehOk.more {has:List Upd} {ids bs:List UId} {F:List Bool} (h:BehOk has ids bs F) {i:UId} (hi:hasU has i=true→markOf has F i=true):BehOk has ids (bs++[i]) F :=
 ⟨h.len,h.sound,fun j hj hh=>by
  rcases List.mem_append.1 hj with hj|hj
  ·exact h.base j hj hh
  ·rw [List.mem_singleton] at hj;subst hj;exact hi hh⟩
theorem hasU_at {l:List Upd} {i:UId} (h:hasU l i=true):∃ (n:Nat) (hn:n < l.length),idxF (fun u:Upd=>u.id.same i) l=n∧(l[n]'hn).id=i:=by
 rcases idxF_or (fun u:Upd=>u.id.same i) l with ⟨_,h2⟩|⟨n,hn,h1,h2⟩
 ·obtain⟨u,hu,he⟩:=hasU_iff.1 h
  have:=h2 u hu
  rw [← Bool.not_eq_true,same_iff] at this
  exact absurd he this
 ·exact⟨n,hn,h1,same_iff.1 h2⟩

theorem eraseIdx_at {α:Type} (a b:List α) (x:α):(a++x::b).eraseIdx a.length=a++b:=by
 rw [List.eraseIdx_append_of_length_le (Nat.le_refl _),Nat.sub_self,List.eraseIdx_cons_zero]
theorem RplGo.moveAt {A:List Upd} {h a b:List Upd} {x:Upd} (hg:RplGo A ⟨h,a++x::b⟩) (hr:readyU h x=true):RplGo A ⟨insU h x,a++b⟩:=by
 have hm:=hg.move (u:=x) (by simp) hr
 have hi:a.length < (a++x::b).length:=by rw [List.length_append,List.length_cons];omega
 have he:(a++x::b)[a.length]=x:=by rw [List.getElem_append_right (Nat.le_refl _)];simp
 have:=erase_filter hg.sw hi
 dsimp only at hm this
 rw [he] at this
 rw [← this,eraseIdx_at] at hm
 exact hm
theorem RplOk.nodup {A:List Upd} {r:Rpl} (h:RplOk A r):r.both.Nodup :=
 List.nodup_append.2 ⟨h.sh.nodup,h.sw.nodup,fun u hu v hv he=>h.apart u hu v hv (by rw [he])⟩
structure ToldOk (A:List Upd) (r:Rpl):Prop where
 ok:RplOk A r
 nodup:A.Nodup
theorem ToldOk.len {A:List Upd} {r:Rpl} (h:ToldOk A r):A.length=r.both.length :=
 ((List.perm_ext_iff_of_nodup h.nodup h.ok.nodup).2 fun u=>(h.ok.all u).trans List.mem_append.symm).length_eq
theorem ToldOk.has {A:List Upd} {r:Rpl} (h:ToldOk A r) (i:UId):hasU A i=hasU r.both i:=hasU_congr (fun u=>(h.ok.all u).trans List.mem_append.symm) i
theorem ToldOk.self {r:Rpl} (h:RplOk r.both r):ToldOk r.both r:=⟨h,h.nodup⟩
theorem ToldOk.step {A:List Upd} {r o:Rpl} (h:ToldOk A r) {u:Upd} (hu:hasU r.both u.id=false) (ho:RplOk (u::r.both) o):ToldOk (u::A) o:=by
 refine⟨ho.congr fun v=>?_,List.nodup_cons.2 ⟨fun hm=>?_,h.nodup⟩⟩
 ·rw [List.mem_cons,List.mem_cons,h.ok.all,List.mem_append]
 ·rw [← h.has,← Bool.not_eq_true,hasU_iff] at hu
  exact hu ⟨u,hm,rfl⟩
def ToldIs (r:Rpl) (l:List Upd) (o:Option Rpl):Prop :=
 match tellA r.both l,o with
 | none,none=>True
 | some A,some o=>ToldOk A o
 | _,_=>False
theorem ToldIs.unique {r:Rpl} {l:List Upd} {o p:Option Rpl} (h:ToldIs r l o) (g:ToldIs r l p):o=p:=by
 unfold ToldIs at h g
 revert h g
 cases tellA r.both l with
 | none=>cases o with
  | none=>cases p with
   | none=>exact fun _ _=>rfl
   | some p=>exact fun _ g=>g.elim
  | some o=>exact fun h=>h.elim
 | some A=>cases o with
  | none=>exact fun h=>h.elim
  | some o=>cases p with
   | none=>exact fun _ g=>g.elim
   | some p=>exact fun h g=>by rw [h.ok.unique g.ok]
theorem rpl0_ok:RplOk [] ⟨[],[]⟩:=⟨.nil,.nil,fun u=>by simp,fun u hu=>by simp at hu,fun u hu=>by simp at hu,fun u hu=>by simp at hu⟩
theorem second_waits:readyU [] secondU=false:=by kernel_rfl
theorem rpl1_ok:RplOk [secondU] ⟨[],[secondU]⟩:=by
 have g:RplGo [secondU] ⟨[],[secondU]⟩:=rpl0_ok.more (u:=secondU) rfl rfl
 exact g.done fun u hu=>by rw [List.mem_singleton.1 hu];exact second_waits
theorem rpl2_ok:RplOk [firstU,secondU] ⟨[firstU,secondU],[]⟩:=by
 have g1:RplGo [firstU,secondU] ⟨[],[firstU,secondU]⟩:=rpl1_ok.more (u:=firstU) (by kernel_rfl) (by kernel_rfl)
 have g2:RplGo [firstU,secondU] ⟨[firstU],[secondU]⟩:=g1.moveAt (a:=[]) (b:=[secondU]) (by kernel_rfl)
 have g3:RplGo [firstU,secondU] ⟨[firstU,secondU],[]⟩:=g2.moveAt (a:=[]) (b:=[]) (by kernel_rfl)
 exact g3.done fun u hu=>by simp at hu
theorem check2_ok:checkR ⟨[firstU,secondU],[]⟩=0:=by kernel_rfl
def missR (has:List Upd) (ids:List UId):List Upd:=has.filter fun u=>!metB (behM has ids) u.id
def missL (has:List Upd) (ids:List UId) (l:List Upd):List Upd:=l.filter fun u=>!metB (behM has ids) u.id
theorem missL_snoc (has l:List Upd) (ids:List UId) (x:Upd):missL has ids (l++[x])=missL has ids l++(match metB (behM has ids) x.id with|true=>[]|false=>[x]):=by
 unfold missL
 rw [List.filter_append,List.filter_cons]
 cases metB (behM has ids) x.id <;> rfl
theorem missL_len (has:List Upd) (ids:List UId) (l:List Upd):(missL has ids l).length≤l.length:=List.length_filter_le _ _
theorem tellA_step {A:List Upd} {l:List Upd} {i:Nat} (hi:i < l.length):tellA A (l.drop i)=if hasU A l[i].id then tellA A (l.drop (i + 1)) else if 200≤A.length then none else tellA (l[i]::A) (l.drop (i + 1)):=by
 rw [List.drop_eq_getElem_cons hi,tellA]
def OneM (m:List (MK × Int)):Prop:=∀ i:UId,(mapGet? m (keyI i)).getD 0=0∨(mapGet? m (keyI i)).getD 0=1
theorem OneM.set {m:List (MK × Int)} (h:OneM m) (i:UId):OneM (mapSet m (keyI i) 1):=fun j=>by
 rw [mapGet_set]
 split
 ·exact .inr rfl
 ·exact h j
theorem OneM.walk {has:List Upd}:∀ (n:Nat) {m:List (MK × Int)} (i:UId),OneM m→OneM (walkM has n m i)
 | 0,_,_,h=>h
 | n + 1,m,i,h=>by
  unfold walkM
  split
  ·exact h
  ·have key:∀ (l:List UId) (m:List (MK × Int)),OneM m→OneM (l.foldl (walkM has n) m):=by
    intro l
    induction l with
    | nil=>exact fun _ h=>h
    | cons j l ih=>exact fun m h=>ih _ (OneM.walk n j h)
   exact key _ _ (h.set i)
theorem behM_one (has:List Upd) (l:List UId):OneM (behM has l):=by
 have key:∀ (l:List UId) (m:List (MK × Int)),OneM m→OneM (l.foldl (walkM has (has.length + 1)) m):=by
  intro l
  induction l with
  | nil=>exact fun _ h=>h
  | cons j l ih=>exact fun m h=>ih _ (OneM.walk _ j h)
 exact key l [] fun _=>.inl rfl
theorem behM_zero (has:List Upd) (l:List UId) (i:UId):decide ((mapGet? (behM has l) (keyI i)).getD 0=0) = !metB (behM has l) i:=by
 unfold metB
 rcases behM_one has l i with h|h <;> rw [h] <;> rfl
set_option maxHeartbeats 8000000 in
theorem missing_fn (r:Rpl) (ids:List UId) (hl:r.has.length≤100000) (hid:ids.length≤1000000) (hs:StrU r.has) (hsh:∀ u∈r.has,ShortU u):Fn 115 [elRpl r,.d (.slice 2 (ids.map encId))] (fun res=>res = .d (.slice 5 ((missR r.has ids).map encUpd))):=by
 refine fnp_enter' _ Try.func115 rfl rfl (by kernel_rfl) ?_
 intro O w0 E0 β0
 have ll:(r.has.map encUpd).length=r.has.length:=List.length_map _
 have w1:=behind_fn r.has ids (by omega) hid hs (fun u hu=>by have:=hsh u hu;have:=this.parents;have:=(hsh u hu).takes;omega)
 repeat' (first|refine z0 ?_|apply ds_nil|apply dw_seq2|refine z16 ?_|apply dw_block|apply thenD_n|refine z21 ?_ (hc:=by apply w1)|refine z1 ?_|fail)
 refine dw_ent (ent_nilrow (t:=6) 40 5 rfl) ?_
 repeat' fail
 clear w1
 refine ds_loop (ι:=Nat) (fun i=>⟨1,[(5,.md false (behM r.has ids)),(6,.row 0),(14,.d (.slice 5 (r.has.map encUpd))),(15,.d (.int .i64 r.has.length)),(16,.d (.int .i64 i))],[(0,.row 40 5 ((missL r.has ids (r.has.take i)).map encUpd))]⟩)
  (fun i=>i≤r.has.length) (fun i=>r.has.length - i) 0 (Nat.zero_le _) (ent_ren (fun j=>match j with|0=>1|j=>j) ⟨rfl,rfl,rfl,by rw [← ll];rfl,rfl,trivial⟩ ⟨rfl,trivial⟩ rfl rfl rfl rfl rfl rfl) ?_
 intro i g1
 dsimp only at g1 ⊢
 have lo:((missL r.has ids (r.has.take i)).map encUpd).length≤i:=by
  rw [List.length_map]
  have:=missL_len r.has ids (r.has.take i)
  rw [List.length_take] at this
  omega
 by_cases hi:i < r.has.length
 ·have hst:=missL_snoc r.has (r.has.take i) ids r.has[i]
  rw [← List.take_succ_eq_append_getElem hi] at hst
  have hz:=behM_zero r.has ids r.has[i].id
  have hu:=hsh _ (List.getElem_mem hi)
  have w2:=wown_fn r.has[i] (Nat.le_trans hu.parents (by decide)) (Nat.le_trans hu.takes (by decide)) hu.says hu.args
  repeat' (first|refine z0 ?_|apply ds_nil|apply dw_seq2|refine z16 ?_|apply dw_block|apply dw_skip|apply dw_exit|apply thenD_n|apply thenD_e|refine z17 ?_|refine z1 ?_|refine z3 ?_|(refine z23 ?_ ?_ <;> intro hg)|fail)
  all_goals try (exfalso;omega)
  refine ds_lookup (kd:=false) (kvs:=behM r.has ids) (key:=keyI r.has[i].id) mapId_t ⟨rfl,rfl⟩ rfl rfl rfl rfl rfl ?_
  cases hb:metB (behM r.has ids) r.has[i].id with
  | true =>
   rw [hb] at hz hst
   have hz:=of_decide_eq_false hz
   dsimp only at hst
   rw [List.append_nil] at hst
   repeat' (first|refine z0 ?_|apply ds_nil|refine z16 ?_|apply dw_skip|apply thenD_n|apply inB_n|(refine z23 ?_ ?_ <;> intro hg)|fail)
   all_goals try (exfalso;first|omega|exact hz (by assumption))
   exact⟨i + 1,hi,ent_ren id ⟨rfl,rfl,rfl,rfl,rfl,trivial⟩ ⟨by rw [hst];rfl,trivial⟩ rfl rfl rfl rfl rfl rfl,by omega⟩
  | false =>
   rw [hb] at hz hst
   have hz:=of_decide_eq_true hz
   dsimp only at hst
   repeat' (first|refine z0 ?_|apply ds_nil|refine z16 ?_|apply dw_skip|apply thenD_n|apply inB_n|refine z21 ?_ (hc:=by apply w2)|refine z4 ?_|(refine z23 ?_ ?_ <;> intro hg)|fail)
   all_goals try (exfalso;first|omega|exact absurd hz (by assumption))
   refine ds_tradeC rfl ⟨by rw [List.length_singleton];omega,by unfold maxLen;rw [List.length_singleton];omega⟩ rfl rfl rfl rfl ?_
   repeat' (first|refine z0 ?_|apply ds_nil|refine z16 ?_|apply thenD_n|apply inB_n)
   exact⟨i + 1,hi,ent_ren (fun j=>match j with|0=>2|j=>j) ⟨rfl,rfl,rfl,rfl,rfl,trivial⟩ ⟨by rw [hst,List.map_append];rfl,trivial⟩ rfl rfl rfl rfl rfl rfl,by omega⟩
 ·rw [List.take_of_length_le (by omega:r.has.length≤i)]
  repeat' (first|refine z0 ?_|apply ds_nil|apply dw_seq2|refine z16 ?_|apply dw_block|apply dw_skip|apply dw_exit|apply thenD_n|apply thenD_e|refine z17 ?_|refine z1 ?_|refine z3 ?_|(refine z23 ?_ ?_ <;> intro hg)|fail)
  all_goals try (exfalso;omega)
  refine dw_ent (ent_seal 4 rfl rfl rfl) ?_
  repeat' (apply dw_ret)
  exact⟨.inl rfl,_,rfl,rfl,rfl⟩
def toldV (o:Option Rpl):SV:=match o with
 | some o=>.tup [elRpl o,.d (.bool true)]
 | none=>.tup [elRpl ⟨[],[]⟩,.d (.bool false)]
set_option maxHeartbeats 8000000 in
theorem told_fn (r:Rpl) (l:List Upd) (hok:RplOk r.both r) (h1:r.has.length + r.waits.length≤200) (hsh:∀ v,v∈r.has∨v∈r.waits∨v∈l→ShortU v) :
  Fn 116 [elRpl r,.d (.slice 5 (l.map encUpd))] (fun res=>∃ o,ToldIs r l o∧res=toldV o):=by
 refine fnp_enter' _ Try.func116 rfl rfl (by kernel_rfl) ?_
 intro O w0 E0 β0
 have ll:(l.map encUpd).length=l.length:=List.length_map _
 have hbl:∀ x:Rpl,x.both.length=x.has.length + x.waits.length:=fun x=>List.length_append
 refine dw_len_map (t:=1) rfl fun hlb=>?_
 have w1:=dOwn_fn r (by omega) (by omega) (fun v hv=>hsh v (.inl hv)) (fun v hv=>hsh v (.inr (.inl hv)))
 repeat' (first|refine z0 ?_|apply ds_nil|apply dw_seq2|refine z16 ?_|apply thenD_n|refine z1 ?_|fail)
 refine ds_callO id w1 rfl rfl rfl rfl trivial rfl rfl rfl rfl rfl rfl ?_ ?_
 ·rintro k2 res H2 ⟨rfl,rfl,rfl⟩;exact⟨rfl,rfl⟩
 rintro k2 res H2 ⟨rfl,rfl,rfl⟩
 change DS _ _ _ _ _ _ _ _
 repeat' (first|refine z0 ?_|apply ds_nil|apply dw_seq2|refine z16 ?_|apply dw_block|apply thenD_n|refine z1 ?_|refine z3 ?_|fail)
 refine ds_loop (ι:=Nat × List Upd × Rpl) (fun x=>⟨4,[(4,.loc 3 0),(6,.loc 0 0),(11,.d (.slice 5 (l.map encUpd))),(12,.d (.int .i64 l.length)),(13,.d (.int .i64 x.1))],[(0,.blk 73 [.row 1,.row 2]),(1,.row 40 5 (x.2.2.has.map encUpd)),(2,.row 40 5 (x.2.2.waits.map encUpd)),(3,.blk 73 [.nils,.nils])]⟩)
  (fun x=>x.1≤l.length∧ToldOk x.2.1 x.2.2∧tellA x.2.1 (l.drop x.1)=tellA r.both l∧x.2.1.length≤200∧∀ v∈x.2.1,ShortU v) (fun x=>l.length - x.1) (0,r.both,r)
  ⟨Nat.zero_le _,ToldOk.self hok,rfl,by rw [hbl];exact h1,fun v hv=>hsh v ((List.mem_append.1 hv).elim .inl fun h=>.inr (.inl h))⟩ (ent_ren (fun j=>match j with|0=>4|1=>2|2=>3|3=>1|j=>j) ⟨rfl,rfl,rfl,by rw [← ll];rfl,rfl,trivial⟩ ⟨rfl,rfl,rfl,rfl,trivial⟩ rfl rfl rfl rfl rfl rfl) ?_
 clear w1
 rintro⟨i,A,x⟩ ⟨g1,g2,g3,g4,g5⟩
 dsimp only at g1 g2 g3 g4 g5 ⊢
 have hlen:=g2.len
 have hxl:=hbl x
 by_cases hi:i < l.length
 ·rw [tellA_step hi] at g3
  have hh:=g2.has l[i].id
  have hap:=hasU_app x.has x.waits l[i].id
  have w4:=put2_fn x l[i] g2.ok.self (by omega) (by omega) (hsh _ (.inr (.inr (List.getElem_mem hi)))) (fun v hv=>g5 v ((g2.ok.all v).2 (.inl hv))) (fun v hv=>g5 v ((g2.ok.all v).2 (.inr hv)))
  repeat' (first|refine z0 ?_|apply ds_nil|apply dw_seq2|refine z16 ?_|apply dw_block|apply dw_skip|apply dw_exit|apply thenD_n|apply thenD_e|refine z17 ?_|refine z1 ?_|refine z3 ?_|(refine z23 ?_ ?_ <;> intro hg)|fail)
  all_goals try (exfalso;omega)
  refine ds_callO id w4 rfl rfl rfl rfl ⟨rfl,rfl,rfl,trivial⟩ rfl rfl rfl rfl rfl rfl ?_ ?_
  ·rintro k2 res H2 ⟨rfl,⟨_,rfl,rfl⟩|⟨_,_,_,rfl,rfl⟩|⟨_,_,_,o,_,rfl,rfl⟩⟩ <;> exact⟨rfl,rfl⟩
  rintro k2 res H2 ⟨rfl,⟨f1,rfl,rfl⟩|⟨f1,f2,f3,rfl,rfl⟩|⟨f1,f2,f3,o,f4,rfl,rfl⟩⟩
  all_goals change DS _ _ _ _ _ _ _ _
  ·rw [hh,hap,if_pos (by simpa using f1)] at g3
   repeat' (first|refine z0 ?_|apply ds_nil|refine z16 ?_|apply dw_skip|refine z19 ?_|apply thenD_n|apply inB_n)
   exact⟨(i + 1,A,x),⟨hi,g2,g3,g4,g5⟩,ent_ren (fun j=>match j with|1=>6|2=>7|j=>j) ⟨rfl,rfl,rfl,rfl,rfl,trivial⟩ ⟨rfl,rfl,rfl,rfl,trivial⟩ rfl rfl rfl rfl rfl rfl,by show l.length - (i + 1) < l.length - i;omega⟩
  ·rw [hh,hap,f1,f2,if_neg (by simp),if_pos (by omega)] at g3
   repeat' (first|refine z0 ?_|apply ds_nil|apply dw_seq2|refine z16 ?_|refine z18 ?_|apply thenD_n|refine z3 ?_|fail)
   refine dw_ent (ent_cellnil 3 0 5 rfl rfl rfl) ?_
   refine dw_ent (ent_cellnil 3 1 5 rfl rfl rfl) ?_
   repeat' (first|apply dw_ret|apply thenD_r|apply inB_r)
   exact⟨.inl rfl,_,rfl,rfl,none,by unfold ToldIs;rw [← g3];trivial,rfl⟩
  ·have f5:hasU x.both l[i].id=false:=by rw [hap,f1,f2];rfl
   rw [hh,f5,if_neg (by simp),if_neg (by omega)] at g3
   have hst:=g2.step f5 f4
   repeat' (first|refine z0 ?_|apply ds_nil|refine z16 ?_|apply dw_skip|refine z19 ?_|apply thenD_n|apply inB_n)
   exact⟨(i + 1,l[i]::A,o),⟨hi,hst,g3,by rw [List.length_cons];omega,fun v hv=>by
    rcases List.mem_cons.1 hv with rfl|hv
    ·exact hsh _ (.inr (.inr (List.getElem_mem hi)))
    ·exact g5 v hv⟩,ent_ren (fun j=>match j with|1=>6|2=>7|j=>j) ⟨rfl,rfl,rfl,rfl,rfl,trivial⟩ ⟨rfl,rfl,rfl,rfl,trivial⟩ rfl rfl rfl rfl rfl rfl,by show l.length - (i + 1) < l.length - i;omega⟩
 ·rw [List.drop_of_length_le (by omega)] at g3
  repeat' (first|refine z0 ?_|apply ds_nil|apply dw_seq2|refine z16 ?_|apply dw_block|apply dw_skip|apply dw_exit|apply thenD_n|apply thenD_e|refine z17 ?_|refine z1 ?_|refine z3 ?_|(refine z23 ?_ ?_ <;> intro hg)|fail)
  all_goals try (exfalso;omega)
  refine dw_ent (ent_cellseal 3 0 1 rfl rfl rfl rfl rfl) ?_
  refine dw_ent (ent_cellseal 3 1 2 rfl rfl rfl rfl rfl) ?_
  repeat' (apply dw_ret)
  exact⟨.inl rfl,_,rfl,rfl,some x,by unfold ToldIs;rw [← g3];exact g2,rfl⟩
def topI (r:Rpl):List UId:=(topsU r.has).map Upd.id
theorem topI_len (r:Rpl):(topI r).length≤r.has.length:=by
 unfold topI topsU topsL
 rw [List.length_map]
 exact List.length_filter_le _ _
theorem tellA_ex:∀ (l A:List Upd) (r:Rpl),ToldOk A r→∃ o:Option Rpl,match tellA A l,o with
  | none,none=>True
  | some A,some o=>ToldOk A o
  | _,_=>False
 | [],A,r,h=>⟨some r,by unfold tellA;exact h⟩
 | u::l,A,r,h=>by
  unfold tellA
  by_cases hu:hasU A u.id=true
  ·rw [if_pos hu]
   exact tellA_ex l A r h
  ·rw [if_neg hu]
   by_cases hf:200≤A.length
   ·rw [if_pos hf]
    exact⟨none,trivial⟩
   ·rw [if_neg hf]
    have hb:hasU r.both u.id=false:=by rw [← h.has];simpa using hu
    obtain⟨_,s,hs⟩:=h.ok.self.add hb
    exact tellA_ex l (u::A) s (h.step hb hs)
theorem told_ex {r:Rpl} (h:RplOk r.both r) (l:List Upd):∃ o,ToldIs r l o:=tellA_ex l r.both r (ToldOk.self h)
def roundE (a b:Rpl):Int:=firstL checkR [a,b]
theorem roundE_ok {a b:Rpl} (h:roundE a b=0):checkR a=0∧checkR b=0:=⟨firstL_none h a (by simp),firstL_none h b (by simp)⟩
abbrev encRpl (r:Rpl):List D:=[.slice 5 (r.has.map encUpd),.slice 5 (r.waits.map encUpd)]
def roundV (o p:Option Rpl):SV:=match o,p with
 | some x,some y=>.tup [elRpl x,elRpl y,.d (.int .i64 0)]
 | _,_=>.tup [elRpl ⟨[],[]⟩,elRpl ⟨[],[]⟩,.d (.int .i64 2)]
set_option maxHeartbeats 8000000 in
theorem gmissing_fn (r:Rpl) (ids:List UId) (h1:r.has.length≤4398046511104) (h2:r.waits.length≤4398046511104) :
  Fn 40 [elRpl r,.d (.slice 2 (ids.map encId))] (fun res=>res = .tup [.d (.slice 5 ((if checkR r=0∧ids.length≤200 then missR r.has ids else []).map encUpd)),.d (.int .i64 (if checkR r=0 then (if ids.length≤200 then 0 else 2) else checkR r))]):=by
 refine fnp_enter' _ Try.func40 rfl rfl (by kernel_rfl) ?_
 intro O w0 E0 β0
 have li:(ids.map encId).length=ids.length:=List.length_map _
 have w1:=dcheck_fn r h1 h2
 refine dw_len_map (t:=1) rfl fun hib=>?_
 by_cases hr:checkR r=0
 ·obtain⟨hlen,hall,hok⟩:=checkR_ok hr
  rw [if_pos hr]
  rw [hr] at w1
  by_cases hi:ids.length≤200
  ·rw [if_pos ⟨hr,hi⟩,if_pos hi]
   have w2:=missing_fn r ids (by omega) (by omega) hok.sh (fun u hu=>short_of (hall u (List.mem_append_left _ hu)))
   repeat' (first|refine z0 ?_|apply ds_nil|apply dw_seq2|refine z16 ?_|apply dw_skip|apply dw_ret|refine z19 ?_|apply thenD_n|apply thenD_r|refine z21 ?_ (hc:=by apply w1)|refine z21 ?_ (hc:=by apply w2)|refine z1 ?_|(refine z23 ?_ ?_ <;> intro hg)|fail)
   all_goals try (exfalso;omega)
   exact⟨.inl rfl,_,rfl,rfl,rfl⟩
  ·rw [if_neg (fun h=>hi h.2),if_neg hi]
   repeat' (first|refine z0 ?_|apply ds_nil|apply dw_seq2|refine z16 ?_|apply dw_skip|refine z19 ?_|apply thenD_n|refine z21 ?_ (hc:=by apply w1)|refine z1 ?_|(refine z23 ?_ ?_ <;> intro hg)|fail)
   all_goals try (exfalso;omega)
   refine dw_ent (ent_nild 4 5 rfl) ?_
   repeat' (first|apply dw_ret|apply thenD_r)
   exact⟨.inl rfl,_,rfl,rfl,rfl⟩
 ·rw [if_neg (fun h=>hr h.1),if_neg hr]
  repeat' (first|refine z0 ?_|apply ds_nil|apply dw_seq2|refine z16 ?_|apply dw_skip|apply thenD_n|refine z21 ?_ (hc:=by apply w1)|refine z1 ?_|(refine z23 ?_ ?_ <;> intro hg)|fail)
  all_goals try (exfalso;omega)
  refine dw_ent (ent_nild 4 5 rfl) ?_
  repeat' (first|apply dw_ret|apply thenD_r)
  exact⟨.inl rfl,_,rfl,rfl,rfl⟩
set_option maxHeartbeats 8000000 in
theorem round_fn2 (a b:Rpl) (o p:Option Rpl) (h1:a.has.length≤4398046511104) (h2:a.waits.length≤4398046511104) (h3:b.has.length≤4398046511104) (h4:b.waits.length≤4398046511104)
  (ho:roundE a b=0→ToldIs a (missR b.has (topI a)) o) (hp:roundE a b=0→ToldIs b (missR a.has (topI b)) p) :
  Fn 41 [elRpl a,elRpl b] (fun res=>res=if roundE a b=0 then roundV o p else .tup [elRpl ⟨[],[]⟩,elRpl ⟨[],[]⟩,.d (.int .i64 (roundE a b))]):=by
 refine fnp_enter' _ Try.func41 rfl rfl (by kernel_rfl) ?_
 intro O w0 E0 β0
 repeat' (first|refine z0 ?_|apply ds_nil|apply dw_seq2|refine z16 ?_|apply dw_block|apply thenD_n|refine z1 ?_|refine z4 ?_|fail)
 obtain⟨rs,hrs⟩:∃ rs,rs=[a,b]:=⟨_,rfl⟩
 have hlen:rs.length=2:=by rw [hrs];rfl
 have hbd:∀ r∈rs,r.has.length≤4398046511104∧r.waits.length≤4398046511104:=by
  rw [hrs]
  intro r hr
  rcases List.mem_cons.1 hr with e|e
  ·rw [e];exact⟨h1,h2⟩
  ·rw [List.mem_singleton.1 e];exact⟨h3,h4⟩
 have hE:roundE a b=firstL checkR rs:=by rw [hrs];rfl
 refine ds_loop (ι:=Nat) (fun i=>⟨4,[(2,.loc 0 0),(3,.loc 1 0),(4,.loc 2 0),(5,.loc 3 0),(16,.d (.slice 2 (rs.map encRpl))),(17,.d (.int .i64 rs.length)),(18,.d (.int .i64 i))],[(0,rplB a),(1,rplB b),(2,.blk 73 [.nils,.nils]),(3,.blk 73 [.nils,.nils])]⟩)
  (fun i=>i≤rs.length∧roundE a b=firstL checkR (rs.drop i)) (fun i=>rs.length - i) 0 ⟨Nat.zero_le _,hE⟩ (ent_ren id ⟨rfl,rfl,rfl,rfl,by rw [hrs];rfl,by rw [hrs];rfl,rfl,trivial⟩ ⟨rfl,rfl,rfl,rfl,trivial⟩ rfl rfl rfl rfl rfl rfl) ?_
 rintro i ⟨g1,g2⟩
 dsimp only at g1 g2 ⊢
 have lr:(rs.map encRpl).length=rs.length:=List.length_map _
 by_cases hi:i < rs.length
 ·rw [firstL_step hi] at g2
  obtain⟨q1,q2⟩:=hbd _ (List.getElem_mem hi)
  have w:=dcheck_fn rs[i] q1 q2
  by_cases hc:checkR rs[i]≠0
  ·rw [if_pos hc] at g2
   rw [if_neg (by rw [g2];exact hc)]
   rw [← g2] at w hc
   repeat' (first|refine z0 ?_|apply ds_nil|refine z5 ?_|apply dw_seq2|refine z16 ?_|refine z20 ?_|apply dw_block|apply dw_skip|apply dw_exit|apply thenD_n|apply thenD_e|apply inB_n|refine z17 ?_|refine z21 ?_ (hc:=by apply w)|refine z1 ?_|refine z3 ?_|(refine z23 ?_ ?_ <;> intro hg)|fail)
   all_goals try (exfalso;omega)
   refine dw_ent (ent_cellnil 2 0 5 rfl rfl rfl) ?_
   refine dw_ent (ent_cellnil 2 1 5 rfl rfl rfl) ?_
   refine dw_ent (ent_cellnil 3 0 5 rfl rfl rfl) ?_
   refine dw_ent (ent_cellnil 3 1 5 rfl rfl rfl) ?_
   repeat' (first|apply dw_ret|apply thenD_r|apply inB_r)
   exact⟨.inl rfl,_,rfl,rfl,rfl⟩
  ·rw [if_neg hc] at g2
   have hc2:checkR rs[i]=0:=Decidable.not_not.1 hc
   rw [hc2] at w
   repeat' (first|refine z0 ?_|apply ds_nil|refine z5 ?_|apply dw_seq2|refine z16 ?_|refine z20 ?_|apply dw_block|apply dw_skip|apply dw_exit|refine z19 ?_|apply thenD_n|apply thenD_e|apply inB_n|refine z17 ?_|refine z21 ?_ (hc:=by apply w)|refine z1 ?_|refine z3 ?_|(refine z23 ?_ ?_ <;> intro hg)|fail)
   all_goals try (exfalso;omega)
   exact⟨i + 1,⟨hi,g2⟩,ent_ren id ⟨rfl,rfl,rfl,rfl,rfl,rfl,rfl,trivial⟩ ⟨rfl,rfl,rfl,rfl,trivial⟩ rfl rfl rfl rfl rfl rfl,by omega⟩
 ·rw [firstL_end (by omega)] at g2
  obtain⟨ca,cb⟩:=roundE_ok g2
  rw [if_pos g2]
  obtain⟨la,ha,oka⟩:=checkR_ok ca
  obtain⟨lb,hb,okb⟩:=checkR_ok cb
  have sa:∀ u,u∈a.has∨u∈a.waits→ShortU u:=fun u hu=>short_of (ha u (List.mem_append.2 hu))
  have sb:∀ u,u∈b.has∨u∈b.waits→ShortU u:=fun u hu=>short_of (hb u (List.mem_append.2 hu))
  have fa:=flat_len Upd.parents 6 a.has fun u hu=>(checkU_small (ha u (List.mem_append_left _ hu))).1
  have fb:=flat_len Upd.parents 6 b.has fun u hu=>(checkU_small (hb u (List.mem_append_left _ hu))).1
  have ta:=topI_len a
  have tb:=topI_len b
  have w1:=tops_fn a (by omega) (by omega)
  have w2:=tops_fn b (by omega) (by omega)
  change Fn _ _ (fun res=>res = .d (.slice 2 ((topI a).map encId))) at w1
  change Fn _ _ (fun res=>res = .d (.slice 2 ((topI b).map encId))) at w2
  have w3:=missing_fn b (topI a) (by omega) (by omega) okb.sh (fun u hu=>sb u (.inl hu))
  have w4:=missing_fn a (topI b) (by omega) (by omega) oka.sh (fun u hu=>sa u (.inl hu))
  have w5:Fn 116 [elRpl a,.d (.slice 5 ((missR b.has (topI a)).map encUpd))] (fun res=>res=toldV o) :=
   FnP.imp (told_fn a (missR b.has (topI a)) oka la fun v hv=>by
    rcases hv with h|h|h
    ·exact sa v (.inl h)
    ·exact sa v (.inr h)
    ·exact sb v (.inl (List.mem_filter.1 h).1)) (by
    rintro _ ⟨o',h,rfl⟩
    rw [h.unique (ho g2)])
  have w6:Fn 116 [elRpl b,.d (.slice 5 ((missR a.has (topI b)).map encUpd))] (fun res=>res=toldV p) :=
   FnP.imp (told_fn b (missR a.has (topI b)) okb lb fun v hv=>by
    rcases hv with h|h|h
    ·exact sb v (.inl h)
    ·exact sb v (.inr h)
    ·exact sa v (.inl (List.mem_filter.1 h).1)) (by
    rintro _ ⟨o',h,rfl⟩
    rw [h.unique (hp g2)])
  clear ho hp hbd
  obtain⟨ia,hia⟩:∃ x,x=topI a:=⟨_,rfl⟩
  obtain⟨ib,hib⟩:∃ x,x=topI b:=⟨_,rfl⟩
  obtain⟨ma,hma⟩:∃ x,x=missR b.has (topI a):=⟨_,rfl⟩
  obtain⟨mb,hmb⟩:∃ x,x=missR a.has (topI b):=⟨_,rfl⟩
  rw [← hma] at w3 w5
  rw [← hmb] at w4 w6
  rw [← hia] at w1 w3
  rw [← hib] at w2 w4
  clear hma hmb hia hib
  cases o with
  | none =>
   cases p with
   | none =>
    dsimp only [toldV] at w5 w6
    repeat' (first|refine z0 ?_|refine z12 ?_|apply ds_nil|refine z5 ?_|refine z6 ?_|refine z7 ?_|refine z11 ?_|apply dw_seq2|refine z16 ?_|refine z20 ?_|apply dw_block|apply dw_skip|apply dw_exit|refine z18 ?_|apply thenD_n|apply thenD_e|refine z17 ?_|refine z22 ?_ (hc:=by apply w1)|refine z22 ?_ (hc:=by apply w2)|refine z22 ?_ (hc:=by apply w3)|refine z22 ?_ (hc:=by apply w4)|refine z22 ?_ (hc:=by apply w5)|refine z22 ?_ (hc:=by apply w6)|refine z1 ?_|refine z3 ?_|(refine z23 ?_ ?_ <;> intro hg)|fail)
    all_goals try (exfalso;omega)
    refine dw_ent (ent_cellnil 2 0 5 rfl rfl rfl) ?_
    refine dw_ent (ent_cellnil 2 1 5 rfl rfl rfl) ?_
    refine dw_ent (ent_cellnil 3 0 5 rfl rfl rfl) ?_
    refine dw_ent (ent_cellnil 3 1 5 rfl rfl rfl) ?_
    repeat' (first|apply dw_ret|apply thenD_r)
    exact⟨.inl rfl,_,rfl,rfl,rfl⟩
   | some y =>
    dsimp only [toldV] at w5 w6
    repeat' (first|refine z0 ?_|refine z12 ?_|apply ds_nil|refine z5 ?_|refine z6 ?_|refine z7 ?_|refine z11 ?_|apply dw_seq2|refine z16 ?_|refine z20 ?_|apply dw_block|apply dw_skip|apply dw_exit|refine z18 ?_|apply thenD_n|apply thenD_e|refine z17 ?_|refine z22 ?_ (hc:=by apply w1)|refine z22 ?_ (hc:=by apply w2)|refine z22 ?_ (hc:=by apply w3)|refine z22 ?_ (hc:=by apply w4)|refine z22 ?_ (hc:=by apply w5)|refine z22 ?_ (hc:=by apply w6)|refine z1 ?_|refine z3 ?_|(refine z23 ?_ ?_ <;> intro hg)|fail)
    all_goals try (exfalso;omega)
    refine dw_ent (ent_cellnil 2 0 5 rfl rfl rfl) ?_
    refine dw_ent (ent_cellnil 2 1 5 rfl rfl rfl) ?_
    refine dw_ent (ent_cellnil 3 0 5 rfl rfl rfl) ?_
    refine dw_ent (ent_cellnil 3 1 5 rfl rfl rfl) ?_
    repeat' (first|apply dw_ret|apply thenD_r)
    exact⟨.inl rfl,_,rfl,rfl,rfl⟩
  | some x =>
   cases p with
   | none =>
    dsimp only [toldV] at w5 w6
    repeat' (first|refine z0 ?_|apply ds_nil|refine z5 ?_|refine z6 ?_|refine z7 ?_|refine z11 ?_|apply dw_seq2|refine z16 ?_|refine z20 ?_|apply dw_block|apply dw_skip|apply dw_exit|refine z18 ?_|apply thenD_n|apply thenD_e|refine z17 ?_|refine z22 ?_ (hc:=by apply w1)|refine z22 ?_ (hc:=by apply w2)|refine z22 ?_ (hc:=by apply w3)|refine z22 ?_ (hc:=by apply w4)|refine z22 ?_ (hc:=by apply w5)|refine z22 ?_ (hc:=by apply w6)|refine z1 ?_|refine z3 ?_|(refine z23 ?_ ?_ <;> intro hg)|fail)
    all_goals try (exfalso;omega)
    refine dw_ent (ent_cellnil 2 0 5 rfl rfl rfl) ?_
    refine dw_ent (ent_cellnil 2 1 5 rfl rfl rfl) ?_
    refine dw_ent (ent_cellnil 3 0 5 rfl rfl rfl) ?_
    refine dw_ent (ent_cellnil 3 1 5 rfl rfl rfl) ?_
    repeat' (first|apply dw_ret|apply thenD_r)
    exact⟨.inl rfl,_,rfl,rfl,rfl⟩
   | some y =>
    dsimp only [toldV] at w5 w6
    repeat' (first|refine z0 ?_|apply ds_nil|refine z5 ?_|refine z6 ?_|refine z7 ?_|refine z10 ?_|refine z11 ?_|apply dw_seq2|refine z16 ?_|refine z20 ?_|apply dw_block|apply dw_skip|apply dw_exit|refine z19 ?_|apply thenD_n|apply thenD_e|refine z17 ?_|refine z22 ?_ (hc:=by apply w1)|refine z22 ?_ (hc:=by apply w2)|refine z22 ?_ (hc:=by apply w3)|refine z22 ?_ (hc:=by apply w4)|refine z22 ?_ (hc:=by apply w5)|refine z22 ?_ (hc:=by apply w6)|refine z1 ?_|refine z3 ?_|(refine z23 ?_ ?_ <;> intro hg)|fail)
    all_goals try (exfalso;omega)
    repeat' (apply dw_ret)
    exact⟨.inl rfl,_,rfl,rfl,rfl⟩
end Go.Proofs.Ytapciiffpnociaa
namespace Go.Proofs.Ytapciiffpnociaa
open Go Go.RowKit
theorem FnP.args {dr:Bool} {P:Program} {τ:List (Nat × TI)} {τok:TabOk P τ} {f:FuncId} {args args':List SV} {R:SV→Prop} (hc:FnP dr P τ τok f args R) (h:∀ X e w vs,RelL X e w args' vs→RelL X e w args vs):FnP dr P τ τok f args' R :=
 ⟨hc.1,fun O e w vs hH hr=>hc.2 O e w vs hH (h _ _ _ _ hr)⟩
theorem nil_rel {X e w} {es:Nat} {v:Value} (h:Rel X e w .nils v):Rel X e w (.d (.slice es [])) v:=by
 rw [show v = .slice none 0 0 from h]
 exact .nil
theorem agg2_rel {X e w} {p q:Nat} {v:Value} (h:Rel X e w (.agg [.nils,.nils]) v):Rel X e w (.agg [.d (.slice p []),.d (.slice q [])]) v:=by
 obtain⟨us,hv,hr⟩:=h
 match us,hr with
 | [a,b],⟨h1,h2,_⟩=>exact⟨[a,b],hv,nil_rel h1,nil_rel h2,trivial⟩
 | [],h=>exact h.elim
 | [_],⟨_,h⟩=>exact h.elim
 | _::_::_::_,⟨_,_,h⟩=>exact h.elim
attribute [local irreducible] DW DS DL DQ Ev FnOk FnP thenD inBlockD DT

end Go.Proofs.Ytapciiffpnociaa
namespace Go.Proofs.Ytapciiffpnociaa
open Go Go.RowKit
abbrev bothA:Rpl:=⟨[firstU,secondU],[]⟩
theorem both_miss:missR bothA.has [⟨0,1⟩]=[secondU]:=by kernel_rfl
theorem both_round:roundE bothA ⟨[],[]⟩=0:=by kernel_rfl
theorem both_told:ToldIs bothA (missR [] (topI bothA)) (some bothA):=ToldOk.self (rpl2_ok.self)
theorem none_told:ToldIs ⟨[],[]⟩ (missR bothA.has (topI ⟨[],[]⟩)) (some bothA):=by
 have h:tellA (Rpl.both ⟨[],[]⟩) (missR bothA.has (topI ⟨[],[]⟩))=some [secondU,firstU]:=by kernel_rfl
 unfold ToldIs
 rw [h]
 refine⟨rpl2_ok.congr fun u=>?_,?_⟩
 ·simp only [List.mem_cons,List.not_mem_nil,or_false]
  exact or_comm
 ·exact List.nodup_cons.2 ⟨fun h=>absurd (congrArg (fun u:Upd=>u.id.author) (List.mem_singleton.1 h)) (by decide),List.pairwise_singleton _ _⟩
theorem FnP.agg2b {dr:Bool} {P:Program} {τ:List (Nat × TI)} {τok:TabOk P τ} {f:FuncId} {p q:Nat} {s:SV} {R:SV→Prop} (hc:FnP dr P τ τok f [s,.agg [.d (.slice p []),.d (.slice q [])]] R):FnP dr P τ τok f [s,.agg [.nils,.nils]] R :=
 hc.args fun _ _ _ vs h=>match vs,h with
  | _::_::_,⟨h1,h2,h3⟩=>⟨h1,agg2_rel h2,h3⟩
  | [_],⟨_,h⟩=>h.elim
  | [],h=>h.elim
attribute [local irreducible] DW DS DL DQ Ev FnOk FnP thenD inBlockD DT
set_option maxHeartbeats 8000000 in
theorem gossipBegun_fn:Fn 46 [] (fun r=>r = .d (.bool true)):=by
 refine fnp_enter' _ Try.func46 rfl rfl (by kernel_rfl) ?_
 intro O w0 E0 β0
 have w1:=gmissing_fn bothA [⟨0,1⟩] (by decide) (by decide)
 rw [if_pos ⟨check2_ok,by decide⟩,if_pos check2_ok,if_pos (by decide),both_miss] at w1
 have w2:=round_fn2 bothA ⟨[],[]⟩ (some bothA) (some bothA) (by decide) (by decide) (by decide) (by decide) (fun _=>both_told) (fun _=>none_told)
 rw [if_pos both_round] at w2
 have w2:=FnP.agg2b w2
 have w3:=sameUpdates_fn [secondU] [secondU]
 rw [sameL_refl Upd.same_refl] at w3
 have w4:=sameReplica_fn bothA bothA
 rw [sameL_refl Upd.same_refl,sameL_refl Upd.same_refl] at w4
 dsimp only [roundV] at w2
 repeat' ((fail_if_success (apply dw_stopS 2));(first|refine z0 ?_|apply ds_nil|apply dw_seq2|refine z16 ?_|apply thenD_n|refine z21 ?_ (hc:=by apply first_fn)|refine z21 ?_ (hc:=by apply second_fn)|refine z1 ?_|refine z3 ?_|refine z4 ?_|fail))
 refine dw_ent (ent_cellnil 0 1 5 rfl rfl rfl) ?_
 repeat' (first|refine z0 ?_|apply ds_nil|apply dw_seq2|refine z16 ?_|apply dw_ret|apply thenD_n|refine z21 ?_ (hc:=by apply second_fn)|refine z21 ?_ (hc:=by apply w1)|refine z21 ?_ (hc:=by apply w2)|refine z21 ?_ (hc:=by apply w3)|refine z21 ?_ (hc:=by apply w4)|refine z1 ?_|refine z3 ?_|refine z4 ?_|fail)
 exact ret_b rfl rfl
theorem topI_has {r:Rpl} {i:UId} (h:i∈topI r):hasU r.has i=true:=by
 unfold topI topsU topsL at h
 obtain⟨u,hu,rfl⟩:=List.mem_map.1 h
 exact hasU_iff.2 ⟨u,(List.mem_filter.1 hu).1,rfl⟩
theorem missR_mem {has:List Upd} (hs:StrU has) (ids:List UId) (u:Upd):u∈missR has ids↔u∈has∧¬ Reach has ids u.id:=by
 unfold missR
 rw [List.mem_filter,← behM_iff hs]
 simp
def AgreeU (l:List Upd):Prop:=∀ u∈l,∀ v∈l,u.id=v.id→u=v
theorem round_meets {a b x y:Rpl} (ha:RplOk a.both a) (hb:RplOk b.both b) (hs:AgreeU (a.has++b.has)) (hw:∀ u∈a.waits++b.waits,∀ v∈a.has++b.has,u.id=v.id→u=v)
  (ho:ToldIs a (missR b.has (topI a)) (some x)) (hp:ToldIs b (missR a.has (topI b)) (some y)) :
  (∀ u∈a.has++b.has,u∈x.has∧u∈y.has)∧(a.waits++b.waits=[]→x=y):=by
 unfold ToldIs at ho hp
 revert ho hp
 cases hB:tellA a.both (missR b.has (topI a)) with
 | none=>exact fun h=>h.elim
 | some B =>
  cases hC:tellA b.both (missR a.has (topI b)) with
  | none=>exact fun _ h=>h.elim
  | some C =>
   intro ho hp
   dsimp only at ho hp
   have s1:∀ u∈a.has,∀ v∈b.has,u.id=v.id→u=v:=fun u hu v hv=>hs u (List.mem_append_left _ hu) v (List.mem_append_right _ hv)
   have s2:∀ u∈b.has,∀ v∈a.has,u.id=v.id→u=v:=fun u hu v hv=>hs u (List.mem_append_right _ hu) v (List.mem_append_left _ hv)
   obtain⟨p1,p2⟩:=hear_all ha hb (fun i hi=>topI_has hi) (missR_mem hb.sh _) s1 (fun u hu v hv=>hw u (List.mem_append_left _ hu) v (List.mem_append_right _ hv)) hB
   obtain⟨q1,q2⟩:=hear_all hb ha (fun i hi=>topI_has hi) (missR_mem ha.sh _) s2 (fun u hu v hv=>hw u (List.mem_append_right _ hu) v (List.mem_append_left _ hv)) hC
   have hBm:∀ u∈a.has++b.has,u∈B∧Der B u.id:=fun u hu=>(List.mem_append.1 hu).elim (p1 u) (p2 u)
   have hCm:∀ u∈a.has++b.has,u∈C∧Der C u.id:=fun u hu=>(List.mem_append.1 hu).elim (q2 u) (q1 u)
   refine⟨fun u hu=>⟨hear_has ho.ok (hBm u hu),hear_has hp.ok (hCm u hu)⟩,fun hn=>?_⟩
   obtain⟨hwa,hwb⟩:=List.append_eq_nil_iff.1 hn
   exact hear_same (fun u hu=>(hBm u hu).1) (fun u hu=>(hCm u hu).1) (fun u hu=>((missR_mem hb.sh _ u).1 hu).1) (fun u hu=>((missR_mem ha.sh _ u).1 hu).1) hwa hwb hB hC ho.ok hp.ok
theorem tellA_len:∀ {l A B:List Upd},tellA A l=some B→A.length≤200→B.length≤200
 | [],A,B,h,hl=>by unfold tellA at h;cases h;exact hl
 | u::l,A,B,h,hl=>by
  unfold tellA at h
  split at h
  ·exact tellA_len h hl
  ·split at h;· cases h
   exact tellA_len h (by rw [List.length_cons];omega)
theorem told_len {r o:Rpl} {l:List Upd} (h:ToldIs r l (some o)) (hl:r.both.length≤200):StrU o.has∧o.has.length≤200:=by
 unfold ToldIs at h
 revert h
 cases hB:tellA r.both l with
 | none=>exact fun h=>h.elim
 | some B =>
  intro h
  dsimp only at h
  have h1:=tellA_len hB hl
  have h2:=h.len
  have h3:o.both.length=o.has.length + o.waits.length:=List.length_append
  exact⟨h.ok.sh,by omega⟩
theorem gfound_at {l:List Upd} (hs:StrU l) {u:Upd} (hu:u∈l):∃ (n:Nat) (hn:n < l.length),idxF (fun v:Upd=>v.id.same u.id) l=n∧l[n]'hn=u:=by
 obtain⟨n,hn,h1,h2⟩:=hasU_at (hasU_iff.2 ⟨u,hu,rfl⟩)
 exact⟨n,hn,h1,hs.uniq (List.getElem_mem hn) hu h2⟩
set_option maxHeartbeats 8000000 in
theorem gossipMeets_fn (a b:Rpl) (h1:a.has.length≤4398046511104) (h2:a.waits.length≤4398046511104) (h3:b.has.length≤4398046511104) (h4:b.waits.length≤4398046511104) :
  Fn 12 [elRpl a,elRpl b] (fun res=>res = .d (.bool true)):=by
 refine fnp_enter' _ Try.func12 rfl rfl (by kernel_rfl) ?_
 intro O w0 E0 β0
 by_cases hE:roundE a b=0
 ·obtain⟨ca,cb⟩:=roundE_ok hE
  obtain⟨la,ha,oka⟩:=checkR_ok ca
  obtain⟨lb,hb,okb⟩:=checkR_ok cb
  obtain⟨o,ho⟩:=told_ex oka (missR b.has (topI a))
  obtain⟨p,hp⟩:=told_ex okb (missR a.has (topI b))
  have w2:=round_fn2 a b o p h1 h2 h3 h4 (fun _=>ho) (fun _=>hp)
  rw [if_pos hE] at w2
  by_cases hop:∃ x y,o=some x∧p=some y
  ·obtain⟨x,y,rfl,rfl⟩:=hop
   dsimp only [roundV] at w2
   have lah:(a.has.map encUpd).length=a.has.length:=List.length_map _
   have lbh:(b.has.map encUpd).length=b.has.length:=List.length_map _
   have law:(a.waits.map encUpd).length=a.waits.length:=List.length_map _
   have lbw:(b.waits.map encUpd).length=b.waits.length:=List.length_map _
   repeat' (first|(apply dt_bs0;exact rfl;exact rfl;exact rfl;exact rfl;exact rfl;exact rfl;exact rfl;exact rfl;exact rfl;exact rfl)|((fail_if_success (apply dw_stopS 7));(first|refine z0 ?_|apply ds_nil|refine z5 ?_|refine z9 ?_|refine z11 ?_|apply dw_seq2|refine z16 ?_|refine z20 ?_|apply dw_skip|refine z19 ?_|apply thenD_n|refine z21 ?_ (hc:=by apply gossipBegun_fn)|refine z21 ?_ (hc:=by apply w2)|refine z1 ?_|refine z3 ?_|fail)))
   all_goals try (exfalso;omega)
   have hmeet:=round_meets oka okb (x:=x) (y:=y)
   obtain⟨sx,lx⟩:=told_len ho (by rw [List.length_append];exact la)
   obtain⟨sy,ly⟩:=told_len hp (by rw [List.length_append];exact lb)
   refine dw_ent (ent_seal 8 rfl rfl rfl) ?_
   refine dw_ent (ent_ren (k':=4) (L':=[(2,.loc 0 0),(3,.loc 1 0),(5,.loc 2 0),(6,.loc 3 0),(8,.d (.slice 5 ((a.has++b.has).map encUpd)))]) (H':=[(0,rplB a),(1,rplB b),(2,rplB x),(3,rplB y)]) id ⟨rfl,rfl,rfl,rfl,by rw [List.map_append];rfl,trivial⟩ ⟨rfl,rfl,rfl,rfl,trivial⟩ rfl rfl rfl rfl rfl rfl) ?_
   obtain⟨all,hall⟩:∃ all,all=a.has++b.has:=⟨_,rfl⟩
   have hal:all.length≤400:=by rw [hall,List.length_append];omega
   have lal:(all.map encUpd).length=all.length:=List.length_map _
   rw [← hall] at hmeet ⊢
   clear hall w2
   repeat' (first|refine z0 ?_|apply ds_nil|apply dw_seq2|refine z16 ?_|apply dw_block|apply thenD_n)
   refine ds_loop (ι:=Nat) (fun i=>⟨4,[(2,.loc 0 0),(3,.loc 1 0),(5,.loc 2 0),(6,.loc 3 0),(8,.d (.slice 5 (all.map encUpd))),(9,.d (.int .i64 i))],[(0,rplB a),(1,rplB b),(2,rplB x),(3,rplB y)]⟩)
    (fun i=>i≤all.length∧∀ (p:Nat) (hp:p < all.length),p < i→∀ (q:Nat) (hq:q < p),all[p].id=(all[q]'(by omega)).id→all[p]=all[q]'(by omega)) (fun i=>all.length - i) 0 ⟨Nat.zero_le _,fun p _ h=>absurd h (Nat.not_lt_zero p)⟩
    (ent_ren id ⟨rfl,rfl,rfl,rfl,rfl,rfl,trivial⟩ ⟨rfl,rfl,rfl,rfl,trivial⟩ rfl rfl rfl rfl rfl rfl) ?_
   rintro i ⟨g1,g2⟩
   dsimp only at g1 g2 ⊢
   by_cases hi:i < all.length
   ·repeat' (first|refine z0 ?_|apply ds_nil|refine z5 ?_|apply dw_seq2|refine z16 ?_|refine z20 ?_|apply dw_block|apply dw_skip|apply dw_exit|apply thenD_n|apply thenD_e|refine z17 ?_|(refine z23 ?_ ?_ <;> intro hg)|fail)
    all_goals try (exfalso;omega)
    refine ds_loop (ι:=Nat) (fun k=>⟨4,[(2,.loc 0 0),(3,.loc 1 0),(5,.loc 2 0),(6,.loc 3 0),(8,.d (.slice 5 (all.map encUpd))),(9,.d (.int .i64 i)),(10,.d (.int .i64 k))],[(0,rplB a),(1,rplB b),(2,rplB x),(3,rplB y)]⟩)
     (fun k=>k≤i∧∀ (q:Nat) (hq:q < i),q < k→all[i].id=(all[q]'(by omega)).id→all[i]=all[q]'(by omega)) (fun k=>i - k) 0 ⟨Nat.zero_le _,fun q _ h=>absurd h (Nat.not_lt_zero q)⟩
     (ent_ren id ⟨rfl,rfl,rfl,rfl,rfl,rfl,rfl,trivial⟩ ⟨rfl,rfl,rfl,rfl,trivial⟩ rfl rfl rfl rfl rfl rfl) ?_
    rintro k ⟨f1,f2⟩
    dsimp only at f1 f2 ⊢
    by_cases hk:k < i
    ·have hka:k < all.length:=by omega
     have w3:=sameUpdate_fn all[i] all[k]
     have step:(all[i].id=all[k].id→all[i]=all[k])→(k + 1≤i∧∀ (q:Nat) (hq:q < i),q < k + 1→all[i].id=(all[q]'(by omega)).id→all[i]=all[q]'(by omega)):=fun h=>⟨hk,fun q hq hlt he=>by
      by_cases hqk:q=k
      ·subst hqk;exact h he
      ·exact f2 q hq (by omega) he⟩
     cases hsm:all[i].same all[k] with
     | true =>
      rw [hsm] at w3
      repeat' (first|refine z0 ?_|apply ds_nil|refine z5 ?_|refine z14 ?_|refine z10 ?_|apply dw_seq2|refine z16 ?_|refine z20 ?_|apply dw_block|apply dw_skip|apply dw_exit|refine z19 ?_|apply thenD_n|apply thenD_e|apply inB_n|refine z17 ?_|refine z22 ?_ (hc:=by apply w3)|(refine z23 ?_ ?_ <;> intro hg)|((fail_if_success (apply dt_known;exact rfl));apply dt_guard;exact rfl;exact rfl;exact rfl;all_goals intro hg))
      all_goals try (exfalso;omega)
      all_goals exact⟨k + 1,step (fun _=>usame_iff.1 hsm),ent_ren id ⟨rfl,rfl,rfl,rfl,rfl,rfl,rfl,trivial⟩ ⟨rfl,rfl,rfl,rfl,trivial⟩ rfl rfl rfl rfl rfl rfl,by omega⟩
     | false =>
      rw [hsm] at w3
      repeat' (first|refine z0 ?_|apply ds_nil|refine z5 ?_|refine z14 ?_|refine z10 ?_|apply dw_seq2|refine z16 ?_|refine z20 ?_|apply dw_block|apply dw_skip|apply dw_exit|apply dw_ret|refine z18 ?_|refine z19 ?_|apply thenD_n|apply thenD_e|apply thenD_r|apply inB_n|apply inB_r|refine z17 ?_|refine z22 ?_ (hc:=by apply w3)|(refine z23 ?_ ?_ <;> intro hg)|((fail_if_success (apply dt_known;exact rfl));apply dt_guard;exact rfl;exact rfl;exact rfl;all_goals intro hg))
      all_goals try (exfalso;omega)
      all_goals first
       | exact ret_b rfl rfl
       | exact⟨k + 1,step (fun he=>by have:=same_beq2 hg;rw [he,UId.same_refl] at this;cases this),ent_ren id ⟨rfl,rfl,rfl,rfl,rfl,rfl,rfl,trivial⟩ ⟨rfl,rfl,rfl,rfl,trivial⟩ rfl rfl rfl rfl rfl rfl,by omega⟩
    ·repeat' (first|refine z0 ?_|apply ds_nil|refine z5 ?_|refine z14 ?_|refine z10 ?_|apply dw_seq2|refine z16 ?_|refine z20 ?_|apply dw_block|apply dw_skip|apply dw_exit|refine z19 ?_|apply thenD_n|apply thenD_e|apply inB_n|refine z17 ?_|(refine z23 ?_ ?_ <;> intro hg)|((fail_if_success (apply dt_known;exact rfl));apply dt_guard;exact rfl;exact rfl;exact rfl;all_goals intro hg))
     all_goals try (exfalso;omega)
     exact⟨i + 1,⟨hi,fun p hp hlt q hq he=>by
      by_cases hpi:p=i
      ·subst hpi;exact f2 q hq (by omega) he
      ·exact g2 p hp (by omega) q hq he⟩,ent_ren id ⟨rfl,rfl,rfl,rfl,rfl,rfl,trivial⟩ ⟨rfl,rfl,rfl,rfl,trivial⟩ rfl rfl rfl rfl rfl rfl,by omega⟩
   ·have hag:AgreeU all:=fun u hu v hv he=>by
     obtain⟨p,hp,rfl⟩:=List.mem_iff_getElem.1 hu
     obtain⟨q,hq,rfl⟩:=List.mem_iff_getElem.1 hv
     rcases Nat.lt_trichotomy p q with h|h|h
     ·exact (g2 q hq (by omega) p h he.symm).symm
     ·subst h;rfl
     ·exact g2 p hp (by omega) q h he
    clear g2 g1
    have hmeet:=hmeet hag
    repeat' (first|(apply dt_bs0;exact rfl;exact rfl;exact rfl;exact rfl;exact rfl;exact rfl;exact rfl;exact rfl;exact rfl;exact rfl)|((fail_if_success (apply dw_stopS 16));(first|refine z0 ?_|apply ds_nil|refine z5 ?_|refine z9 ?_|refine z11 ?_|apply dw_seq2|refine z16 ?_|refine z20 ?_|apply dw_block|apply dw_skip|apply dw_exit|apply thenD_n|apply thenD_e|refine z17 ?_|(refine z23 ?_ ?_ <;> intro hg)|fail)))
    all_goals try (exfalso;omega)
    refine dw_ent (ent_seal 11 rfl rfl rfl) ?_
    refine dw_ent (ent_ren (k':=2) (L':=[(5,.loc 0 0),(6,.loc 1 0),(8,.d (.slice 5 (all.map encUpd))),(11,.d (.slice 5 ((a.waits++b.waits).map encUpd)))]) (H':=[(0,rplB x),(1,rplB y)]) (fun j=>match j with|0=>2|1=>3|j=>j) ⟨rfl,rfl,rfl,by rw [List.map_append];rfl,trivial⟩ ⟨rfl,rfl,trivial⟩ rfl rfl rfl rfl rfl rfl) ?_
    obtain⟨ws,hws⟩:∃ ws,ws=a.waits++b.waits:=⟨_,rfl⟩
    have hwl:ws.length≤400:=by rw [hws,List.length_append];omega
    have lws:(ws.map encUpd).length=ws.length:=List.length_map _
    rw [← hws] at hmeet ⊢
    clear hws hi
    repeat' (first|refine z0 ?_|apply ds_nil|apply dw_seq2|refine z16 ?_|apply dw_block|apply thenD_n)
    refine ds_loop (ι:=Nat) (fun i=>⟨2,[(5,.loc 0 0),(6,.loc 1 0),(8,.d (.slice 5 (all.map encUpd))),(11,.d (.slice 5 (ws.map encUpd))),(12,.d (.int .i64 i))],[(0,rplB x),(1,rplB y)]⟩)
     (fun i=>i≤ws.length∧∀ (p:Nat) (hp:p < ws.length),p < i→∀ v∈all,ws[p].id=v.id→ws[p]=v) (fun i=>ws.length - i) 0 ⟨Nat.zero_le _,fun p _ h=>absurd h (Nat.not_lt_zero p)⟩
     (ent_ren id ⟨rfl,rfl,rfl,rfl,rfl,trivial⟩ ⟨rfl,rfl,trivial⟩ rfl rfl rfl rfl rfl rfl) ?_
    rintro i ⟨g1,g2⟩
    dsimp only at g1 g2 ⊢
    by_cases hi:i < ws.length
    ·have step:(∀ v∈all,ws[i].id=v.id→ws[i]=v)→(i + 1≤ws.length∧∀ (p:Nat) (hp:p < ws.length),p < i + 1→∀ v∈all,ws[p].id=v.id→ws[p]=v):=fun h=>⟨hi,fun p hp hlt=>by
      by_cases hpi:p=i
      ·subst hpi;exact h
      ·exact g2 p hp (by omega)⟩
     have w4:=placeOf_fn all ws[i].id (by omega)
     rcases idxF_or (fun u:Upd=>u.id.same ws[i].id) all with ⟨e1,e2⟩|⟨n,hn,e1,e2⟩
     ·rw [e1] at w4
      repeat' (first|refine z0 ?_|apply ds_nil|refine z5 ?_|refine z14 ?_|refine z10 ?_|apply dw_seq2|refine z16 ?_|refine z20 ?_|apply dw_block|apply dw_skip|apply dw_exit|refine z19 ?_|apply thenD_n|apply thenD_e|apply inB_n|refine z17 ?_|refine z21 ?_ (hc:=by apply w4)|(refine z23 ?_ ?_ <;> intro hg)|fail)
      all_goals try (exfalso;omega)
      exact⟨i + 1,step (fun v hv he=>by have:=e2 v hv;rw [he,UId.same_refl] at this;cases this),ent_ren id ⟨rfl,rfl,rfl,rfl,rfl,trivial⟩ ⟨rfl,rfl,trivial⟩ rfl rfl rfl rfl rfl rfl,by omega⟩
     ·rw [e1] at w4
      have e3:=same_iff.1 e2
      have w3:=sameUpdate_fn all[n] ws[i]
      cases hsm:all[n].same ws[i] with
      | true =>
       rw [hsm] at w3
       repeat' (first|refine z0 ?_|apply ds_nil|refine z5 ?_|refine z10 ?_|apply dw_seq2|refine z16 ?_|refine z20 ?_|apply dw_block|apply dw_skip|apply dw_exit|refine z19 ?_|apply thenD_n|apply thenD_e|apply inB_n|refine z17 ?_|refine z21 ?_ (hc:=by apply w4)|refine z22 ?_ (hc:=by apply w3)|(refine z23 ?_ ?_ <;> intro hg)|fail)
       all_goals try (exfalso;omega)
       exact⟨i + 1,step (fun v hv he=>by rw [← usame_iff.1 hsm];exact hag _ (List.getElem_mem hn) v hv (e3.trans he)),ent_ren id ⟨rfl,rfl,rfl,rfl,rfl,trivial⟩ ⟨rfl,rfl,trivial⟩ rfl rfl rfl rfl rfl rfl,by omega⟩
      | false =>
       rw [hsm] at w3
       repeat' (first|refine z0 ?_|apply ds_nil|refine z5 ?_|refine z10 ?_|apply dw_seq2|refine z16 ?_|refine z20 ?_|apply dw_block|apply dw_skip|apply dw_exit|apply dw_ret|refine z18 ?_|apply thenD_n|apply thenD_e|apply thenD_r|apply inB_r|refine z17 ?_|refine z21 ?_ (hc:=by apply w4)|refine z22 ?_ (hc:=by apply w3)|(refine z23 ?_ ?_ <;> intro hg)|fail)
       all_goals try (exfalso;omega)
       exact ret_b rfl rfl
    ·obtain⟨hboth,hsame⟩:=hmeet (fun u hu v hv he=>by
      obtain⟨p,hp,rfl⟩:=List.mem_iff_getElem.1 hu
      exact g2 p hp (by omega) v hv he) ho hp
     clear g2 hmeet hag
     repeat' (first|refine z0 ?_|apply ds_nil|apply dw_seq2|refine z16 ?_|apply dw_block|apply dw_skip|apply dw_exit|apply thenD_n|apply thenD_e|refine z17 ?_|(refine z23 ?_ ?_ <;> intro hg)|fail)
     all_goals try (exfalso;omega)
     clear hi g1
     refine ds_loop (ι:=Nat) (fun i=>⟨2,[(5,.loc 0 0),(6,.loc 1 0),(8,.d (.slice 5 (all.map encUpd))),(11,.d (.slice 5 (ws.map encUpd))),(14,.d (.int .i64 i))],[(0,rplB x),(1,rplB y)]⟩)
      (fun i=>i≤all.length) (fun i=>all.length - i) 0 (Nat.zero_le _) (ent_ren id ⟨rfl,rfl,rfl,rfl,rfl,trivial⟩ ⟨rfl,rfl,trivial⟩ rfl rfl rfl rfl rfl rfl) ?_
     intro i g1
     dsimp only at g1 ⊢
     by_cases hi:i < all.length
     ·obtain⟨m1,m2⟩:=hboth _ (List.getElem_mem hi)
      obtain⟨n,hn,e1,e2⟩:=gfound_at sx m1
      obtain⟨q,hq,f1,f2⟩:=gfound_at sy m2
      have w4:=placeOf_fn x.has all[i].id (by omega)
      have w5:=placeOf_fn y.has all[i].id (by omega)
      rw [e1] at w4
      rw [f1] at w5
      have w6:=sameUpdate_fn x.has[n] all[i]
      have w7:=sameUpdate_fn y.has[q] all[i]
      rw [usame_iff.2 e2] at w6
      rw [usame_iff.2 f2] at w7
      have lxh:(x.has.map encUpd).length=x.has.length:=List.length_map _
      have lyh:(y.has.map encUpd).length=y.has.length:=List.length_map _
      repeat' (first|refine z0 ?_|refine z12 ?_|apply ds_nil|refine z5 ?_|refine z10 ?_|apply dw_seq2|refine z16 ?_|refine z20 ?_|apply dw_block|apply dw_skip|apply dw_exit|refine z19 ?_|apply thenD_n|apply thenD_e|apply inB_n|refine z17 ?_|refine z22 ?_ (hc:=by apply w4)|refine z22 ?_ (hc:=by apply w5)|refine z22 ?_ (hc:=by apply w6)|refine z22 ?_ (hc:=by apply w7)|(refine z23 ?_ ?_ <;> intro hg)|((fail_if_success (apply ds_known;exact rfl));apply ds_guardP;exact rfl;exact rfl;exact rfl;all_goals intro hg))
      all_goals try (exfalso;omega)
      exact⟨i + 1,hi,ent_ren id ⟨rfl,rfl,rfl,rfl,rfl,trivial⟩ ⟨rfl,rfl,trivial⟩ rfl rfl rfl rfl rfl rfl,by omega⟩
     ·by_cases hz:ws.length=0
      ·have hxy:=hsame (List.length_eq_zero_iff.1 hz)
       subst hxy
       have w8:=sameReplica_fn x x
       rw [sameL_refl Upd.same_refl,sameL_refl Upd.same_refl] at w8
       repeat' (first|refine z0 ?_|refine z12 ?_|apply ds_nil|refine z5 ?_|apply dw_seq2|refine z16 ?_|refine z20 ?_|apply dw_block|apply dw_skip|apply dw_exit|apply dw_ret|apply thenD_n|apply thenD_e|refine z17 ?_|refine z21 ?_ (hc:=by apply w8)|(refine z23 ?_ ?_ <;> intro hg)|((fail_if_success (apply ds_known;exact rfl));apply ds_guardP;exact rfl;exact rfl;exact rfl;all_goals intro hg))
       all_goals try (exfalso;omega)
       exact ret_b rfl rfl
      ·have w8:=sameReplica_fn x y
       repeat' (first|refine z0 ?_|refine z12 ?_|apply ds_nil|refine z5 ?_|apply dw_seq2|refine z16 ?_|refine z20 ?_|apply dw_block|apply dw_skip|apply dw_exit|apply dw_ret|apply thenD_n|apply thenD_e|refine z17 ?_|refine z21 ?_ (hc:=by apply w8)|(refine z23 ?_ ?_ <;> intro hg)|((fail_if_success (apply ds_known;exact rfl));apply ds_guardP;exact rfl;exact rfl;exact rfl;all_goals intro hg))
       all_goals try (exfalso;omega)
       exact ret_b rfl rfl
  ·have w2:Fn 41 [elRpl a,elRpl b] (fun res=>res = .tup [elRpl ⟨[],[]⟩,elRpl ⟨[],[]⟩,.d (.int .i64 2)]):=by
    cases o with
    | none=>exact w2
    | some x=>cases p with
     | none=>exact w2
     | some y=>exact absurd ⟨x,y,rfl,rfl⟩ hop
   repeat' (first|refine z0 ?_|apply ds_nil|apply dw_seq2|refine z16 ?_|apply dw_skip|apply dw_ret|refine z18 ?_|refine z19 ?_|apply thenD_n|apply thenD_r|refine z21 ?_ (hc:=by apply gossipBegun_fn)|refine z21 ?_ (hc:=by apply w2)|refine z1 ?_|refine z3 ?_|fail)
   all_goals try (exfalso;omega)
   exact ret_b rfl rfl
 ·have w2:=round_fn2 a b none none h1 h2 h3 h4 (fun h=>absurd h hE) (fun h=>absurd h hE)
  rw [if_neg hE] at w2
  generalize roundE a b=e at *
  repeat' (first|refine z0 ?_|apply ds_nil|refine z5 ?_|apply dw_seq2|refine z16 ?_|refine z20 ?_|apply dw_skip|apply dw_ret|refine z19 ?_|apply thenD_n|apply thenD_r|refine z21 ?_ (hc:=by apply gossipBegun_fn)|refine z21 ?_ (hc:=by apply w2)|refine z1 ?_|refine z3 ?_|(refine z23 ?_ ?_ <;> intro hg)|fail)
  all_goals try (exfalso;omega)
  exact ret_b rfl rfl
theorem listOf {α:Type} {e:RT} {enc:α→List D} (h:∀ x,TyD e x→∃ t,x=enc t):∀ (l:List (List D)),(∀ x∈l,TyD e x)→∃ ts:List α,l=ts.map enc
 | [],_=>⟨[],rfl⟩
 | x::l,hl=>by
  obtain⟨t,rfl⟩:=h x (hl x (List.mem_cons_self ..))
  obtain⟨ts,rfl⟩:=listOf h l fun y hy=>hl y (List.mem_cons_of_mem _ hy)
  exact⟨t::ts,rfl⟩
theorem sliceOf {α:Type} {c b:Nat} {e:RT} {enc:α→List D} (h:∀ x,TyD e x→∃ t,x=enc t) (x:List D) (hx:TyD (.slice c b e) x):∃ ts:List α,x=[.slice c (ts.map enc)]:=by
 obtain⟨l,_,_,rfl,h3⟩:=hx
 obtain⟨ts,rfl⟩:=listOf h l h3
 exact⟨ts,rfl⟩
abbrev rtId:RT:=.struct [.int .i64,.int .i64]
abbrev rtFct:RT:=.struct [.int .i64,.slice 1 8 (.int .i64)]
abbrev rtUpd:RT:=.struct [rtId,.slice 2 16 rtId,.slice 2 32 rtFct,.slice 2 16 rtId]
theorem int_of (x:List D) (h:TyD (.int .i64) x):∃ n:Int,x=encI n:=by
 obtain⟨n,_,rfl⟩:=h
 exact⟨n,rfl⟩
theorem id_of (x:List D) (h:TyD rtId x):∃ t:UId,x=encId t:=by
 obtain⟨a,b,rfl,⟨k,_,rfl⟩,c,d,rfl,⟨p,_,rfl⟩,rfl⟩:=h
 exact⟨⟨k,p⟩,rfl⟩
theorem fct_of (x:List D) (h:TyD rtFct x):∃ t:Fct,x=encFct t:=by
 obtain⟨a,b,rfl,⟨k,_,rfl⟩,c,d,rfl,h2,rfl⟩:=h
 obtain⟨l,rfl⟩:=sliceOf int_of c h2
 exact⟨⟨k,l⟩,rfl⟩
theorem upd_of (x:List D) (h:TyD rtUpd x):∃ u:Upd,x=encUpd u:=by
 obtain⟨a,b,rfl,h1,c,d,rfl,h2,e,f,rfl,h3,g,h,rfl,h4,rfl⟩:=h
 obtain⟨i,rfl⟩:=id_of a h1
 obtain⟨l,rfl⟩:=sliceOf id_of c h2
 obtain⟨m,rfl⟩:=sliceOf fct_of e h3
 obtain⟨n,rfl⟩:=sliceOf id_of g h4
 exact⟨⟨i,l,m,n⟩,rfl⟩
abbrev rtUpds:RT:=.slice 5 88 rtUpd
abbrev rtRpl:RT:=.struct [rtUpds,rtUpds]
theorem sliceOfB {R:Nat} {α:Type} {c b:Nat} {e:RT} {enc:α→List D} (h:∀ x,TyDR R e x→∃ t,x=enc t) (x:List D) (hx:TyDR R (.slice c b e) x):∃ ts:List α,x=[.slice c (ts.map enc)]∧ts.length * b≤R:=by
 obtain⟨l,h1,_,rfl,h3⟩:=hx
 have key:∀ l:List (List D),(∀ x∈l,TyDR R e x)→∃ ts:List α,l=ts.map enc:=by
  intro l
  induction l with
  | nil=>exact fun _=>⟨[],rfl⟩
  | cons x l ih =>
   intro hl
   obtain⟨t,rfl⟩:=h x (hl x (List.mem_cons_self ..))
   obtain⟨ts,rfl⟩:=ih fun y hy=>hl y (List.mem_cons_of_mem _ hy)
   exact⟨t::ts,rfl⟩
 obtain⟨ts,rfl⟩:=key l h3
 exact⟨ts,rfl,by rw [← List.length_map (f:=enc)];exact h1⟩
theorem rpl_arg (x:List D) (h:TyD rtRpl x):∃ r:Rpl,RT.arg rtRpl x=elRpl r∧r.has.length≤4398046511104∧r.waits.length≤4398046511104:=by
 obtain⟨a,b,rfl,h1,c,d,rfl,h2,rfl⟩:=h
 obtain⟨l,rfl,hl⟩:=sliceOfB upd_of a h1
 obtain⟨m,rfl,hm⟩:=sliceOfB upd_of c h2
 exact⟨⟨l,m⟩,rfl,by unfold reachBytes at hl;dsimp only;omega,by unfold reachBytes at hm;dsimp only;omega⟩
end Go.Proofs.Ytapciiffpnociaa
