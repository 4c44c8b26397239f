/- Several texts in one: RuI RuJ RuF ScoG ScoH TokL ScoI RuL RelL RelV RuH RuM StrB RuN RuO StrP StrQ StrN. Condition: none. -/
import Derived.Test.YtapciiffpnociadGreatW14
import Derived.Test.YtapciiffpnociadGreatW10
import Derived.Test.YtapciiffpnociadGreatW13
import Derived.Test.YtapciiffpnociadGreatW12
import Derived.Test.YtapciiffpnociadGreatW09
import Derived.Test.YtapciiffpnociadGreatW11
import Derived.Test.YtapciiffpnociadGreatW08
namespace Go.Proofs.YtapciiffpnociadGreat
open Go Go.RowKit Go.Sort
theorem swoL:Go.Sort.SWO (ltOf ordL) where
 irrefl x:=by unfold ltOf;rw [ordL_self];rfl
 trans x y z h g:=decide_eq_true (ordL_trans (of_decide_eq_true h) (of_decide_eq_true g))
 ntrans x y z h g:=by
  have h:=of_decide_eq_false h
  have g:=of_decide_eq_false g
  refine decide_eq_false ?_
  have:=ordL_le_trans (a:=z) (b:=y) (c:=x) (by rw [ordL_anti];omega) (by rw [ordL_anti];omega)
  rw [ordL_anti] at this
  omega
theorem sortWays_c:SortC Tryz.prog 117 105 22 1 encW ordL:=fun l hl _ _ _ _ h1 h2 h3 =>
 sort_row1 (ρ:=Tryz.sortWays_ren) Tryz.sortWays encW (fun _=>rfl) ordL swoL 105 (fun a b=>compareInts_fnD true a b) 22 l hl h1 h2 h3
attribute [local irreducible] DW DS DL DQ Ev FnOk FnP thenD inBlockD DT
set_option maxHeartbeats 8000000 in
theorem equalI_fn (a b:List Int):Fn 100 [.d (.slice 1 (a.map encI)),.d (.slice 1 (b.map encI))] (fun r=>r = .d (.bool (decide (a=b)))):=by
 refine fnp_enter' _ Tryz.func100 rfl rfl (by kernel_rfl) ?_
 intro O w0 E0 β0
 have la:(a.map encI).length=a.length:=List.length_map _
 have lb:(b.map encI).length=b.length:=List.length_map _
 refine dw_len (t:=0) rfl (fun hk=>?_)
 by_cases hl:a.length=b.length
 ·repeat' (first|refine z0 ?_|apply ds_nil|apply dw_seq2|refine z16 ?_|apply dw_block|apply dw_skip|apply dw_ret|apply thenD_n|apply thenD_r|(refine z23 ?_ ?_ <;> intro hg)|fail)
  all_goals try (exfalso;omega)
  refine ds_loop (ι:=Nat) (fun i=>⟨0,[(0,.d (.slice 1 (a.map encI))),(1,.d (.slice 1 (b.map encI))),(12,.d (.int .i64 a.length)),(13,.d (.int .i64 i))],[]⟩)
   (fun i=>i≤a.length∧a.take i=b.take i) (fun i=>a.length - i) 0 ⟨Nat.zero_le _,rfl⟩ (ent_ren id ⟨rfl,rfl,by rw [← la];rfl,rfl,trivial⟩ trivial rfl rfl rfl rfl rfl rfl) ?_
  rintro i ⟨g1,g2⟩
  dsimp only at g1 g2 ⊢
  by_cases hi:i < a.length
  ·have hb:i < b.length:=by omega
   by_cases he:a[i]=b[i]
   ·repeat' (first|refine z0 ?_|apply ds_nil|refine z5 ?_|refine z10 ?_|apply dw_seq2|refine z16 ?_|refine z20 ?_|apply dw_block|apply dw_skip|apply dw_exit|apply dw_ret|apply thenD_n|apply thenD_e|apply thenD_r|apply inB_n|apply inB_r|refine z17 ?_|(refine z23 ?_ ?_ <;> intro hg)|fail)
    all_goals try (exfalso;omega)
    all_goals try (exfalso;exact hg he)
    exact⟨i + 1,⟨hi,by rw [List.take_succ_eq_append_getElem hi,List.take_succ_eq_append_getElem hb,g2,he]⟩,ent_ren id ⟨rfl,rfl,rfl,rfl,trivial⟩ trivial rfl rfl rfl rfl rfl rfl,by omega⟩
   ·have hne:a≠b:=fun h=>he (by subst h;rfl)
    rw [decide_eq_false hne]
    repeat' (first|refine z0 ?_|apply ds_nil|refine z5 ?_|refine z10 ?_|apply dw_seq2|refine z16 ?_|refine z20 ?_|apply dw_block|apply dw_skip|apply dw_exit|apply dw_ret|apply thenD_n|apply thenD_e|apply thenD_r|apply inB_n|apply inB_r|refine z17 ?_|(refine z23 ?_ ?_ <;> intro hg)|fail)
    all_goals try (exfalso;omega)
    all_goals exact⟨.inl rfl,_,rfl,rfl,rfl⟩
  ·rw [List.take_of_length_le (by omega),List.take_of_length_le (by omega)] at g2
   rw [decide_eq_true g2]
   repeat' (first|refine z0 ?_|apply ds_nil|refine z5 ?_|refine z10 ?_|apply dw_seq2|refine z16 ?_|refine z20 ?_|apply dw_block|apply dw_skip|apply dw_exit|apply dw_ret|apply thenD_n|apply thenD_e|apply thenD_r|apply inB_n|apply inB_r|refine z17 ?_|(refine z23 ?_ ?_ <;> intro hg)|fail)
   all_goals try (exfalso;omega)
   all_goals exact⟨.inl rfl,_,rfl,rfl,rfl⟩
 ·have hne:a≠b:=fun h=>hl (by rw [h])
  rw [decide_eq_false hne]
  repeat' (first|refine z0 ?_|apply ds_nil|apply dw_seq2|refine z16 ?_|apply dw_block|apply dw_skip|apply dw_ret|apply thenD_n|apply thenD_r|(refine z23 ?_ ?_ <;> intro hg)|fail)
  all_goals try (exfalso;omega)
  all_goals exact⟨.inl rfl,_,rfl,rfl,rfl⟩
set_option maxHeartbeats 8000000 in
theorem compactW_fn (l:List (List Int)) (hn:l.Nodup) (hl:l.length≤1000000):FnOk false Tryz.prog tab tab_ok 118 [.row 0,.fn 100 []] 0 1 [(0,.row 22 1 (l.map encW))] (fun _ r H=>r = .d (.slice 1 (l.map encW))∧H=[]):=by
 refine fn_enterF _ Tryz.func118 rfl rfl (by kernel_rfl) ?_
 intro O w0 E0 β0
 have ll:(l.map encW).length=l.length:=List.length_map _
 by_cases h2:l.length < 2
 ·repeat' (first|refine z0 ?_|apply ds_nil|apply dw_seq2|refine z16 ?_|apply dw_block|apply dw_skip|apply thenD_n|(refine z23 ?_ ?_ <;> intro hg)|fail)
  all_goals try (exfalso;omega)
  refine dw_ent (ent_seal 4 rfl rfl rfl) ?_
  repeat' (first|apply dw_ret|apply thenD_r)
  exact⟨.inl rfl,_,rfl,0,[],trivial,rfl,rfl,rfl,rfl,rfl,rfl⟩
 ·repeat' (first|refine z0 ?_|apply ds_nil|apply dw_seq2|refine z16 ?_|apply dw_block|apply dw_skip|apply thenD_n|(refine z23 ?_ ?_ <;> intro hg)|fail)
  all_goals try (exfalso;omega)
  refine ds_loop (ι:=Nat) (fun i=>⟨1,[(0,.row 0),(1,.fn 100 []),(5,.d (.int .i64 i))],[(0,.row 22 1 (l.map encW))]⟩)
   (fun i=>1≤i∧i≤l.length) (fun i=>l.length - i) 1 ⟨by omega,by omega⟩ (ent_ren id ⟨rfl,rfl,rfl,trivial⟩ ⟨rfl,trivial⟩ rfl rfl rfl rfl rfl rfl) ?_
  rintro i ⟨g0,g1⟩
  by_cases hi:i < l.length
  ·have hne:l[i]≠l[i - 1]'(by omega):=fun h=>by
    have:=(List.getElem_inj hn).1 h
    omega
   have hs:Fn 100 [.d (.slice 1 ((l[i]).map encI)),.d (.slice 1 ((l[((i:Int) - 1).toNat]'(by omega)).map encI))] (fun r=>r = .d (.bool false)):=by
    have e:((i:Int) - 1).toNat=i - 1:=by omega
    simp only [e]
    have h:=equalI_fn l[i] (l[i - 1]'(by omega))
    rw [decide_eq_false hne] at h
    exact h
   repeat' (first|refine z0 ?_|apply ds_nil|refine z5 ?_|refine z10 ?_|apply dw_seq2|refine z16 ?_|refine z20 ?_|apply dw_block|apply dw_skip|apply dw_exit|refine z19 ?_|apply thenD_n|apply thenD_e|apply inB_n|refine z17 ?_|(apply dt_callV;exact rfl;exact rfl;exact rfl;exact rfl;apply hs;exact rfl;(exact rfl);exact rfl;exact rfl;exact⟨_,rfl⟩;rintro _ rfl)|(refine z23 ?_ ?_ <;> intro hg)|fail)
   all_goals try (exfalso;omega)
   exact⟨i + 1,⟨by omega,by omega⟩,ent_ren id ⟨rfl,rfl,rfl,trivial⟩ ⟨rfl,trivial⟩ rfl rfl rfl rfl rfl rfl,by show l.length - (i + 1) < l.length - i;omega⟩
  ·repeat' (first|refine z0 ?_|apply ds_nil|refine z5 ?_|apply dw_seq2|refine z16 ?_|refine z20 ?_|apply dw_block|apply dw_skip|apply dw_exit|apply thenD_n|apply thenD_e|refine z17 ?_|(refine z23 ?_ ?_ <;> intro hg)|fail)
   all_goals try (exfalso;omega)
   refine dw_ent (ent_seal 4 rfl rfl rfl) ?_
   repeat' (apply dw_ret)
   exact⟨.inl rfl,_,rfl,0,[],trivial,rfl,rfl,rfl,rfl,rfl,rfl⟩
open Go Go.RowKit
def manyW (S:List Fct) (r:Rul):Bool:=decide ((waysL S r.vars.toNat r.body).length≤2000)
def rawW (S:List Fct) (r:Rul):List (List Int):=if manyW S r then waysL S r.vars.toNat r.body else []
structure RulS (S:List Fct) (r:Rul):Prop where
 ok:okB S r.vars.toNat r.body
 bd:Bd r.body (List.replicate r.vars.toNat false)
 vars:0≤r.vars∧r.vars≤8
set_option maxHeartbeats 8000000 in
theorem raw_fn (S:List Fct) (r:Rul) (hS:Strict S) (hS2:S.length≤4398046511104) (hr:RulS S r):Fn 60 [elRul r,.d (.slice 2 (S.map encFct))] (fun res=>res = .tup [.d (.slice 1 ((rawW S r).map encW)),.d (.bool (manyW S r))]):=by
 refine fnp_enter' _ Tryz.func60 rfl rfl (by kernel_rfl) ?_
 intro O w0 E0 β0
 have hv:=hr.vars
 have hnd:S.Nodup:=hS.imp fun h he=>by subst he;exact lt_irrefl h
 obtain⟨p1,p2,p3⟩:=ways_perm hnd hr.ok.lit hr.bd
 have w:=find_fn r S hS hS2 r.body.length r.body rfl (e0 r.vars.toNat) [] (by rw [show (e0 r.vars.toNat).length=r.vars.toNat from List.length_replicate];exact hr.ok) (fun v x hx=>by
  unfold e0 at hx;rw [List.getElem?_replicate] at hx;split at hx <;> simp at hx) (by rw [hasE_e0];exact hr.bd) (by simp)
 have hlen:(waysL S r.vars.toNat r.body).length=(findE S r.body.length r.body (e0 r.vars.toNat)).length:=((waysL_perm S r.vars.toNat r.body).trans p1.symm).length_eq
 have hnodup:=(p1.nodup_iff).2 p2
 have hperm:=p1
 clear p1 p2 p3
 have hfew:fewW (findE S r.body.length r.body (e0 r.vars.toNat)) []=manyW S r:=by unfold fewW manyW;rw [hlen];simp
 rw [hfew] at w
 have hput:manyW S r=true→putW (findE S r.body.length r.body (e0 r.vars.toNat)) []=findE S r.body.length r.body (e0 r.vars.toNat):=fun h=>by
  unfold manyW at h
  have:=of_decide_eq_true h
  unfold putW
  rw [List.nil_append,List.take_of_length_le (by omega)]
 generalize findE S r.body.length r.body (e0 r.vars.toNat)=fw at *
 generalize putW fw []=pw at *
 repeat' (first|refine z0 ?_|apply ds_nil|refine z5 ?_|apply dw_seq2|refine z16 ?_|refine z20 ?_|apply thenD_n|refine z1 ?_|fail)
 all_goals try (exfalso;omega)
 refine dt_new rfl rfl rfl ⟨rfl,hv.1,?_,?_⟩ rfl rfl rfl rfl rfl ?_
 ·show 8 * r.vars.toNat≤_;omega
 ·unfold maxLen;omega
 repeat' refine z5 ?_
 refine dt_new rfl rfl rfl ⟨rfl,hv.1,?_,?_⟩ rfl rfl rfl rfl rfl ?_
 ·show 1 * r.vars.toNat≤_;omega
 ·unfold maxLen;omega
 repeat' ((fail_if_success (apply dw_stopS 2));(first|refine z5 ?_|refine z7 ?_|refine z11 ?_|apply dw_seq2|apply thenD_n))
 refine dw_ent (ent_cellrow 10 9 22 1 rfl rfl rfl) ?_
 refine dw_ent (ent_ren (k':=5) (L':=[(2,.loc 4 0),(6,.loc 0 0)]) (H':=(4,.blk 64 [.d (.int .i64 r.pred),.d (.slice 2 (r.terms.map encTrm)),.d (.int .i64 r.fold),.d (.slice 4 (r.body.map encLtl)),.d (.int .i64 r.vars)])::pfH r S (e0 r.vars.toNat) []) (fun j=>match j with|0=>10|1=>5|2=>8|3=>12|4=>0|j=>j)
  ⟨rfl,rfl,trivial⟩ ⟨rfl,rfl,by rw [outE_e0,List.map_replicate];rfl,by rw [hasE_e0,List.map_replicate];rfl,rfl,trivial⟩ rfl rfl rfl rfl rfl rfl) ?_
 repeat' (first|refine z0 ?_|apply dw_seq2|refine z16 ?_|fail)
 (refine ds_callF id (w) rfl rfl rfl rfl ⟨rfl,rfl,rfl,rfl,trivial⟩ rfl rfl rfl rfl rfl rfl ?_ ?_)
 ·rintro k2 res H2 ⟨rfl,rfl,rfl⟩;exact⟨rfl,rfl⟩
 rintro k2 res H2 ⟨rfl,rfl,rfl⟩
 change DS _ _ _ _ _ _ _ _
 clear w
 unfold rawW
 cases hm:manyW S r with
 | false =>
  rw [if_neg (by simp)]
  repeat' (first|refine z0 ?_|apply ds_nil|apply dw_seq2|refine z16 ?_|refine z18 ?_|apply thenD_n)
  all_goals try (exfalso;omega)
  refine dw_ent (ent_nild 4 1 rfl) ?_
  repeat' (first|apply dw_ret|apply thenD_r)
  exact⟨.inl rfl,_,rfl,rfl,rfl⟩
 | true =>
  have hp:=hput hm
  have hl2:fw.length≤2000:=by rw [← hlen];unfold manyW at hm;exact of_decide_eq_true hm
  rw [if_pos rfl]
  subst hp
  repeat' (first|refine z0 ?_|apply ds_nil|apply dw_seq2|refine z16 ?_|apply dw_skip|refine z19 ?_|apply thenD_n)
  all_goals try (exfalso;omega)
  refine ds_sort sortWays_c pw (by kernel_rfl) rfl rfl rfl rfl rfl rfl (by omega) ?_
  intro l' h6 h7
  have hsort:SortW l':=h7.imp fun {a b} h=>by rw [ordL_anti];omega
  have hl':l' = waysL S r.vars.toNat r.body:=waysL_eq hsort (h6.trans hperm)
  have hnd':l'.Nodup:=h6.nodup_iff.2 hnodup
  have w2:=compactW_fn l' hnd' (by rw [h6.length_eq];omega)
  rw [← hl']
  repeat' (first|refine z0 ?_|apply ds_nil|apply dw_seq2|refine z16 ?_|apply thenD_n)
  all_goals try (exfalso;omega)
  refine ds_callF (fun _=>8) w2 rfl rfl rfl rfl ⟨rfl,trivial⟩ rfl rfl rfl rfl rfl rfl ?_ ?_
  ·rintro k2 res H2 ⟨rfl,rfl⟩;exact⟨rfl,rfl⟩
  rintro k2 res H2 ⟨rfl,rfl⟩
  change DS _ _ _ _ _ _ _ _
  repeat' (first|refine z0 ?_|apply ds_nil|apply dw_ret|apply thenD_n)
  exact⟨.inl rfl,_,rfl,rfl,rfl⟩



theorem tokAt_37 (l:List UInt8):(tokAt (37::l)).1=0:=by
 rw [tokAt_cons,if_neg (by unfold letterB smallB greatB;decide),if_neg (by unfold digitB;decide),if_neg (by unfold pairB;cases l <;> simp),if_neg (by decide)]
theorem tokAt_32 (l:List UInt8):(tokAt (32::l)).1=0:=by
 rw [tokAt_cons,if_neg (by unfold letterB smallB greatB;decide),if_neg (by unfold digitB;decide),if_neg (by unfold pairB;cases l <;> simp),if_neg (by decide)]
theorem tokAt_9 (l:List UInt8):(tokAt (9::l)).1=0:=by
 rw [tokAt_cons,if_neg (by unfold letterB smallB greatB;decide),if_neg (by unfold digitB;decide),if_neg (by unfold pairB;cases l <;> simp),if_neg (by decide)]
theorem tokAt_10 (l:List UInt8):(tokAt (10::l)).1=0:=by
 rw [tokAt_cons,if_neg (by unfold letterB smallB greatB;decide),if_neg (by unfold digitB;decide),if_neg (by unfold pairB;cases l <;> simp),if_neg (by decide)]
theorem tokErr_kind {k:Int} {n:Nat} {c:UInt8} (h:tokErr k n c=0):k≠0:=by
 intro hk
 rw [tokErr_eq,if_pos hk] at h
 cases h
theorem drop_byte (s:ByteArray) (i:Nat) (h:i < s.size):s.data.toList.drop i=s[i]::s.data.toList.drop (i + 1):=by
 rw [List.drop_eq_getElem_cons (by simpa using h)];rfl
theorem ext_list (s:ByteArray) (i n:Nat):(s.extract i (i + n)).data.toList=(s.data.toList.drop i).take n:=by
 simp [ByteArray.data_extract,Array.toList_extract,List.extract_eq_take_drop]
theorem bytes_inj {a b:ByteArray} (h:a.data.toList=b.data.toList):a=b:=ByteArray.ext (Array.ext' h)
theorem scan_one (s:ByteArray) (i:Nat) (k:Int) (n:Nat) (h:i < s.size) (ht:tokAt (s.data.toList.drop i)=(k,n)) (he:tokErr k n s[i]=0) :
  scanAt s false i=(scanAt s false (i + n)).map (Tok.mk k i (s.extract i (i + n))::·):=by
 have hk:=tokErr_kind he
 have hd:=drop_byte s i h
 have hb:∀ c:UInt8,(∀ l,(tokAt (c::l)).1=0)→s[i]≠c:=by
  intro c hc e
  rw [hd,e] at ht
  have:=hc (s.data.toList.drop (i + 1))
  rw [ht] at this
  exact hk this
 have h37:=hb 37 tokAt_37
 have h32:=hb 32 tokAt_32
 have h9:=hb 9 tokAt_9
 have h10:=hb 10 tokAt_10
 have:=scanAt_tok s i h (by simpa using h37) (by simp [h32,h9,h10]) (by rw [ht];exact he)
 rw [ht] at this
 exact this
def Chain (s:ByteArray):Nat→List Tok→Prop
 | _,[]=>True
 | i,t::l=>∃ j,i≤j∧t.at_=j∧(∃ h:j < s.size,tokAt (s.data.toList.drop j)=(t.kind,t.text.size)∧tokErr t.kind t.text.size s[j]=0)∧j + t.text.size≤s.size∧t.text=s.extract j (j + t.text.size)∧Chain s (j + t.text.size) l
theorem Chain.mono {s:ByteArray} {i i':Nat} {l:List Tok} (h:Chain s i' l) (hi:i≤i'):Chain s i l:=by
 cases l with
 | nil=>trivial
 | cons t l =>
  obtain⟨j,h1,h2⟩:=h
  exact⟨j,Nat.le_trans hi h1,h2⟩
theorem scanGo_chain (s:ByteArray):∀ (f:Nat) (note:Bool) (i:Nat) (l:List Tok),scanGo s f note i = .ok l→Chain s i l:=by
 intro f
 induction f with
 | zero =>
  intro note i l h
  simp only [scanGo] at h
  cases h
  trivial
 | succ f ih =>
  intro note i l h
  simp only [scanGo] at h
  by_cases hi:i < s.size
  ·rw [dif_pos hi] at h
   split at h
   ·exact (ih _ _ _ h).mono (by omega)
   ·split at h
    ·exact (ih _ _ _ h).mono (by omega)
    ·split at h
     ·rename_i he
      cases hr:scanGo s f false (i + (tokAt (s.data.toList.drop i)).2) with
      | error e=>rw [hr] at h;cases h
      | ok l' =>
       rw [hr] at h
       cases h
       have hle:=tokAt_le (s.data.toList.drop i)
       rw [List.length_drop,show s.data.toList.length=s.size from Array.length_toList] at hle
       have hsz:(s.extract i (i + (tokAt (s.data.toList.drop i)).2)).size=(tokAt (s.data.toList.drop i)).2:=by rw [ByteArray.size_extract];omega
       exact⟨i,Nat.le_refl _,rfl,⟨hi,by rw [hsz],by rw [hsz];exact he⟩,by rw [hsz];omega,by rw [hsz],by rw [hsz];exact ih _ _ _ hr⟩
     ·cases h
  ·rw [dif_neg hi] at h
   cases h
   trivial
theorem scanGo_err (s:ByteArray):∀ (f:Nat) (note:Bool) (i:Nat) (p e:Int),scanGo s f note i = .error (p,e)→e≠0:=by
 intro f
 induction f with
 | zero =>
  intro note i p e h
  simp only [scanGo] at h
  cases h
 | succ f ih =>
  intro note i p e h
  simp only [scanGo] at h
  by_cases hi:i < s.size
  ·rw [dif_pos hi] at h
   split at h
   ·exact ih _ _ _ _ h
   ·split at h
    ·exact ih _ _ _ _ h
    ·split at h
     ·cases hr:scanGo s f false (i + (tokAt (s.data.toList.drop i)).2) with
      | error e'=>rw [hr] at h;cases h;exact ih _ _ _ _ hr
      | ok l'=>rw [hr] at h;cases h
     ·rename_i he
      injection h with h
      injection h with h1 h2
      rw [← h2];exact he
  ·rw [dif_neg hi] at h
   cases h
theorem scanS_chain (s:ByteArray) (l:List Tok) (p:Int) (h:scanS s=(l,p,0)):Chain s 0 l∧s.size≤5000∧p=0:=by
 unfold scanS at h
 split at h
 ·injection h with h1 h2;injection h2 with h2 h3;cases h3
 ·rename_i hs
  split at h
  ·rename_i l' hl
   injection h with h1 h2
   injection h2 with h2 h3
   subst h1
   unfold scanAt at hl
   exact⟨scanGo_chain _ _ _ _ _ hl,by omega,h2.symm⟩
  ·rename_i p' e hl
   injection h with h1 h2
   injection h2 with h2 h3
   subst h1
   unfold scanAt at hl
   exact absurd h3 (scanGo_err _ _ _ _ _ _ hl)
theorem isTok_eq (kind:Int) (s:ByteArray):isTok kind s=true↔∃ h:0 < s.size,s.size≤5000∧tokAt s.data.toList=(kind,s.size)∧tokErr kind s.size s[0]=0:=by
 unfold isTok
 by_cases h:0 < s.size
 ·rw [dif_pos h]
  simp only [Bool.and_eq_true,decide_eq_true_eq]
  constructor
  ·rintro⟨⟨⟨⟨h1,h2⟩,h3⟩,h4⟩,h5⟩
   exact⟨h,h1,Prod.ext h3 h4,h5⟩
  ·rintro⟨_,h1,h2,h3⟩
   exact⟨⟨⟨⟨h1,tokErr_kind h3⟩,by rw [h2]⟩,by rw [h2]⟩,h3⟩
 ·rw [dif_neg h]
  exact⟨fun h'=>absurd h' Bool.false_ne_true,fun⟨h',_⟩=>absurd h' h⟩
theorem oneS_eq (kind:Int) (s:ByteArray):oneS kind s=isTok kind s:=by
 rw [Bool.eq_iff_iff,isTok_eq]
 constructor
 ·intro h
  unfold oneS at h
  split at h
  ·rename_i t p e hs
   simp only [Bool.and_eq_true,decide_eq_true_eq] at h
   obtain⟨h1,h2,h3⟩:=h
   subst h1
   obtain⟨⟨j,g1,g2,⟨g3,g4,g5⟩,g6,g7,_⟩,hsz,_⟩:=scanS_chain s [t] p hs
   rw [h3] at g4 g5 g6
   have hj:j=0:=by omega
   subst hj
   rw [h2] at g4 g5
   exact⟨g3,hsz,g4,g5⟩
  ·cases h
 ·rintro⟨h,h1,h2,h3⟩
  have:=scan_one s 0 kind s.size h h2 h3
  rw [scanAt_end s false (0 + s.size) (by omega)] at this
  have hext:s.extract 0 (0 + s.size)=s:=bytes_inj (by rw [ext_list,List.drop_zero];exact List.take_of_length_le (Nat.le_of_eq (Array.length_toList (xs:=s.data))))
  rw [hext] at this
  unfold oneS
  rw [scanS_ok s (by omega) _ this]
  simp
end Go.Proofs.YtapciiffpnociadGreat
namespace Go.Proofs.YtapciiffpnociadGreat
open Go Go.RowKit
theorem name_eq:nameS=nameR:=by
 funext s
 unfold nameS nameR
 rw [oneS_eq]
theorem scheck_fn (p:Prg):Fn 109 [elPrg p] (fun x=>x = .d (.int .i64 (progE nameR p))):=name_eq▸check_fn p
def factsE (arity:List Int) (l:List Fct):Int:=if 60 < l.length then 2 else firstL (factE arity) l
def waysE (p:Prg) (n:Int) (l:List Fct):Int:=if progE nameR p≠0 then progE nameR p else if n < 0∨(p.rules.length:Int)≤n then 5 else factsE p.arity l
attribute [local irreducible] DW DS DL DQ Ev FnOk FnP thenD inBlockD DT
set_option maxHeartbeats 8000000 in
theorem right1_fn (n:Int):Fn 127 [.d (.int .i64 n)] (fun r=>r = .d (.bool (!numB n))):=by
 refine fnp_enter' _ Tryz.func127 rfl rfl (by kernel_rfl) ?_
 intro O w0 E0 β0
 repeat' (first|refine z0 ?_|apply ds_nil|apply dw_seq2|refine z16 ?_|apply dw_ret|apply thenD_n|refine z21 ?_ (hc:=by apply snumber_fn)|fail)
 exact⟨.inl rfl,_,rfl,rfl,rfl⟩
set_option maxHeartbeats 8000000 in
theorem fright_fn (p:Prg) (x:Fct):Fn 70 [elPrg p,elFct x] (fun r=>r = .d (.int .i64 (factE p.arity x))):=by
 refine fnp_enter' _ Tryz.func70 rfl rfl (by kernel_rfl) ?_
 intro O w0 E0 β0
 have la:(p.arity.map encI).length=p.arity.length:=List.length_map _
 have lx:(x.args.map encI).length=x.args.length:=List.length_map _
 refine dw_lenA 0 0 rfl rfl fun hk=>?_
 have w1:=containsFuncInt_fn (caps:=[]) (f:=127) (fun n=>!numB n) x.args rfl (fun n _=>right1_fn n)
 have w0:Fn 125 [.d (.int .i64 x.pred),.d (.int .i64 0),.d (.int .i64 (((p.arity.map encI).length:Int) - 1))] (fun r=>r = .d (.bool (inR x.pred 0 ((p.arity.length:Int) - 1)))):=by rw [la];exact swithin_fn _ _ _
 unfold factE
 cases h1:inR x.pred 0 ((p.arity.length:Int) - 1) with
 | false =>
  rw [h1] at w0
  rw [if_pos rfl]
  repeat' (first|refine z0 ?_|apply ds_nil|apply dw_seq2|refine z16 ?_|apply dw_block|apply dw_ret|refine z18 ?_|apply thenD_n|apply thenD_r|apply inB_r|refine z21 ?_ (hc:=by apply w0)|refine z1 ?_|fail)
  all_goals try (exfalso;omega)
  exact⟨.inl rfl,_,rfl,rfl,rfl⟩
 | true =>
  rw [h1] at w0
  rw [if_neg (by simp)]
  have hr:0≤x.pred∧x.pred < p.arity.length:=by unfold inR at h1;simp at h1;omega
  have hlt:x.pred.toNat < p.arity.length:=by omega
  have hg':p.arity.getD x.pred.toNat 0=p.arity[x.pred.toNat]:=by rw [List.getD,List.getElem?_eq_getElem hlt];rfl
  rw [hg']
  by_cases h2:(x.args.length:Int)≠p.arity[x.pred.toNat]
  ·rw [if_pos h2]
   repeat' (first|refine z0 ?_|apply ds_nil|refine z5 ?_|refine z10 ?_|apply dw_seq2|refine z16 ?_|refine z20 ?_|apply dw_block|apply dw_ret|refine z19 ?_|apply thenD_n|apply thenD_r|apply inB_r|refine z21 ?_ (hc:=by apply w0)|refine z1 ?_|(refine z23 ?_ ?_ <;> intro hg)|fail)
   all_goals try (exfalso;omega)
   exact⟨.inl rfl,_,rfl,rfl,rfl⟩
  ·rw [if_neg h2]
   cases h3:x.args.any (fun n=>!numB n) with
   | true =>
    rw [h3] at w1
    repeat' (first|refine z0 ?_|apply ds_nil|refine z5 ?_|refine z10 ?_|apply dw_seq2|refine z16 ?_|refine z20 ?_|apply dw_block|apply dw_ret|refine z18 ?_|refine z19 ?_|apply thenD_n|apply thenD_r|apply inB_r|refine z21 ?_ (hc:=by apply w0)|refine z21 ?_ (hc:=by apply w1)|refine z1 ?_|(refine z23 ?_ ?_ <;> intro hg)|fail)
    all_goals try (exfalso;omega)
    exact⟨.inl rfl,_,rfl,rfl,rfl⟩
   | false =>
    rw [h3] at w1
    repeat' (first|refine z0 ?_|apply ds_nil|refine z5 ?_|refine z10 ?_|apply dw_seq2|refine z16 ?_|refine z20 ?_|apply dw_block|apply dw_skip|apply dw_ret|refine z19 ?_|apply thenD_n|apply thenD_r|apply inB_n|apply inB_r|refine z21 ?_ (hc:=by apply w0)|refine z21 ?_ (hc:=by apply w1)|refine z1 ?_|(refine z23 ?_ ?_ <;> intro hg)|fail)
    all_goals try (exfalso;omega)
    exact⟨.inl rfl,_,rfl,rfl,rfl⟩
set_option maxHeartbeats 8000000 in
theorem keep_fn (l:List Fct) (g:FuncId) (caps:List SV) (pr:Fct→Bool) (hlow:SV.lowL 0 caps=true) (hl:l.length≤4398046511104) (hargs:∀ x∈l,x.args.length≤17592186044416) (hg:∀ x∈l,Fn g ([elFct x]++caps) (fun r=>r = .d (.bool (pr x)))) :
  Fn 73 [.d (.slice 2 (l.map encFct)),.fn g caps] (fun r=>∃ s:List Fct,s.Perm (l.filter pr)∧s.Pairwise (fun a b=>ordF b a ≥ 0)∧r = .d (.slice 2 ((cmpF s).map encFct))):=by
 refine fnp_enter' _ Tryz.func73 rfl rfl (by kernel_rfl) ?_
 intro O w0 E0 β0
 have ll:(l.map encFct).length=l.length:=List.length_map _
 have hlows:∀ k,SV.lowL k caps=true:=fun k=>SV.lowL_mono k caps hlow
 repeat' ((fail_if_success (apply dw_stop 0));(first|refine z0 ?_|apply ds_nil|apply dw_seq2|refine z16 ?_|apply dw_block|apply thenD_n))
 refine dw_ent (ent_nilrow (t:=5) 37 2 rfl) ?_
 repeat' fail
 refine ds_loop (ι:=Nat × List Fct) (fun x=>⟨1,[(1,.fn g caps),(5,.row 0),(8,.d (.slice 2 (l.map encFct))),(9,.d (.int .i64 l.length)),(10,.d (.int .i64 x.1))],[(0,.row 37 2 (x.2.map encFct))]⟩)
  (fun x=>x.1≤l.length∧x.2=(l.take x.1).filter pr) (fun x=>l.length - x.1) (0,[]) ⟨Nat.zero_le _,rfl⟩ (ent_ren id ⟨(SV.ren_id _).symm,rfl,rfl,by rw [← ll];rfl,rfl,trivial⟩ ⟨rfl,trivial⟩ (by simp [Sl.low,SV.low,hlows]) rfl rfl rfl rfl rfl) ?_
 rintro⟨i,o⟩ ⟨g1,g2⟩
 dsimp only at g1 g2 ⊢
 have lo:(o.map encFct).length=o.length:=List.length_map _
 have hol:o.length≤i:=by rw [g2];have:=List.length_filter_le pr (l.take i);rw [List.length_take] at this;omega
 by_cases hi:i < l.length
 ·have hm:=List.getElem_mem hi
  have hx:=hg _ hm
  have hw:=own_fn l[i] (hargs _ hm)
  have hll:SV.lowL 0 ([elFct l[i]]++caps)=true:=by simp [SV.lowL,SV.low,hlow]
  have hstep:(l.take (i + 1)).filter pr=o++(if pr l[i] then [l[i]] else []):=by
   rw [List.take_succ_eq_append_getElem hi,List.filter_append,← g2]
   congr 1
   simp [List.filter_cons]
  cases hb:pr l[i] with
  | true =>
   rw [hb] at hx
   rw [hb,if_pos rfl] at hstep
   repeat' (first|refine z0 ?_|apply ds_nil|apply dw_seq2|refine z16 ?_|apply dw_block|apply dw_skip|apply dw_exit|refine z18 ?_|apply thenD_n|apply thenD_e|apply inB_n|refine z17 ?_|(apply ds_callV;exact rfl;exact rfl;exact rfl;exact rfl;apply hx;exact rfl;(assumption);exact rfl;rintro _ rfl)|refine z21 ?_ (hc:=by apply hw)|refine z1 ?_|refine z3 ?_|refine z4 ?_|refine z2 ?_|(refine z23 ?_ ?_ <;> intro hg)|fail)
   all_goals try (exfalso;omega)
   exact⟨(i + 1,o++[l[i]]),⟨by dsimp only;omega,hstep.symm⟩,ent_ren (fun j=>match j with|0=>2|j=>j) ⟨(SV.ren_low0 _ (.fn g caps) hlow).symm,rfl,rfl,rfl,rfl,trivial⟩ ⟨by rw [List.map_append];rfl,trivial⟩ (by simp [Sl.low,SV.low,hlows]) rfl rfl rfl rfl rfl,by show l.length - (i + 1) < l.length - i;omega⟩
  | false =>
   rw [hb] at hx
   rw [hb,if_neg (by simp),List.append_nil] at hstep
   repeat' (first|refine z0 ?_|apply ds_nil|apply dw_seq2|refine z16 ?_|apply dw_block|apply dw_skip|apply dw_exit|refine z19 ?_|apply thenD_n|apply thenD_e|apply inB_n|refine z17 ?_|(apply ds_callV;exact rfl;exact rfl;exact rfl;exact rfl;apply hx;exact rfl;(assumption);exact rfl;rintro _ rfl)|refine z1 ?_|refine z3 ?_|(refine z23 ?_ ?_ <;> intro hg)|fail)
   all_goals try (exfalso;omega)
   exact⟨(i + 1,o),⟨by dsimp only;omega,hstep.symm⟩,ent_ren id ⟨(SV.ren_low0 _ (.fn g caps) hlow).symm,rfl,rfl,rfl,rfl,trivial⟩ ⟨rfl,trivial⟩ (by simp [Sl.low,SV.low,hlows]) rfl rfl rfl rfl rfl,by show l.length - (i + 1) < l.length - i;omega⟩
 ·rw [List.take_of_length_le (by omega)] at g2
  repeat' (first|refine z0 ?_|apply ds_nil|apply dw_seq2|refine z16 ?_|apply dw_block|apply dw_skip|apply dw_exit|apply thenD_n|apply thenD_e|refine z17 ?_|refine z1 ?_|refine z3 ?_|(refine z23 ?_ ?_ <;> intro hg)|fail)
  all_goals try (exfalso;omega)
  refine ds_sort sortFacts_c o (by kernel_rfl) rfl rfl rfl rfl rfl rfl (by omega) ?_
  intro s hp hs
  have hsl:s.length≤4398046511104:=by rw [hp.length_eq];omega
  refine ds_ent (ent_ren (k':=1) (L':=[(5,.row 0)]) (H':=[(0,.row 37 2 (s.map encFct))]) id ⟨rfl,trivial⟩ ⟨rfl,trivial⟩ rfl rfl rfl rfl rfl rfl) ?_
  repeat' (first|refine z0 ?_|apply ds_nil|apply dw_seq2|refine z16 ?_|apply thenD_n)
  all_goals try (exfalso;omega)
  (refine ds_callF id (compact_fn s hsl) rfl rfl rfl rfl ⟨rfl,trivial⟩ rfl rfl rfl rfl rfl rfl ?_ ?_)
  ·rintro k2 r H2 ⟨rfl,rfl⟩;exact⟨rfl,rfl⟩
  rintro k2 r H2 ⟨rfl,rfl⟩
  change DS _ _ _ _ _ _ _ _
  repeat' (first|refine z0 ?_|apply ds_nil|apply dw_ret|apply thenD_n)
  exact⟨.inl rfl,_,rfl,rfl,s,g2▸hp,hs,rfl⟩
end Go.Proofs.YtapciiffpnociadGreat
namespace Go.Proofs.YtapciiffpnociadGreat
open Go Go.RowKit
theorem FnP.imp {dr:Bool} {P:Program} {τ:List (Nat × TI)} {τok:TabOk P τ} {f:FuncId} {args:List SV} {R R':SV→Prop} (h:FnP dr P τ τok f args R) (g:∀ r,R r→R' r):FnP dr P τ τok f args R' :=
 ⟨h.1,fun O e w vs hH hr=>(h.2 O e w vs hH hr).mono fun _ _ ⟨k',r,H',e',v,⟨a,b,c⟩,d⟩=>⟨k',r,H',e',v,⟨a,b,g r c⟩,d⟩⟩
attribute [local irreducible] DW DS DL DQ Ev FnOk FnP thenD inBlockD DT
theorem keepS_fn (l:List Fct) (g:FuncId) (caps:List SV) (pr:Fct→Bool) (hlow:SV.lowL 0 caps=true) (hl:l.length≤4398046511104) (hargs:∀ x∈l,x.args.length≤17592186044416) (hg:∀ x∈l,Fn g ([elFct x]++caps) (fun r=>r = .d (.bool (pr x)))) :
  Fn 73 [.d (.slice 2 (l.map encFct)),.fn g caps] (fun r=>r = .d (.slice 2 ((setF' (l.filter pr)).map encFct))) :=
 FnP.imp (keep_fn l g caps pr hlow hl hargs hg) fun r ⟨s,h1,h2,h3⟩=>by rw [h3,keep_set h1 h2]
set_option maxHeartbeats 8000000 in
theorem set_fn (l:List Fct) (hl:l.length≤4398046511104) (hargs:∀ x∈l,x.args.length≤17592186044416):Fn 26 [.d (.slice 2 (l.map encFct))] (fun r=>r = .d (.slice 2 ((setF' l).map encFct))):=by
 refine fnp_enter' _ Tryz.func26 rfl rfl (by kernel_rfl) ?_
 intro O w0 E0 β0
 have hk:=keepS_fn l 74 [] (fun _=>true) rfl hl hargs (fun x _=>setAny_fn x)
 rw [show l.filter (fun _=>true)=l from List.filter_eq_self.2 fun _ _=>rfl] at hk
 repeat' (first|refine z0 ?_|apply ds_nil|apply dw_seq2|refine z16 ?_|apply dw_ret|apply thenD_n|refine z21 ?_ (hc:=by apply hk)|fail)
 exact⟨.inl rfl,_,rfl,rfl,rfl⟩
def minI (n y:Int):Int:=if y < n then y else n
def maxI (n y:Int):Int:=if n < y then y else n
def minL:List Int→Int
 | []=>0
 | x::l=>l.foldl minI x
def maxL:List Int→Int
 | []=>0
 | x::l=>l.foldl maxI x
def stepN (fold:Int) (st:Int × Int) (x:Int):Int × Int :=
 (if fold=1 then st.2 + 1 else if fold=2 then st.1 + x else if st.2 + 1=1∨(fold=3∧x < st.1)∨(fold=4∧st.1 < x) then x else st.1,st.2 + 1)
def foldN (fold:Int) (l:List Int):Int:=(l.foldl (stepN fold) (0,0)).1
def valP (fold:Int) (l:List Int):Int:=if fold=1 then l.length else if fold=3 then minL l else if fold=4 then maxL l else l.sum
def okP (fold:Int) (l:List Int):Bool:=if fold=1∨fold=3∨fold=4 then true else numB l.sum
theorem stepN_1:∀ (l:List Int) (n m:Int),l≠[]→(l.foldl (stepN 1) (n,m)).1=m + l.length
 | [x],n,m,_=>by simp [stepN]
 | x::y::l,n,m,_=>by
  rw [List.foldl_cons,show stepN 1 (n,m) x=(m + 1,m + 1) by simp [stepN],stepN_1 (y::l) _ _ (by simp)]
  simp only [List.length_cons];omega
theorem stepN_2:∀ (l:List Int) (n m:Int),(l.foldl (stepN 2) (n,m)).1=n + l.sum
 | [],n,m=>by simp
 | x::l,n,m=>by
  rw [List.foldl_cons,show stepN 2 (n,m) x=(n + x,m + 1) by simp [stepN],stepN_2 l,List.sum_cons];omega
theorem stepN_3:∀ (l:List Int) (n m:Int),1≤m→(l.foldl (stepN 3) (n,m)).1=l.foldl minI n
 | [],n,m,_=>rfl
 | x::l,n,m,hm=>by
  have:stepN 3 (n,m) x=(minI n x,m + 1):=by
   unfold stepN minI
   have:¬ (m + 1=1):=by omega
   simp [this]
  rw [List.foldl_cons,this,stepN_3 l _ _ (by omega),List.foldl_cons]
theorem stepN_4:∀ (l:List Int) (n m:Int),1≤m→(l.foldl (stepN 4) (n,m)).1=l.foldl maxI n
 | [],n,m,_=>rfl
 | x::l,n,m,hm=>by
  have:stepN 4 (n,m) x=(maxI n x,m + 1):=by
   unfold stepN maxI
   have:¬ (m + 1=1):=by omega
   simp [this]
  rw [List.foldl_cons,this,stepN_4 l _ _ (by omega),List.foldl_cons]
theorem minI_in {P:Int→Prop}:∀ (l:List Int) (n:Int),P n→(∀ x∈l,P x)→P (l.foldl minI n)
 | [],_,h,_=>h
 | x::l,n,h,hl=>by
  rw [List.foldl_cons]
  refine minI_in l _ ?_ fun y hy=>hl y (List.mem_cons_of_mem _ hy)
  unfold minI;split
  ·exact hl x (List.mem_cons_self ..)
  ·exact h
theorem maxI_in {P:Int→Prop}:∀ (l:List Int) (n:Int),P n→(∀ x∈l,P x)→P (l.foldl maxI n)
 | [],_,h,_=>h
 | x::l,n,h,hl=>by
  rw [List.foldl_cons]
  refine maxI_in l _ ?_ fun y hy=>hl y (List.mem_cons_of_mem _ hy)
  unfold maxI;split
  ·exact hl x (List.mem_cons_self ..)
  ·exact h
theorem numB_of {n:Int} (h:-1000000≤n∧n≤1000000):numB n=true:=by unfold numB inR;simp;omega
theorem fold_same {fold:Int} {l:List Int} (hf:fold=1∨fold=2∨fold=3∨fold=4) (hl:l≠[]) (hn:∀ x∈l,-1000000≤x∧x≤1000000) (hlen:l.length≤1000000) :
  foldN fold l=valP fold l∧numB (foldN fold l)=okP fold l:=by
 have key:foldN fold l=valP fold l:=by
  unfold foldN valP
  rcases hf with rfl|rfl|rfl|rfl
  ·rw [stepN_1 l _ _ hl];simp
  ·rw [stepN_2];simp
  ·obtain⟨x,l,rfl⟩:=List.exists_cons_of_ne_nil hl
   rw [List.foldl_cons,show stepN 3 (0,0) x=(x,1) by simp [stepN],stepN_3 _ _ _ (by omega)]
   simp [minL]
  ·obtain⟨x,l,rfl⟩:=List.exists_cons_of_ne_nil hl
   rw [List.foldl_cons,show stepN 4 (0,0) x=(x,1) by simp [stepN],stepN_4 _ _ _ (by omega)]
   simp [maxL]
 refine⟨key,?_⟩
 rw [key]
 unfold valP okP
 rcases hf with rfl|rfl|rfl|rfl
 ·simp only [if_true,true_or];exact numB_of (by omega)
 ·simp
 ·obtain⟨x,l,rfl⟩:=List.exists_cons_of_ne_nil hl
  simp only [show ¬ ((3:Int)=1) by omega,if_false,if_true,true_or,or_true]
  exact numB_of (minI_in (P:=fun z=>-1000000≤z∧z≤1000000) l x (hn x (List.mem_cons_self ..)) fun y hy=>hn y (List.mem_cons_of_mem _ hy))
 ·obtain⟨x,l,rfl⟩:=List.exists_cons_of_ne_nil hl
  simp only [show ¬ ((4:Int)=1) by omega,show ¬ ((4:Int)=3) by omega,if_false,if_true,or_true]
  exact numB_of (maxI_in (P:=fun z=>-1000000≤z∧z≤1000000) l x (hn x (List.mem_cons_self ..)) fun y hy=>hn y (List.mem_cons_of_mem _ hy))
abbrev Gr:=List Int × List Int
def grpL (ws:List (List Int × Int)) (p:List Int):List Int:=(ws.filter fun w=>decide (w.1=p)).map (·.2)
def addG (gs:List Gr) (w:List Int × Int):List Gr:=match gs[gs.findIdx fun g=>decide (g.1=w.1)]? with
 | some g=>gs.set (gs.findIdx fun g=>decide (g.1=w.1)) (g.1,g.2++[w.2])
 | none=>gs++[(w.1,[w.2])]
def groupsL (ws:List (List Int × Int)):List Gr:=ws.foldl addG []
structure InvG (gs:List Gr) (ws:List (List Int × Int)):Prop where
 uniq:∀ (j k:Nat) (g h:Gr),gs[j]? = some g→gs[k]? = some h→g.1=h.1→j=k
 vals:∀ g∈gs,g.2=grpL ws g.1
 here:∀ g∈gs,∃ w∈ws,w.1=g.1
 all:∀ w∈ws,∃ g∈gs,g.1=w.1
theorem grpL_snoc (ws:List (List Int × Int)) (w:List Int × Int) (p:List Int):grpL (ws++[w]) p=grpL ws p++if w.1=p then [w.2] else []:=by
 unfold grpL
 rw [List.filter_append,List.map_append]
 congr 1
 by_cases h:w.1=p
 ·simp [h]
 ·simp [h]
theorem grpL_none {ws:List (List Int × Int)} {p:List Int} (h:∀ w∈ws,w.1≠p):grpL ws p=[]:=by
 unfold grpL
 rw [List.filter_eq_nil_iff.2 fun w hw=>by simpa using h w hw];rfl
theorem addG_inv {gs:List Gr} {ws:List (List Int × Int)} {w:List Int × Int} (h:InvG gs ws):InvG (addG gs w) (ws++[w]):=by
 unfold addG
 cases hx:gs[gs.findIdx fun g=>decide (g.1=w.1)]? with
 | none =>
  have hn:∀ g∈gs,g.1≠w.1:=by
   intro g hg he
   have:=List.findIdx_lt_length_of_exists (xs:=gs) (p:=fun g=>decide (g.1=w.1)) ⟨g,hg,decide_eq_true he⟩
   rw [List.getElem?_eq_getElem this] at hx;cases hx
  refine⟨fun j k g g' hj hk he=>?_,fun g hg=>?_,fun g hg=>?_,fun x hx=>?_⟩
  ·rw [List.getElem?_append] at hj hk
   by_cases h1:j < gs.length <;> by_cases h2:k < gs.length
   ·rw [if_pos h1] at hj;rw [if_pos h2] at hk;exact h.uniq j k g g' hj hk he
   ·rw [if_pos h1] at hj;rw [if_neg h2] at hk
    have hg':g' = (w.1,[w.2]):=by
     by_cases h3:k - gs.length=0
     ·rw [h3] at hk;simpa using hk.symm
     ·rw [List.getElem?_eq_none (by simp;omega)] at hk;cases hk
    rw [hg'] at he
    exact absurd he (hn g (List.mem_of_getElem? hj))
   ·rw [if_neg h1] at hj;rw [if_pos h2] at hk
    have hg':g=(w.1,[w.2]):=by
     by_cases h3:j - gs.length=0
     ·rw [h3] at hj;simpa using hj.symm
     ·rw [List.getElem?_eq_none (by simp;omega)] at hj;cases hj
    rw [hg'] at he
    exact absurd he.symm (hn g' (List.mem_of_getElem? hk))
   ·rw [if_neg h1] at hj;rw [if_neg h2] at hk
    have h3:j - gs.length=0:=by
     apply Classical.byContradiction;intro h3
     rw [List.getElem?_eq_none (by simp;omega)] at hj;cases hj
    have h4:k - gs.length=0:=by
     apply Classical.byContradiction;intro h4
     rw [List.getElem?_eq_none (by simp;omega)] at hk;cases hk
    omega
  ·rw [grpL_snoc]
   rcases List.mem_append.1 hg with hg|hg
   ·rw [if_neg (Ne.symm (hn g hg)),List.append_nil];exact h.vals g hg
   ·rw [List.mem_singleton] at hg;subst hg
    rw [if_pos rfl,grpL_none fun x hx he=>?_];· rfl
    obtain⟨g,hg,hge⟩:=h.all x hx
    exact hn g hg (hge.trans he)
  ·rcases List.mem_append.1 hg with hg|hg
   ·obtain⟨x,h1,h2⟩:=h.here g hg;exact⟨x,List.mem_append_left _ h1,h2⟩
   ·rw [List.mem_singleton] at hg;subst hg;exact⟨w,List.mem_append_right _ (by simp),rfl⟩
  ·rcases List.mem_append.1 hx with hx|hx
   ·obtain⟨g,h1,h2⟩:=h.all x hx;exact⟨g,List.mem_append_left _ h1,h2⟩
   ·rw [List.mem_singleton] at hx;subst hx;exact⟨_,List.mem_append_right _ (List.mem_singleton.2 rfl),rfl⟩
 | some g0 =>
  obtain⟨hi,hg0⟩:=List.getElem?_eq_some_iff.1 hx
  have hk0:g0.1=w.1:=by
   have:=List.findIdx_getElem (xs:=gs) (p:=fun g=>decide (g.1=w.1)) (w:=hi)
   rw [hg0] at this
   exact of_decide_eq_true this
  simp only
  generalize gs.findIdx (fun g=>decide (g.1=w.1))=i at hx hi hg0
  have hget:∀ (j:Nat) (g:Gr),(gs.set i (g0.1,g0.2++[w.2]))[j]? = some g→∃ g',gs[j]? = some g'∧g.1=g'.1∧((j=i∧g=(g0.1,g0.2++[w.2]))∨(j≠i∧g=g')):=by
   intro j g hj
   by_cases hq:i=j
   ·subst hq
    rw [List.getElem?_set_self hi] at hj
    cases hj
    exact⟨g0,hx,rfl,.inl ⟨rfl,rfl⟩⟩
   ·rw [List.getElem?_set_ne hq] at hj
    exact⟨g,hj,rfl,.inr ⟨Ne.symm hq,rfl⟩⟩
  refine⟨fun j k g g' hj hk he=>?_,fun g hg=>?_,fun g hg=>?_,fun x hx'=>?_⟩
  ·obtain⟨a,a1,a2,_⟩:=hget j g hj
   obtain⟨b,b1,b2,_⟩:=hget k g' hk
   exact h.uniq j k a b a1 b1 (a2.symm.trans (he.trans b2))
  ·obtain⟨j,hj⟩:=List.getElem?_of_mem hg
   obtain⟨a,a1,a2,a3⟩:=hget j g hj
   rw [grpL_snoc]
   rcases a3 with ⟨rfl,rfl⟩|⟨a3,rfl⟩
   ·rw [if_pos hk0.symm]
    simp only
    rw [h.vals g0 (List.mem_of_getElem? hx)]
   ·rw [if_neg fun he=>a3 (h.uniq j i g g0 a1 hx (he.symm.trans hk0.symm)),List.append_nil]
    exact h.vals g (List.mem_of_getElem? a1)
  ·obtain⟨j,hj⟩:=List.getElem?_of_mem hg
   obtain⟨a,a1,a2,_⟩:=hget j g hj
   obtain⟨x,h1,h2⟩:=h.here a (List.mem_of_getElem? a1)
   exact⟨x,List.mem_append_left _ h1,h2.trans a2.symm⟩
  ·have hmem:∀ a∈gs,∃ g∈gs.set i (g0.1,g0.2++[w.2]),g.1=a.1:=by
    intro a ha
    obtain⟨j,hj⟩:=List.getElem?_of_mem ha
    by_cases hq:i=j
    ·subst hq
     rw [hx] at hj;cases hj
     exact⟨_,List.mem_of_getElem? (List.getElem?_set_self hi),rfl⟩
    ·exact⟨a,List.mem_of_getElem? ((List.getElem?_set_ne hq).trans hj),rfl⟩
   rcases List.mem_append.1 hx' with hx'|hx'
   ·obtain⟨a,h1,h2⟩:=h.all x hx'
    obtain⟨g,k1,k2⟩:=hmem a h1
    exact⟨g,k1,k2.trans h2⟩
   ·rw [List.mem_singleton] at hx';subst hx'
    obtain⟨g,k1,k2⟩:=hmem g0 (List.mem_of_getElem? hx)
    exact⟨g,k1,k2.trans hk0⟩
theorem groups_inv':∀ (ws vs:List (List Int × Int)) (gs:List Gr),InvG gs vs→InvG (ws.foldl addG gs) (vs++ws)
 | [],vs,gs,h=>by rw [List.append_nil];exact h
 | w::ws,vs,gs,h=>by
  have:=groups_inv' ws (vs++[w]) (addG gs w) (addG_inv h)
  rw [List.append_assoc] at this
  exact this
theorem groups_inv (ws:List (List Int × Int)):InvG (groupsL ws) ws:=by
 have:=groups_inv' ws [] [] ⟨fun _ _ _ _ h=>by simp at h,fun _ h=>by simp at h,fun _ h=>by simp at h,fun _ h=>by simp at h⟩
 rw [List.nil_append] at this
 exact this
def aW (r:Rul) (w:List Int):List Int:=r.terms.map (vA w)
def pW (r:Rul) (w:List Int):List Int × Int:=((aW r w).take (r.terms.length - 1),(aW r w).getD (r.terms.length - 1) 0)
def headsD (r:Rul) (ways:List (List Int)):List Fct:=if r.fold=0 then ways.map fun w=>⟨r.pred,aW r w⟩
 else ways.filterMap fun w=>if numB (foldN r.fold (grpL (ways.map (pW r)) (pW r w).1)) then some ⟨r.pred,(pW r w).1++[foldN r.fold (grpL (ways.map (pW r)) (pW r w).1)]⟩ else none
def headsP (r:Rul) (ways:List (List Int)):List Fct:=if r.fold=0 then ways.map fun w=>⟨r.pred,aW r w⟩
 else (groupsL (ways.map (pW r))).filterMap fun g=>if okP r.fold g.2 then some ⟨r.pred,g.1++[valP r.fold g.2]⟩ else none
theorem heads_mem {r:Rul} {ways:List (List Int)} (hf:0≤r.fold∧r.fold≤4) (hn:∀ w∈ways,-1000000≤(pW r w).2∧(pW r w).2≤1000000) (hlen:ways.length≤1000000):∀ x,x∈headsP r ways↔x∈headsD r ways:=by
 intro x
 unfold headsP headsD
 by_cases h0:r.fold=0
 ·rw [if_pos h0,if_pos h0]
 ·rw [if_neg h0,if_neg h0]
  have hI:=groups_inv (ways.map (pW r))
  have hfs:∀ p,(∃ w∈ways.map (pW r),w.1=p)→foldN r.fold (grpL (ways.map (pW r)) p)=valP r.fold (grpL (ways.map (pW r)) p)∧numB (foldN r.fold (grpL (ways.map (pW r)) p))=okP r.fold (grpL (ways.map (pW r)) p):=by
   rintro p ⟨w,hw,rfl⟩
   refine fold_same (by omega) ?_ ?_ ?_
   ·unfold grpL
    intro hc
    have:w.2∈((ways.map (pW r)).filter fun z=>decide (z.1=w.1)).map (·.2):=List.mem_map.2 ⟨w,List.mem_filter.2 ⟨hw,by simp⟩,rfl⟩
    rw [hc] at this;simp at this
   ·intro y hy
    obtain⟨z,hz,rfl⟩:=List.mem_map.1 hy
    obtain⟨u,hu,rfl⟩:=List.mem_map.1 (List.mem_filter.1 hz).1
    exact hn u hu
   ·unfold grpL
    rw [List.length_map]
    refine Nat.le_trans (List.length_filter_le _ _) ?_
    rw [List.length_map];exact hlen
  rw [List.mem_filterMap,List.mem_filterMap]
  constructor
  ·rintro⟨g,hg,hx⟩
   obtain⟨w,hw,hwg⟩:=hI.here g hg
   obtain⟨u,hu,rfl⟩:=List.mem_map.1 hw
   obtain⟨f1,f2⟩:=hfs g.1 ⟨_,hw,hwg⟩
   refine⟨u,hu,?_⟩
   rw [hwg,f2,f1,← hI.vals g hg];exact hx
  ·rintro⟨u,hu,hx⟩
   obtain⟨g,hg,hwg⟩:=hI.all (pW r u) (List.mem_map_of_mem hu)
   obtain⟨f1,f2⟩:=hfs g.1 ⟨_,List.mem_map_of_mem hu,hwg.symm⟩
   refine⟨g,hg,?_⟩
   rw [hI.vals g hg,← f1,← f2,hwg];exact hx
theorem heads_set {r:Rul} {ways:List (List Int)} (hf:0≤r.fold∧r.fold≤4) (hn:∀ w∈ways,-1000000≤(pW r w).2∧(pW r w).2≤1000000) (hlen:ways.length≤1000000):setF' (headsP r ways)=setF' (headsD r ways) :=
 strict_ext (setF_spec _).1 (setF_spec _).1 fun x=>by rw [(setF_spec _).2,(setF_spec _).2,heads_mem hf hn hlen]
def ruleAt (p:Prg) (n:Int):Rul:=p.rules.getD n.toNat ⟨0,[],0,[],0⟩
def wayE (p:Prg) (n:Int) (l:List Fct):Int:=if waysE p n l≠0 then waysE p n l else if manyW (setF' l) (ruleAt p n) then 0 else 2
def wayL (p:Prg) (n:Int) (l:List Fct):List (List Int):=if waysE p n l=0 then rawW (setF' l) (ruleAt p n) else []
theorem ruleAt_get {p:Prg} {n:Int} (h:n.toNat < p.rules.length):ruleAt p n=p.rules[n.toNat]:=by unfold ruleAt;rw [List.getD,List.getElem?_eq_getElem h];rfl
theorem rulS_mk {arity:List Int} {S:List Fct} {r:Rul} (hr:RulR arity r) (ha:∀ i,0≤arity.getD i 0∧arity.getD i 0≤3) (hS:∀ x∈S,FctOk arity x):RulS S r:=by
 have hv:=hr.vars
 refine⟨⟨fun l hl=>lit_okL (hr.lits l hl) hv.1 hS,fun l hl hk=>?_,fun l hl t ht=>?_,fun x hx=>(hS x hx).nums,hr.body,by omega,fun l hl=>?_⟩,safe_Bd hr.safe,hv⟩
 ·obtain⟨_,h2,_⟩:=litE_right (hr.lits l hl)
  unfold opB inR at h2
  rw [if_pos hk] at h2
  simp only [Bool.and_eq_true,decide_eq_true_eq] at h2
  exact h2
 ·exact ((litE_right (hr.lits l hl)).2.2.2.2 t ht).2.2
 ·obtain⟨h1,_,h3,h4,_⟩:=litE_right (hr.lits l hl)
  by_cases hk:l.kind=1∨l.kind=2
  ·have:=(h3 hk).2
   have:=ha l.pred.toNat
   omega
  ·have:=(h4 hk).2
   omega
set_option maxHeartbeats 8000000 in
theorem args_fn (l:List Trm) (a:List Int) (hok:∀ t∈l,okT a.length t) (hl:l.length≤1000000):Fn 99 [.d (.slice 2 (l.map encTrm)),.d (.slice 1 (a.map encI))] (fun r=>r = .d (.slice 1 ((l.map (vA a)).map encI))):=by
 refine fnp_enter' _ Tryz.func99 rfl rfl (by kernel_rfl) ?_
 intro O w0 E0 β0
 have ll:(l.map encTrm).length=l.length:=List.length_map _
 have la:(a.map encI).length=a.length:=List.length_map _
 repeat' (first|(apply ds_bs0;exact rfl;exact rfl;exact rfl;exact rfl;exact rfl;exact rfl;exact rfl;exact rfl)|(first|refine z0 ?_|apply ds_nil|apply dw_seq2|refine z16 ?_|apply dw_block|apply thenD_n))
 refine ds_loop (ι:=Nat) (fun i=>⟨1,[(0,.d (.slice 2 (l.map encTrm))),(1,.d (.slice 1 (a.map encI))),(5,.row 0),(9,.d (.slice 2 (l.map encTrm))),(10,.d (.int .i64 l.length)),(11,.d (.int .i64 i))],[(0,.row 3 1 (((l.take i).map (vA a)).map encI))]⟩)
  (fun i=>i≤l.length) (fun i=>l.length - i) 0 (Nat.zero_le _) (ent_ren id ⟨rfl,rfl,rfl,rfl,by rw [← ll];rfl,rfl,trivial⟩ ⟨rfl,trivial⟩ rfl rfl rfl rfl rfl rfl) ?_
 intro i g1
 by_cases hi:i < l.length
 ·have ho:=hok _ (List.getElem_mem hi)
  unfold okT at ho
  have ht:l.take (i + 1)=l.take i++[l[i]]:=List.take_succ_eq_append_getElem hi
  by_cases hv:l[i].var < 0
  ·have hva:vA a l[i]=l[i].n:=by unfold vA;rw [if_pos hv]
   repeat' (first|refine z0 ?_|apply ds_nil|apply dw_seq2|refine z16 ?_|apply dw_block|apply dw_skip|apply dw_exit|apply thenD_n|apply thenD_e|apply inB_n|refine z17 ?_|refine z1 ?_|refine z3 ?_|refine z4 ?_|refine z2 ?_|(refine z23 ?_ ?_ <;> intro hg)|fail)
   all_goals try (exfalso;omega)
   exact⟨i + 1,hi,ent_ren (fun _=>2) ⟨rfl,rfl,rfl,rfl,rfl,rfl,trivial⟩ ⟨by rw [ht,List.map_append,List.map_append,List.map_singleton,hva];rfl,trivial⟩ rfl rfl rfl rfl rfl rfl,by omega⟩
  ·have hlt:l[i].var.toNat < a.length:=by omega
   have hva:vA a l[i]=a[l[i].var.toNat]:=by unfold vA;rw [if_neg hv,List.getD,List.getElem?_eq_getElem hlt];rfl
   repeat' (first|refine z0 ?_|apply ds_nil|apply dw_seq2|refine z16 ?_|apply dw_block|apply dw_skip|apply dw_exit|apply thenD_n|apply thenD_e|apply inB_n|refine z17 ?_|refine z1 ?_|refine z3 ?_|refine z4 ?_|refine z2 ?_|(refine z23 ?_ ?_ <;> intro hg)|fail)
   all_goals try (exfalso;omega)
   exact⟨i + 1,hi,ent_ren (fun _=>2) ⟨rfl,rfl,rfl,rfl,rfl,rfl,trivial⟩ ⟨by rw [ht,List.map_append,List.map_append,List.map_singleton,hva];rfl,trivial⟩ rfl rfl rfl rfl rfl rfl,by omega⟩
 ·rw [List.take_of_length_le (by omega)]
  repeat' (first|refine z0 ?_|apply ds_nil|apply dw_seq2|refine z16 ?_|apply dw_block|apply dw_skip|apply dw_exit|apply thenD_n|apply thenD_e|apply inB_n|refine z17 ?_|refine z1 ?_|refine z3 ?_|refine z4 ?_|refine z2 ?_|(refine z23 ?_ ?_ <;> intro hg)|fail)
  all_goals try (exfalso;omega)
  refine dw_ent (ent_seal 4 rfl rfl rfl) ?_
  repeat' (apply dw_ret)
  exact⟨.inl rfl,_,rfl,rfl,rfl⟩

structure HeadOk (arity:List Int) (r:Rul) (ways:List (List Int)):Prop where
 rul:RulR arity r
 many:ways.length≤2000
 len:∀ w∈ways,w.length=r.vars.toNat
 nums:∀ w∈ways,∀ y∈w,-1000000≤y∧y≤1000000
 tlen:r.terms.length≤3
def headD (r:Rul) (ways:List (List Int)) (w:List Int):Option Fct:=if r.fold=0 then some ⟨r.pred,aW r w⟩
 else if numB (foldN r.fold (grpL (ways.map (pW r)) (pW r w).1)) then some ⟨r.pred,(pW r w).1++[foldN r.fold (grpL (ways.map (pW r)) (pW r w).1)]⟩ else none
theorem headsD_eq (r:Rul) (ways:List (List Int)):headsD r ways=ways.filterMap (headD r ways):=by
 unfold headsD
 by_cases h:r.fold=0
 ·rw [if_pos h,← List.filterMap_eq_map]
  congr 1
  funext w
  unfold headD
  rw [if_pos h];rfl
 ·rw [if_neg h]
  congr 1
  funext w
  unfold headD
  rw [if_neg h]
theorem HeadOk.terms {arity:List Int} {r:Rul} {ways:List (List Int)} (h:HeadOk arity r ways) {w:List Int} (hw:w∈ways):∀ t∈r.terms,okT w.length t:=by
 intro t ht
 have h1:=h.rul.terms t ht
 have h2:=h.rul.vars
 rw [h.len w hw]
 unfold okT
 omega
theorem HeadOk.vals {arity:List Int} {r:Rul} {ways:List (List Int)} (h:HeadOk arity r ways) {w:List Int} (hw:w∈ways):∀ x∈aW r w,-1000000≤x∧x≤1000000:=by
 intro x hx
 obtain⟨t,ht,rfl⟩:=List.mem_map.1 hx
 unfold vA
 split
 ·exact (h.rul.terms t ht).2.2
 ·rename_i hv
  have hlt:t.var.toNat < w.length:=by have:=h.terms hw t ht;unfold okT at this;omega
  rw [List.getD,List.getElem?_eq_getElem hlt]
  exact h.nums w hw _ (List.getElem_mem hlt)
theorem filterMap_take {α β:Type} (f:α→Option β) {l:List α} {i:Nat} (hi:i < l.length):(l.take (i + 1)).filterMap f=(l.take i).filterMap f++(f l[i]).toList:=by
 rw [List.take_succ_eq_append_getElem hi,List.filterMap_append,List.filterMap_cons,List.filterMap_nil]
 cases f l[i] <;> rfl
theorem filterMap_len {α β:Type} (f:α→Option β) (l:List α) (i:Nat):((l.take i).filterMap f).length≤i:=Nat.le_trans (List.length_filterMap_le _ _) (by rw [List.length_take];omega)
theorem outE_num {e:RE} (h:numE e):∀ y∈outE e,-1000000≤y∧y≤1000000:=by
 intro y hy
 obtain⟨x,hx,rfl⟩:=List.mem_map.1 hy
 obtain⟨v,hv⟩:=List.getElem?_of_mem hx
 cases x with
 | none=>simp
 | some z=>exact h v z hv
theorem fromE_num {S:List Fct} {body:List Ltl}:∀ (ys:List Ltl) (e:RE),okB S e.length body→(∀ l∈ys,l∈body∧l.kind=1)→numE e→∀ a∈fromE S body ys e,∀ y∈a,-1000000≤y∧y≤1000000
 | [],e,hok,_,hn,a,ha=>by
  rw [fromE] at ha
  cases hr:recN body (body.length + 1) e with
  | none=>rw [hr] at ha;simp at ha
  | some e' =>
   rw [hr] at ha
   simp only at ha
   split at ha
   ·simp at ha
   ·rw [List.mem_singleton] at ha
    subst ha
    exact outE_num (recN_num hok hn hr)
 | l::ys,e,hok,hys,hn,a,ha=>by
  rw [fromE] at ha
  cases hr:recN body (body.length + 1) e with
  | none=>rw [hr] at ha;simp at ha
  | some e' =>
   rw [hr] at ha
   simp only at ha
   obtain⟨g1,_⟩:=recN_some hok.lit hr
   have hn':=recN_num hok hn hr
   obtain⟨hl,hl1⟩:=hys l (List.mem_cons_self ..)
   split at ha
   ·simp at ha
   ·unfold litW at ha
    rw [if_pos hl1,List.mem_flatMap] at ha
    obtain⟨x,hx,ha⟩:=ha
    split at ha
    ·rename_i hp
     split at ha
     ·rename_i e'' he''
      have hlk:=hok.lit l hl
      obtain⟨k1,_⟩:=matchE_some (hlk.facts hl1 x hx hp).symm (by rw [g1];exact hlk.terms) he''
      exact fromE_num ys e'' (by rw [k1,g1];exact hok) (fun l hl=>hys l (List.mem_cons_of_mem _ hl)) (matchE_num hn' (hok.facts x hx) he'') a ha
     ·simp at ha
    ·simp at ha
theorem way_num {S:List Fct} {v:Nat} {body:List Ltl} (hok:okB S v body) {a:List Int} (ha:a∈fromE S body (yesOf body) (e0 v)):∀ y∈a,-1000000≤y∧y≤1000000 :=
 fromE_num (yesOf body) (e0 v) (by rw [show (e0 v).length=v from List.length_replicate];exact hok) (fun l hl=>⟨(List.mem_filter.1 hl).1,of_decide_eq_true (List.mem_filter.1 hl).2⟩)
  (fun u x hx=>by unfold e0 at hx;rw [List.getElem?_replicate] at hx;split at hx <;> simp at hx) a ha
set_option maxHeartbeats 8000000 in
theorem made0_fn (arity:List Int) (r:Rul) (ways:List (List Int)) (hok:HeadOk arity r ways) (h0:r.fold=0):Fn 61 [elRul r,.d (.slice 1 (ways.map encW))] (fun res=>res = .d (.slice 2 ((setF' (headsD r ways)).map encFct))):=by
 refine fnp_enter' _ Tryz.func61 rfl rfl (by kernel_rfl) ?_
 intro O w0 E0 β0
 rw [headsD_eq]
 have hmany:=hok.many
 have htl:=hok.tlen
 have lw:(ways.map encW).length=ways.length:=List.length_map _
 have lt:(r.terms.map encTrm).length=r.terms.length:=List.length_map _
 have hal:∀ x∈ways.filterMap (headD r ways),x.args.length≤17592186044416:=by
  intro x hx
  obtain⟨w,hw,hx⟩:=List.mem_filterMap.1 hx
  unfold headD at hx
  rw [if_pos h0] at hx
  simp only [Option.some.injEq] at hx
  subst hx
  unfold aW
  simp only [List.length_map];omega
 have wset:=set_fn (ways.filterMap (headD r ways)) (Nat.le_trans (List.length_filterMap_le _ _) (by omega)) hal
 repeat' ((fail_if_success (apply dw_stopR 2));(first|refine z0 ?_|apply ds_nil|apply dw_seq2|refine z16 ?_|apply thenD_n|refine z1 ?_|fail))
 refine dw_ent (ent_nilrow (t:=5) 37 2 rfl) ?_
 repeat' (first|refine z0 ?_|apply ds_nil|apply dw_seq2|refine z16 ?_|apply dw_block|apply dw_skip|apply thenD_n|refine z1 ?_|refine z3 ?_|(refine z23 ?_ ?_ <;> intro hg)|fail)
 all_goals try (exfalso;omega)
 refine ds_loop (ι:=Nat) (fun i=>⟨2,[(1,.d (.slice 1 (ways.map encW))),(2,.loc 0 0),(5,.row 1),(21,.d (.slice 1 (ways.map encW))),(22,.d (.int .i64 ways.length)),(23,.d (.int .i64 i))],[(0,.blk 64 [.d (.int .i64 r.pred),.d (.slice 2 (r.terms.map encTrm)),.d (.int .i64 r.fold),.d (.slice 4 (r.body.map encLtl)),.d (.int .i64 r.vars)]),(1,.row 37 2 (((ways.take i).filterMap (headD r ways)).map encFct))]⟩)
  (fun i=>i≤ways.length) (fun i=>ways.length - i) 0 (Nat.zero_le _) (ent_ren id ⟨rfl,rfl,rfl,rfl,by rw [← lw];rfl,rfl,trivial⟩ ⟨rfl,rfl,trivial⟩ rfl rfl rfl rfl rfl rfl) ?_
 intro i g1
 by_cases hi:i < ways.length
 ·have hm:=List.getElem_mem hi
  have w1:=args_fn r.terms ways[i] (hok.terms hm) (by omega)
  have hst:=filterMap_take (headD r ways) hi
  have hhd:headD r ways ways[i]=some ⟨r.pred,aW r ways[i]⟩:=by unfold headD;rw [if_pos h0]
  rw [hhd] at hst
  have lo:((ways.take i).filterMap (headD r ways)).length≤i:=filterMap_len _ _ _
  clear wset
  repeat' (first|refine z0 ?_|apply ds_nil|refine z5 ?_|refine z9 ?_|refine z11 ?_|apply dw_seq2|refine z16 ?_|refine z20 ?_|apply dw_block|apply dw_skip|apply dw_exit|apply thenD_n|apply thenD_e|apply inB_n|refine z17 ?_|refine z22 ?_ (hc:=by apply w1)|(refine z23 ?_ ?_ <;> intro hg)|fail)
  all_goals try (exfalso;omega)
  exact⟨i + 1,hi,ent_ren (fun j=>match j with|1=>11|j=>j) ⟨rfl,rfl,rfl,rfl,rfl,rfl,trivial⟩ ⟨rfl,by rw [hst,List.map_append];rfl,trivial⟩ rfl rfl rfl rfl rfl rfl,by omega⟩
 ·rw [List.take_of_length_le (by omega)]
  repeat' (first|refine z0 ?_|apply ds_nil|refine z5 ?_|apply dw_seq2|refine z16 ?_|refine z20 ?_|apply dw_block|apply dw_skip|apply dw_exit|apply thenD_n|apply thenD_e|refine z17 ?_|(refine z23 ?_ ?_ <;> intro hg)|fail)
  all_goals try (exfalso;omega)
  refine ds_ent (ent_seal 38 rfl rfl rfl) ?_
  repeat' (first|refine z0 ?_|apply ds_nil|apply dw_ret|apply thenD_n|apply thenD_r|refine z21 ?_ (hc:=by apply wset)|fail)
  exact⟨.inl rfl,_,rfl,rfl,rfl⟩
def liftN (fold:Int) (x:Ltl):Int:=if x.kind=2∨fold≠0 then 1 else 0
def lvLit (fold pred:Int) (lv:List Int) (x:Ltl):List Int :=
 if 2 < x.kind then lv
 else if lv.getD pred.toNat 0 < lv.getD x.pred.toNat 0 + liftN fold x then lv.set pred.toNat (lv.getD x.pred.toNat 0 + liftN fold x) else lv
def lvRule (lv:List Int) (r:Rul):List Int:=r.body.foldl (lvLit r.fold r.pred) lv
def lvRound (l:List Rul) (lv:List Int):List Int:=l.foldl lvRule lv
def lvIter (l:List Rul):Nat→List Int→List Int
 | 0,lv=>lv
 | n + 1,lv=>lvIter l n (lvRound l lv)
def leL (a b:List Int):Prop:=a.length=b.length∧∀ i,a.getD i 0≤b.getD i 0
theorem leL.refl (a:List Int):leL a a:=⟨rfl,fun _=>Int.le_refl _⟩
theorem leL.trans {a b c:List Int} (h:leL a b) (g:leL b c):leL a c:=⟨h.1.trans g.1,fun i=>Int.le_trans (h.2 i) (g.2 i)⟩
def hangsB (x:Ltl):Bool:=decide (x.kind=1) || decide (x.kind=2)
def strictB (fold:Int) (x:Ltl):Bool:=decide (x.kind=2) || decide (fold≠0)
def liftS (fold:Int) (x:Ltl):Int:=if strictB fold x then 1 else 0
def rawLit (fold pred:Int) (x:Ltl) (lv:List Int) (ch:Bool):List Int × Bool :=
 if lv.getD pred.toNat 0 < lv.getD x.pred.toNat 0 + liftS fold x then (lv.set pred.toNat (lv.getD x.pred.toNat 0 + liftS fold x),true) else (lv,ch)
def rawStep (n fold pred:Int) (st:Option (List Int × Bool)) (x:Ltl):Option (List Int × Bool):=match st with
 | none=>none
 | some (lv,ch)=>if n < lv.getD x.pred.toNat 0 + liftS fold x then none else some (rawLit fold pred x lv ch)
def rawRule (n:Int) (st:Option (List Int × Bool)) (r:Rul):Option (List Int × Bool):=(r.body.filter hangsB).foldl (rawStep n r.fold r.pred) st
def rawRound (n:Int) (l:List Rul) (lv:List Int):Option (List Int × Bool):=l.foldl (rawRule n) (some (lv,false))
def rawIter (n:Int) (l:List Rul):Nat→List Int→Option (List Int)
 | 0,_=>none
 | k + 1,lv=>match rawRound n l lv with
  | none=>none
  | some (lv',true)=>rawIter n l k lv'
  | some (lv',false)=>some lv'
def gap (n:Int) (lv:List Int):Nat:=(lv.map fun v=>(n - v).toNat).sum
def zeros (n:Nat):List Int:=List.replicate n 0
def rawL (p:Prg):Option (List Int):=rawIter p.arity.length p.rules (p.arity.length * p.arity.length + 1) (zeros p.arity.length)
theorem gap_set {n:Int}:∀ {lv:List Int} {i:Nat} {v:Int} (h:i < lv.length),lv[i] < v→v≤n→gap n (lv.set i v) < gap n lv
 | [],_,_,h,_,_=>by simp at h
 | u::lv,0,v,_,hv,hn=>by
  simp only [gap,List.set_cons_zero,List.map_cons,List.sum_cons,List.getElem_cons_zero] at hv ⊢
  omega
 | u::lv,i + 1,v,h,hv,hn=>by
  have:=gap_set (n:=n) (lv:=lv) (i:=i) (v:=v) (by simpa using h) (by simpa using hv) hn
  simp only [gap,List.set_cons_succ,List.map_cons,List.sum_cons] at this ⊢
  omega
theorem gap_zeros (n m:Nat):gap n (zeros m)=m * n:=by
 unfold gap zeros
 rw [List.map_replicate,List.sum_replicate_nat]
 simp
def Rs (n:Int) (lv0 lv:List Int) (ch:Bool):Prop:=lv.length=lv0.length∧(∀ v∈lv,0≤v∧v≤n)∧gap n lv≤gap n lv0∧(ch=true→gap n lv < gap n lv0)
theorem Rs.refl {n:Int} {lv:List Int} (h:∀ v∈lv,0≤v∧v≤n):Rs n lv lv false:=⟨rfl,h,Nat.le_refl _,fun h=>by cases h⟩
theorem Rs.step {n fold pred:Int} {lv0 lv:List Int} {ch:Bool} {x:Ltl} (h:Rs n lv0 lv ch) (hp:pred.toNat < lv0.length) (hl:¬ n < lv.getD x.pred.toNat 0 + liftS fold x):Rs n lv0 (rawLit fold pred x lv ch).1 (rawLit fold pred x lv ch).2:=by
 obtain⟨h1,h2,h3,h4⟩:=h
 unfold rawLit
 split
 ·rename_i hlt
  have hp':pred.toNat < lv.length:=by omega
  rw [List.getD,List.getElem?_eq_getElem hp',Option.getD_some] at hlt
  have:=gap_set (n:=n) hp' hlt (by omega)
  refine⟨by simpa using h1,fun v hv=>?_,by simp only;omega,fun _=>by simp only;omega⟩
  rcases List.mem_or_eq_of_mem_set hv with h|h
  ·exact h2 v h
  ·have:=(h2 _ (List.getElem_mem hp')).1
   omega
 ·exact⟨h1,h2,h3,h4⟩
theorem rawStep_none (n fold pred:Int):∀ (b:List Ltl),b.foldl (rawStep n fold pred) none=none
 | []=>rfl
 | _::b=>rawStep_none n fold pred b
theorem rawRule_none (n:Int):∀ (l:List Rul),l.foldl (rawRule n) none=none
 | []=>rfl
 | r::l=>by
  rw [List.foldl_cons,show rawRule n none r=none from rawStep_none _ _ _ _]
  exact rawRule_none n l
theorem rawStep_if {n fold pred:Int} {lv:List Int} {ch:Bool} {x:Ltl} (h1:x.pred.toNat < lv.length) (h2:pred.toNat < lv.length):rawStep n fold pred (some (lv,ch)) x =
  if n < lv[x.pred.toNat] + liftS fold x then none else if lv[pred.toNat] < lv[x.pred.toNat] + liftS fold x then some (lv.set pred.toNat (lv[x.pred.toNat] + liftS fold x),true) else some (lv,ch):=by
 simp only [rawStep,rawLit,List.getD,List.getElem?_eq_getElem h1,List.getElem?_eq_getElem h2,Option.getD_some]
 split
 ·rfl
 ·split <;> rfl
theorem Rs.next {n fold pred:Int} {lv0 lv lv':List Int} {ch ch':Bool} {x:Ltl} (h:Rs n lv0 lv ch) (hp:pred.toNat < lv0.length) (hs:rawStep n fold pred (some (lv,ch)) x=some (lv',ch')):Rs n lv0 lv' ch':=by
 unfold rawStep at hs
 split at hs
 ·cases hs
 ·rename_i heq
  cases heq
  split at hs
  ·cases hs
  ·rename_i hl
   have:=h.step (fold:=fold) hp hl
   injection hs with hs
   rw [hs] at this
   exact this
def nLit (st:List Bool × List Int) (x:Ltl):List Bool × List Int:=if st.1.getD x.pred.toNat false then st else (st.1.set x.pred.toNat true,st.2++[x.pred])
theorem count_set':∀ {bs:List Bool} {i:Nat} (_:i < bs.length),bs[i]? = some false→(bs.set i true).count false + 1=bs.count false
 | [],_,h,_=>by simp at h
 | b::bs,0,_,hb=>by simp at hb;subst hb;simp
 | b::bs,i + 1,h,hb=>by
  have:=count_set' (bs:=bs) (i:=i) (by simpa using h) (by simpa using hb)
  rw [List.set_cons_succ,List.count_cons,List.count_cons]
  omega
def Ns (n m:Nat) (st:List Bool × List Int):Prop:=st.1.length=n∧2 * st.1.count false + st.2.length≤m∧∀ v∈st.2,0≤v∧v < n
theorem Ns.step {n m:Nat} {st:List Bool × List Int} {x:Ltl} (h:Ns n m st) (hx:0≤x.pred∧x.pred < n):Ns n m (nLit st x):=by
 obtain⟨h1,h2,h3⟩:=h
 unfold nLit
 split
 ·exact⟨h1,h2,h3⟩
 ·rename_i hf
  have hl:x.pred.toNat < st.1.length:=by omega
  have hg:st.1[x.pred.toNat]? = some false:=by
   rw [List.getElem?_eq_getElem hl]
   rw [List.getD,List.getElem?_eq_getElem hl,Option.getD_some] at hf
   cases hb:st.1[x.pred.toNat] with
   | true=>exact absurd hb hf
   | false=>rfl
  have:=count_set' hl hg
  refine⟨by simpa using h1,by simp only [List.length_append,List.length_singleton];omega,fun v hv=>?_⟩
  rcases List.mem_append.1 hv with hv|hv
  ·exact h3 v hv
  ·simp at hv;subst hv;exact hx
end Go.Proofs.YtapciiffpnociadGreat
