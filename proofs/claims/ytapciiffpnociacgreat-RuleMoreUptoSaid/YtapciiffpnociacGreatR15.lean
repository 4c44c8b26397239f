/- Several texts in one: TokL ScoI RuL RelL GxRng GxItr RelV RuM RuZ StrB RuN RuO. Condition: none. -/
import Derived.Test.YtapciiffpnociacGreatR10
import Derived.Test.YtapciiffpnociacGreatR14
import Derived.Test.YtapciiffpnociacGreatR12
import Derived.Test.YtapciiffpnociacGreatR07
import Derived.Test.YtapciiffpnociacGreatR13
import Derived.Test.YtapciiffpnociacGreatR11
import Derived.Test.YtapciiffpnociacGreatR09
namespace Go.Proofs.YtapciiffpnociacGreat
open Go Go.RowKit
theorem tokAt_37 (l:List UInt8):(tokAt (37::l)).1=0:=by
 rw [tokAt_cons,if_neg (by unfold letterB smallB greatB;decide),if_neg (by unfold digitB;decide),if_neg (by unfold pairB;cases l <;> simp),if_neg (by decide)]
theorem tokAt_32 (l:List UInt8):(tokAt (32::l)).1=0:=by
 rw [tokAt_cons,if_neg (by unfold letterB smallB greatB;decide),if_neg (by unfold digitB;decide),if_neg (by unfold pairB;cases l <;> simp),if_neg (by decide)]
theorem tokAt_9 (l:List UInt8):(tokAt (9::l)).1=0:=by
 rw [tokAt_cons,if_neg (by unfold letterB smallB greatB;decide),if_neg (by unfold digitB;decide),if_neg (by unfold pairB;cases l <;> simp),if_neg (by decide)]
theorem tokAt_10 (l:List UInt8):(tokAt (10::l)).1=0:=by
 rw [tokAt_cons,if_neg (by unfold letterB smallB greatB;decide),if_neg (by unfold digitB;decide),if_neg (by unfold pairB;cases l <;> simp),if_neg (by decide)]
theorem tokErr_kind {k:Int} {n:Nat} {c:UInt8} (h:tokErr k n c=0):k≠0:=by
 intro hk
 rw [tokErr_eq,if_pos hk] at h
 cases h
theorem drop_byte (s:ByteArray) (i:Nat) (h:i < s.size):s.data.toList.drop i=s[i]::s.data.toList.drop (i + 1):=by
 rw [List.drop_eq_getElem_cons (by simpa using h)];rfl
theorem ext_list (s:ByteArray) (i n:Nat):(s.extract i (i + n)).data.toList=(s.data.toList.drop i).take n:=by
 simp [ByteArray.data_extract,Array.toList_extract,List.extract_eq_take_drop]
theorem bytes_inj {a b:ByteArray} (h:a.data.toList=b.data.toList):a=b:=ByteArray.ext (Array.ext' h)
theorem scan_one (s:ByteArray) (i:Nat) (k:Int) (n:Nat) (h:i < s.size) (ht:tokAt (s.data.toList.drop i)=(k,n)) (he:tokErr k n s[i]=0) :
  scanAt s false i=(scanAt s false (i + n)).map (Tok.mk k i (s.extract i (i + n))::·):=by
 have hk:=tokErr_kind he
 have hd:=drop_byte s i h
 have hb:∀ c:UInt8,(∀ l,(tokAt (c::l)).1=0)→s[i]≠c:=by
  intro c hc e
  rw [hd,e] at ht
  have:=hc (s.data.toList.drop (i + 1))
  rw [ht] at this
  exact hk this
 have h37:=hb 37 tokAt_37
 have h32:=hb 32 tokAt_32
 have h9:=hb 9 tokAt_9
 have h10:=hb 10 tokAt_10
 have:=scanAt_tok s i h (by simpa using h37) (by simp [h32,h9,h10]) (by rw [ht];exact he)
 rw [ht] at this
 exact this
def Chain (s:ByteArray):Nat→List Tok→Prop
 | _,[]=>True
 | i,t::l=>∃ j,i≤j∧t.at_=j∧(∃ h:j < s.size,tokAt (s.data.toList.drop j)=(t.kind,t.text.size)∧tokErr t.kind t.text.size s[j]=0)∧j + t.text.size≤s.size∧t.text=s.extract j (j + t.text.size)∧Chain s (j + t.text.size) l
theorem Chain.mono {s:ByteArray} {i i':Nat} {l:List Tok} (h:Chain s i' l) (hi:i≤i'):Chain s i l:=by
 cases l with
 | nil=>trivial
 | cons t l =>
  obtain⟨j,h1,h2⟩:=h
  exact⟨j,Nat.le_trans hi h1,h2⟩
theorem scanGo_chain (s:ByteArray):∀ (f:Nat) (note:Bool) (i:Nat) (l:List Tok),scanGo s f note i = .ok l→Chain s i l:=by
 intro f
 induction f with
 | zero =>
  intro note i l h
  simp only [scanGo] at h
  cases h
  trivial
 | succ f ih =>
  intro note i l h
  simp only [scanGo] at h
  by_cases hi:i < s.size
  ·rw [dif_pos hi] at h
   split at h
   ·exact (ih _ _ _ h).mono (by omega)
   ·split at h
    ·exact (ih _ _ _ h).mono (by omega)
    ·split at h
     ·rename_i he
      cases hr:scanGo s f false (i + (tokAt (s.data.toList.drop i)).2) with
      | error e=>rw [hr] at h;cases h
      | ok l' =>
       rw [hr] at h
       cases h
       have hle:=tokAt_le (s.data.toList.drop i)
       rw [List.length_drop,show s.data.toList.length=s.size from Array.length_toList] at hle
       have hsz:(s.extract i (i + (tokAt (s.data.toList.drop i)).2)).size=(tokAt (s.data.toList.drop i)).2:=by rw [ByteArray.size_extract];omega
       exact⟨i,Nat.le_refl _,rfl,⟨hi,by rw [hsz],by rw [hsz];exact he⟩,by rw [hsz];omega,by rw [hsz],by rw [hsz];exact ih _ _ _ hr⟩
     ·cases h
  ·rw [dif_neg hi] at h
   cases h
   trivial
theorem scanGo_err (s:ByteArray):∀ (f:Nat) (note:Bool) (i:Nat) (p e:Int),scanGo s f note i = .error (p,e)→e≠0:=by
 intro f
 induction f with
 | zero =>
  intro note i p e h
  simp only [scanGo] at h
  cases h
 | succ f ih =>
  intro note i p e h
  simp only [scanGo] at h
  by_cases hi:i < s.size
  ·rw [dif_pos hi] at h
   split at h
   ·exact ih _ _ _ _ h
   ·split at h
    ·exact ih _ _ _ _ h
    ·split at h
     ·cases hr:scanGo s f false (i + (tokAt (s.data.toList.drop i)).2) with
      | error e'=>rw [hr] at h;cases h;exact ih _ _ _ _ hr
      | ok l'=>rw [hr] at h;cases h
     ·rename_i he
      injection h with h
      injection h with h1 h2
      rw [← h2];exact he
  ·rw [dif_neg hi] at h
   cases h
theorem scanS_chain (s:ByteArray) (l:List Tok) (p:Int) (h:scanS s=(l,p,0)):Chain s 0 l∧s.size≤5000∧p=0:=by
 unfold scanS at h
 split at h
 ·injection h with h1 h2;injection h2 with h2 h3;cases h3
 ·rename_i hs
  split at h
  ·rename_i l' hl
   injection h with h1 h2
   injection h2 with h2 h3
   subst h1
   unfold scanAt at hl
   exact⟨scanGo_chain _ _ _ _ _ hl,by omega,h2.symm⟩
  ·rename_i p' e hl
   injection h with h1 h2
   injection h2 with h2 h3
   subst h1
   unfold scanAt at hl
   exact absurd h3 (scanGo_err _ _ _ _ _ _ hl)
theorem isTok_eq (kind:Int) (s:ByteArray):isTok kind s=true↔∃ h:0 < s.size,s.size≤5000∧tokAt s.data.toList=(kind,s.size)∧tokErr kind s.size s[0]=0:=by
 unfold isTok
 by_cases h:0 < s.size
 ·rw [dif_pos h]
  simp only [Bool.and_eq_true,decide_eq_true_eq]
  constructor
  ·rintro⟨⟨⟨⟨h1,h2⟩,h3⟩,h4⟩,h5⟩
   exact⟨h,h1,Prod.ext h3 h4,h5⟩
  ·rintro⟨_,h1,h2,h3⟩
   exact⟨⟨⟨⟨h1,tokErr_kind h3⟩,by rw [h2]⟩,by rw [h2]⟩,h3⟩
 ·rw [dif_neg h]
  exact⟨fun h'=>absurd h' Bool.false_ne_true,fun⟨h',_⟩=>absurd h' h⟩
theorem oneS_eq (kind:Int) (s:ByteArray):oneS kind s=isTok kind s:=by
 rw [Bool.eq_iff_iff,isTok_eq]
 constructor
 ·intro h
  unfold oneS at h
  split at h
  ·rename_i t p e hs
   simp only [Bool.and_eq_true,decide_eq_true_eq] at h
   obtain⟨h1,h2,h3⟩:=h
   subst h1
   obtain⟨⟨j,g1,g2,⟨g3,g4,g5⟩,g6,g7,_⟩,hsz,_⟩:=scanS_chain s [t] p hs
   rw [h3] at g4 g5 g6
   have hj:j=0:=by omega
   subst hj
   rw [h2] at g4 g5
   exact⟨g3,hsz,g4,g5⟩
  ·cases h
 ·rintro⟨h,h1,h2,h3⟩
  have:=scan_one s 0 kind s.size h h2 h3
  rw [scanAt_end s false (0 + s.size) (by omega)] at this
  have hext:s.extract 0 (0 + s.size)=s:=bytes_inj (by rw [ext_list,List.drop_zero];exact List.take_of_length_le (Nat.le_of_eq (Array.length_toList (xs:=s.data))))
  rw [hext] at this
  unfold oneS
  rw [scanS_ok s (by omega) _ this]
  simp
theorem name_eq:nameS=nameR:=by
 funext s
 unfold nameS nameR
 rw [oneS_eq]
theorem scheck_fn (p:Prg):Fn 85 [elPrg p] (fun x=>x = .d (.int .i64 (progE nameR p))):=name_eq▸check_fn p
def factsE (arity:List Int) (l:List Fct):Int:=if 60 < l.length then 2 else firstL (factE arity) l
def waysE (p:Prg) (n:Int) (l:List Fct):Int:=if progE nameR p≠0 then progE nameR p else if n < 0∨(p.rules.length:Int)≤n then 5 else factsE p.arity l
attribute [local irreducible] DW DS DL DQ Ev FnOk FnP thenD inBlockD DT
set_option maxHeartbeats 8000000 in
theorem right1_fn (n:Int):Fn 114 [.d (.int .i64 n)] (fun r=>r = .d (.bool (!numB n))):=by
 refine fnp_enter' _ Tryz.func114 rfl rfl (by kernel_rfl) ?_
 intro O w0 E0 β0
 repeat' (first|refine z0 ?_|apply ds_nil|apply dw_seq2|refine z16 ?_|apply dw_ret|apply thenD_n|refine z21 ?_ (hc:=by apply snumber_fn)|fail)
 exact⟨.inl rfl,_,rfl,rfl,rfl⟩
set_option maxHeartbeats 8000000 in
theorem fright_fn (p:Prg) (x:Fct):Fn 75 [elPrg p,elFct x] (fun r=>r = .d (.int .i64 (factE p.arity x))):=by
 refine fnp_enter' _ Tryz.func75 rfl rfl (by kernel_rfl) ?_
 intro O w0 E0 β0
 have la:(p.arity.map encI).length=p.arity.length:=List.length_map _
 have lx:(x.args.map encI).length=x.args.length:=List.length_map _
 refine dw_lenA 0 0 rfl rfl fun hk=>?_
 have w1:=containsFuncInt_fn (caps:=[]) (f:=114) (fun n=>!numB n) x.args rfl (fun n _=>right1_fn n)
 have w0:Fn 112 [.d (.int .i64 x.pred),.d (.int .i64 0),.d (.int .i64 (((p.arity.map encI).length:Int) - 1))] (fun r=>r = .d (.bool (inR x.pred 0 ((p.arity.length:Int) - 1)))):=by rw [la];exact swithin_fn _ _ _
 unfold factE
 cases h1:inR x.pred 0 ((p.arity.length:Int) - 1) with
 | false =>
  rw [h1] at w0
  rw [if_pos rfl]
  repeat' (first|refine z0 ?_|apply ds_nil|apply dw_seq2|refine z16 ?_|apply dw_block|apply dw_ret|refine z18 ?_|apply thenD_n|apply thenD_r|apply inB_r|refine z21 ?_ (hc:=by apply w0)|refine z1 ?_|fail)
  all_goals try (exfalso;omega)
  exact⟨.inl rfl,_,rfl,rfl,rfl⟩
 | true =>
  rw [h1] at w0
  rw [if_neg (by simp)]
  have hr:0≤x.pred∧x.pred < p.arity.length:=by unfold inR at h1;simp at h1;omega
  have hlt:x.pred.toNat < p.arity.length:=by omega
  have hg':p.arity.getD x.pred.toNat 0=p.arity[x.pred.toNat]:=by rw [List.getD,List.getElem?_eq_getElem hlt];rfl
  rw [hg']
  by_cases h2:(x.args.length:Int)≠p.arity[x.pred.toNat]
  ·rw [if_pos h2]
   repeat' (first|refine z0 ?_|apply ds_nil|refine z5 ?_|refine z10 ?_|apply dw_seq2|refine z16 ?_|refine z20 ?_|apply dw_block|apply dw_ret|refine z19 ?_|apply thenD_n|apply thenD_r|apply inB_r|refine z21 ?_ (hc:=by apply w0)|refine z1 ?_|(refine z23 ?_ ?_ <;> intro hg)|fail)
   all_goals try (exfalso;omega)
   exact⟨.inl rfl,_,rfl,rfl,rfl⟩
  ·rw [if_neg h2]
   cases h3:x.args.any (fun n=>!numB n) with
   | true =>
    rw [h3] at w1
    repeat' (first|refine z0 ?_|apply ds_nil|refine z5 ?_|refine z10 ?_|apply dw_seq2|refine z16 ?_|refine z20 ?_|apply dw_block|apply dw_ret|refine z18 ?_|refine z19 ?_|apply thenD_n|apply thenD_r|apply inB_r|refine z21 ?_ (hc:=by apply w0)|refine z21 ?_ (hc:=by apply w1)|refine z1 ?_|(refine z23 ?_ ?_ <;> intro hg)|fail)
    all_goals try (exfalso;omega)
    exact⟨.inl rfl,_,rfl,rfl,rfl⟩
   | false =>
    rw [h3] at w1
    repeat' (first|refine z0 ?_|apply ds_nil|refine z5 ?_|refine z10 ?_|apply dw_seq2|refine z16 ?_|refine z20 ?_|apply dw_block|apply dw_skip|apply dw_ret|refine z19 ?_|apply thenD_n|apply thenD_r|apply inB_n|apply inB_r|refine z21 ?_ (hc:=by apply w0)|refine z21 ?_ (hc:=by apply w1)|refine z1 ?_|(refine z23 ?_ ?_ <;> intro hg)|fail)
    all_goals try (exfalso;omega)
    exact⟨.inl rfl,_,rfl,rfl,rfl⟩
set_option maxHeartbeats 8000000 in
theorem ready_fn (p:Prg) (n:Int) (l:List Fct):Fn 46 [elPrg p,.d (.int .i64 n),.d (.slice 2 (l.map encFct))] (fun r=>r = .d (.int .i64 (waysE p n l))):=by
 refine fnp_enter' _ Tryz.func46 rfl rfl (by kernel_rfl) ?_
 intro O w0 E0 β0
 have w1:=scheck_fn p
 have lr:(p.rules.map encRul).length=p.rules.length:=List.length_map _
 have ll:(l.map encFct).length=l.length:=List.length_map _
 refine dw_lenA 0 2 rfl rfl fun hk=>?_
 unfold waysE factsE
 by_cases h0:progE nameR p≠0
 ·rw [if_pos h0]
  repeat' (first|refine z0 ?_|refine z12 ?_|apply ds_nil|apply dw_seq2|refine z16 ?_|apply dw_block|apply dw_skip|apply dw_ret|refine z18 ?_|apply thenD_n|apply thenD_r|apply inB_n|apply inB_r|refine z21 ?_ (hc:=by apply w1)|refine z1 ?_|(refine z23 ?_ ?_ <;> intro hg)|((fail_if_success (apply ds_known;exact rfl));apply ds_guardP;exact rfl;exact rfl;exact rfl;all_goals intro hg))
  all_goals try (exfalso;omega)
  exact⟨.inl rfl,_,rfl,rfl,rfl⟩
 ·rw [if_neg h0]
  by_cases h1:n < 0∨(p.rules.length:Int)≤n
  ·rw [if_pos h1]
   repeat' (first|refine z0 ?_|refine z12 ?_|apply ds_nil|apply dw_seq2|refine z16 ?_|apply dw_block|apply dw_skip|apply dw_ret|refine z18 ?_|apply thenD_n|apply thenD_r|apply inB_n|apply inB_r|refine z21 ?_ (hc:=by apply w1)|refine z1 ?_|(refine z23 ?_ ?_ <;> intro hg)|((fail_if_success (apply ds_known;exact rfl));apply ds_guardP;exact rfl;exact rfl;exact rfl;all_goals intro hg))
   all_goals try (exfalso;omega)
   all_goals exact⟨.inl rfl,_,rfl,rfl,rfl⟩
  ·rw [if_neg h1]
   by_cases h2:60 < l.length
   ·rw [if_pos h2]
    repeat' (first|refine z0 ?_|refine z12 ?_|apply ds_nil|apply dw_seq2|refine z16 ?_|apply dw_block|apply dw_skip|apply dw_ret|refine z18 ?_|apply thenD_n|apply thenD_r|apply inB_n|apply inB_r|refine z21 ?_ (hc:=by apply w1)|refine z1 ?_|(refine z23 ?_ ?_ <;> intro hg)|((fail_if_success (apply ds_known;exact rfl));apply ds_guardP;exact rfl;exact rfl;exact rfl;all_goals intro hg))
    all_goals try (exfalso;omega)
    all_goals exact⟨.inl rfl,_,rfl,rfl,rfl⟩
   ·rw [if_neg h2]
    repeat' (first|refine z0 ?_|refine z12 ?_|apply ds_nil|apply dw_seq2|refine z16 ?_|apply dw_block|apply dw_skip|apply dw_ret|refine z18 ?_|apply thenD_n|apply thenD_r|apply inB_n|apply inB_r|refine z21 ?_ (hc:=by apply w1)|refine z1 ?_|(refine z23 ?_ ?_ <;> intro hg)|((fail_if_success (apply ds_known;exact rfl));apply ds_guardP;exact rfl;exact rfl;exact rfl;all_goals intro hg))
    all_goals try (exfalso;omega)
    refine ds_loop (ι:=Nat) (fun i=>⟨1,[(3,.loc 0 0),(30,.d (.slice 2 (l.map encFct))),(31,.d (.int .i64 l.length)),(32,.d (.int .i64 i))],[(0,.blk 26 [.d (.slice 1 (p.arity.map encI)),.d (.slice 1 (p.names.map encT)),.d (.slice 5 (p.rules.map encRul))])]⟩)
     (fun i=>i≤l.length∧firstL (factE p.arity) l=firstL (factE p.arity) (l.drop i)) (fun i=>l.length - i) 0 ⟨Nat.zero_le _,rfl⟩ (ent_ren id ⟨rfl,rfl,by rw [← ll];rfl,rfl,trivial⟩ ⟨rfl,trivial⟩ rfl rfl rfl rfl rfl rfl) ?_
    rintro i ⟨g1,g2⟩
    dsimp only at g1 g2 ⊢
    by_cases hi:i < l.length
    ·rw [firstL_step hi] at g2
     have w2:=fright_fn p l[i]
     by_cases h3:factE p.arity l[i]≠0
     ·rw [if_pos h3] at g2
      rw [g2]
      repeat' (first|refine z0 ?_|apply ds_nil|apply dw_seq2|refine z16 ?_|apply dw_block|apply dw_skip|apply dw_exit|apply dw_ret|apply thenD_n|apply thenD_e|apply thenD_r|apply inB_n|apply inB_r|refine z17 ?_|refine z21 ?_ (hc:=by apply w2)|refine z1 ?_|refine z3 ?_|(refine z23 ?_ ?_ <;> intro hg)|fail)
      all_goals try (exfalso;omega)
      all_goals exact⟨.inl rfl,_,rfl,rfl,rfl⟩
     ·rw [if_neg h3] at g2
      repeat' (first|refine z0 ?_|apply ds_nil|apply dw_seq2|refine z16 ?_|apply dw_block|apply dw_skip|apply dw_exit|apply dw_ret|apply thenD_n|apply thenD_e|apply thenD_r|apply inB_n|apply inB_r|refine z17 ?_|refine z21 ?_ (hc:=by apply w2)|refine z1 ?_|refine z3 ?_|(refine z23 ?_ ?_ <;> intro hg)|fail)
      all_goals try (exfalso;omega)
      exact⟨i + 1,⟨hi,g2⟩,ent_ren id ⟨rfl,rfl,rfl,rfl,trivial⟩ ⟨rfl,trivial⟩ rfl rfl rfl rfl rfl rfl,by omega⟩
    ·rw [firstL_end (by omega)] at g2
     rw [g2]
     repeat' (first|refine z0 ?_|apply ds_nil|apply dw_seq2|refine z16 ?_|apply dw_block|apply dw_skip|apply dw_exit|apply dw_ret|apply thenD_n|apply thenD_e|refine z17 ?_|refine z1 ?_|refine z3 ?_|(refine z23 ?_ ?_ <;> intro hg)|fail)
     all_goals try (exfalso;omega)
     all_goals exact⟨.inl rfl,_,rfl,rfl,rfl⟩
set_option maxHeartbeats 8000000 in
theorem keep_fn (l:List Fct) (g:FuncId) (caps:List SV) (pr:Fct→Bool) (hlow:SV.lowL 0 caps=true) (hl:l.length≤4398046511104) (hargs:∀ x∈l,x.args.length≤17592186044416) (hg:∀ x∈l,Fn g ([elFct x]++caps) (fun r=>r = .d (.bool (pr x)))) :
  Fn 91 [.d (.slice 2 (l.map encFct)),.fn g caps] (fun r=>∃ s:List Fct,s.Perm (l.filter pr)∧s.Pairwise (fun a b=>ordF b a ≥ 0)∧r = .d (.slice 2 ((cmpF s).map encFct))):=by
 refine fnp_enter' _ Tryz.func91 rfl rfl (by kernel_rfl) ?_
 intro O w0 E0 β0
 have ll:(l.map encFct).length=l.length:=List.length_map _
 have hlows:∀ k,SV.lowL k caps=true:=fun k=>SV.lowL_mono k caps hlow
 repeat' ((fail_if_success (apply dw_stop 0));(first|refine z0 ?_|apply ds_nil|apply dw_seq2|refine z16 ?_|apply dw_block|apply thenD_n))
 refine dw_ent (ent_nilrow (t:=5) 48 2 rfl) ?_
 repeat' fail
 refine ds_loop (ι:=Nat × List Fct) (fun x=>⟨1,[(1,.fn g caps),(5,.row 0),(8,.d (.slice 2 (l.map encFct))),(9,.d (.int .i64 l.length)),(10,.d (.int .i64 x.1))],[(0,.row 48 2 (x.2.map encFct))]⟩)
  (fun x=>x.1≤l.length∧x.2=(l.take x.1).filter pr) (fun x=>l.length - x.1) (0,[]) ⟨Nat.zero_le _,rfl⟩ (ent_ren id ⟨(SV.ren_id _).symm,rfl,rfl,by rw [← ll];rfl,rfl,trivial⟩ ⟨rfl,trivial⟩ (by simp [Sl.low,SV.low,hlows]) rfl rfl rfl rfl rfl) ?_
 rintro⟨i,o⟩ ⟨g1,g2⟩
 dsimp only at g1 g2 ⊢
 have lo:(o.map encFct).length=o.length:=List.length_map _
 have hol:o.length≤i:=by rw [g2];have:=List.length_filter_le pr (l.take i);rw [List.length_take] at this;omega
 by_cases hi:i < l.length
 ·have hm:=List.getElem_mem hi
  have hx:=hg _ hm
  have hw:=own_fn l[i] (hargs _ hm)
  have hll:SV.lowL 0 ([elFct l[i]]++caps)=true:=by simp [SV.lowL,SV.low,hlow]
  have hstep:(l.take (i + 1)).filter pr=o++(if pr l[i] then [l[i]] else []):=by
   rw [List.take_succ_eq_append_getElem hi,List.filter_append,← g2]
   congr 1
   simp [List.filter_cons]
  cases hb:pr l[i] with
  | true =>
   rw [hb] at hx
   rw [hb,if_pos rfl] at hstep
   repeat' (first|refine z0 ?_|apply ds_nil|apply dw_seq2|refine z16 ?_|apply dw_block|apply dw_skip|apply dw_exit|refine z18 ?_|apply thenD_n|apply thenD_e|apply inB_n|refine z17 ?_|(apply ds_callV;exact rfl;exact rfl;exact rfl;exact rfl;apply hx;exact rfl;(assumption);exact rfl;rintro _ rfl)|refine z21 ?_ (hc:=by apply hw)|refine z1 ?_|refine z3 ?_|refine z4 ?_|refine z2 ?_|(refine z23 ?_ ?_ <;> intro hg)|fail)
   all_goals try (exfalso;omega)
   exact⟨(i + 1,o++[l[i]]),⟨by dsimp only;omega,hstep.symm⟩,ent_ren (fun j=>match j with|0=>2|j=>j) ⟨(SV.ren_low0 _ (.fn g caps) hlow).symm,rfl,rfl,rfl,rfl,trivial⟩ ⟨by rw [List.map_append];rfl,trivial⟩ (by simp [Sl.low,SV.low,hlows]) rfl rfl rfl rfl rfl,by show l.length - (i + 1) < l.length - i;omega⟩
  | false =>
   rw [hb] at hx
   rw [hb,if_neg (by simp),List.append_nil] at hstep
   repeat' (first|refine z0 ?_|apply ds_nil|apply dw_seq2|refine z16 ?_|apply dw_block|apply dw_skip|apply dw_exit|refine z19 ?_|apply thenD_n|apply thenD_e|apply inB_n|refine z17 ?_|(apply ds_callV;exact rfl;exact rfl;exact rfl;exact rfl;apply hx;exact rfl;(assumption);exact rfl;rintro _ rfl)|refine z1 ?_|refine z3 ?_|(refine z23 ?_ ?_ <;> intro hg)|fail)
   all_goals try (exfalso;omega)
   exact⟨(i + 1,o),⟨by dsimp only;omega,hstep.symm⟩,ent_ren id ⟨(SV.ren_low0 _ (.fn g caps) hlow).symm,rfl,rfl,rfl,rfl,trivial⟩ ⟨rfl,trivial⟩ (by simp [Sl.low,SV.low,hlows]) rfl rfl rfl rfl rfl,by show l.length - (i + 1) < l.length - i;omega⟩
 ·rw [List.take_of_length_le (by omega)] at g2
  repeat' (first|refine z0 ?_|apply ds_nil|apply dw_seq2|refine z16 ?_|apply dw_block|apply dw_skip|apply dw_exit|apply thenD_n|apply thenD_e|refine z17 ?_|refine z1 ?_|refine z3 ?_|(refine z23 ?_ ?_ <;> intro hg)|fail)
  all_goals try (exfalso;omega)
  refine ds_sort sortFacts_c o (by kernel_rfl) rfl rfl rfl rfl rfl rfl (by omega) ?_
  intro s hp hs
  have hsl:s.length≤4398046511104:=by rw [hp.length_eq];omega
  refine ds_ent (ent_ren (k':=1) (L':=[(5,.row 0)]) (H':=[(0,.row 48 2 (s.map encFct))]) id ⟨rfl,trivial⟩ ⟨rfl,trivial⟩ rfl rfl rfl rfl rfl rfl) ?_
  repeat' (first|refine z0 ?_|apply ds_nil|apply dw_seq2|refine z16 ?_|apply thenD_n)
  all_goals try (exfalso;omega)
  (refine ds_callF id (compact_fn s hsl) rfl rfl rfl rfl ⟨rfl,trivial⟩ rfl rfl rfl rfl rfl rfl ?_ ?_)
  ·rintro k2 r H2 ⟨rfl,rfl⟩;exact⟨rfl,rfl⟩
  rintro k2 r H2 ⟨rfl,rfl⟩
  change DS _ _ _ _ _ _ _ _
  repeat' (first|refine z0 ?_|apply ds_nil|apply dw_ret|apply thenD_n)
  exact⟨.inl rfl,_,rfl,rfl,s,g2▸hp,hs,rfl⟩
end Go.Proofs.YtapciiffpnociacGreat
namespace Go.Proofs.YtapciiffpnociacGreat
open Go Go.RowKit
def Kepts (L:Sl):Sl→Prop
 | []=>True
 | (t,s)::r=>Sl.get L t=s∧Kepts L r
def params:List Nat→List SV→Sl→Sl
 | p::ps,s::ss,L=>params ps ss ((p,s)::L)
 | _,_,L=>L
theorem Heap.widen {Γ:Ctx} {k:Nat→Prop} {H:Hp} {e:Env} {w:World} {l:Nat} (h:Heap Γ k H e w) (hl:¬ Γ.O l):Heap ⟨Γ.P,Γ.τ,Γ.τok,Γ.O,Γ.w0,fun b=>Γ.E0 b∨b=l,Γ.n,Γ.J,Γ.β0,Γ.rd,Γ.pan,Γ.mks,Γ.dr⟩ k H e w where
 top:=h.top
 heap:=h.heap
 ids:=h.ids
 nodup:=h.nodup
 mine b hb:=⟨(h.mine b hb).1.imp .inl id,(h.mine b hb).2⟩
 os:=h.os
 tape:=h.tape
 output:=h.output
 drawn:=h.drawn
 size:=h.size
 block b h1 h2:=h.block b h1 fun h=>h2 (.inl h)
 obound b hb:=⟨(h.obound b hb).1,fun hx=>hx.elim (h.obound b hb).2 fun hx=>hl (hx▸hb)⟩
 jle:=h.jle
 anchor:=h.anchor
end Go.Proofs.YtapciiffpnociacGreat
namespace Go.Proofs.YtapciiffpnociacGreat
open Go Go.RowKit
def SV.flat:SV→Bool
 | .val _=>true
 | .junk=>true
 | .d (.int _ _)=>true
 | .d (.bool _)=>true
 | _=>false
theorem Rel.flat {X e w X' e' w'}:∀ (s:SV) (v:Value),s.flat=true→Rel X e w s v→Rel X' e' w' s v
 | .val _,_,_,h=>h
 | .junk,_,_,_=>trivial
 | .d (.int _ _),_,_,h=>by
  have h':RepC _ _ _ _:=h
  cases h' with
  | int g=>exact RepC.int g
 | .d (.bool _),_,_,h=>by
  have h:RepC _ _ _ _:=h
  cases h
  exact RepC.bool
 | .d (.str _),_,h,_=>nomatch h
 | .d (.slice _ _),_,h,_=>nomatch h
 | .nils,_,h,_=>nomatch h
 | .pd _,_,h,_=>nomatch h
 | .loc _ _,_,h,_=>nomatch h
 | .row _,_,h,_=>nomatch h
 | .mp _,_,h,_=>nomatch h
 | .md _ _,_,h,_=>nomatch h
 | .prow _ _ _ _,_,h,_=>nomatch h
 | .sl _ _ _ _,_,h,_=>nomatch h
 | .rsl _ _ _ _,_,h,_=>nomatch h
 | .fn _ _,_,h,_=>nomatch h
 | .agg _,_,h,_=>nomatch h
 | .tup _,_,h,_=>nomatch h
def flatB:Sl→Bool
 | []=>true
 | (_,s)::r=>s.flat && flatB r
theorem flat_get:∀ {L:Sl},flatB L=true→∀ t,(L.get t).flat=true
 | [],_,_=>rfl
 | (d,s)::r,h,t=>by
  simp only [flatB,Bool.and_eq_true] at h
  rw [Sl.get_cons]
  split
  ·exact h.1
  ·exact flat_get h.2 t
theorem kepts_get {L:Sl}:∀ {L':Sl},Kepts L L'→∀ t,L'.get t = .junk∨L'.get t=L.get t
 | [],_,_=>.inl rfl
 | (d,s)::r,h,t=>by
  rw [Sl.get_cons]
  split
  ·rename_i hd;subst hd;exact .inr h.1.symm
  ·exact kepts_get h.2 t
structure Flat (N:Nat) (L:Sl) (a:Act):Prop where
 len:a.tmps.size=N
 defers:a.defers=[]
 slot:∀ t X e w,Rel X e w (L.get t) (a.tmps.getD t undef)
abbrev Γit (P:Program) (τ:List (Nat × TI)) (τok:TabOk P τ) (O:Nat→Prop) (W:World) (N:Nat):Ctx:=⟨P,τ,τok,O,W,fun _=>False,N,0,fun _=>(0,undef),none,noPan,false,false⟩
section
variable {P : Program} {τ : List (Nat × TI)} {τok : TabOk P τ} {O : Nat → Prop} {N : Nat} {L : Sl}
theorem Flat.models {a:Act} (h:Flat N L a) (W:World) (hO:∀ b,O b→b < W.heap.size):Models (Γit P τ τok O W N) (lo 0) L [] ⟨fun _=>0,fun _=>undef,lo 0⟩ a W where
 top _:=Iff.rfl
 heap _ hp:=nomatch hp
 ids:=.nil
 nodup:=.nil
 mine _ hb:=nomatch hb
 os:=rfl
 tape:=rfl
 output:=rfl
 drawn h:=nomatch h
 size:=Nat.le_refl _
 block _ _ _:=rfl
 obound b hb:=⟨hO b hb,id⟩
 jle _ hj:=nomatch hj
 anchor _ hj:=nomatch hj
 defers:=by rw [h.defers];exact Marks.nil
 len:=h.len
 slot t:=h.slot t _ _ _
theorem Models.flatten {W:World} {k:Nat→Prop} {H:Hp} {e:Env} {a:Act} {w:World} (m:Models (Γit P τ τok O W N) k L H e a w) {Ls:Sl} (hK:Kepts L Ls) (hf:flatB Ls=true):Flat N Ls a where
 len:=m.len
 defers:=by
  obtain⟨rs,h1,h0,_⟩:=m.defers
  rw [h1,h0 rfl];rfl
 slot t X e' w':=by
  have hg:=flat_get hf t
  rcases kepts_get hK t with h|h
  ·rw [h];trivial
  ·rw [h] at hg ⊢;exact Rel.flat _ _ hg (m.slot t)
end
section
variable {Γ : Ctx} {k : Nat} {L : Sl} {H : Hp} {K : Next'} {ops : List Oper} {rest : List Oper} {x y : Operand} {t ty : TypeId}
end
def DWr (Γ:Ctx) (c:Code) (R:Exit→Act→World→Prop) (k:Nat) (L:Sl) (H:Hp):Prop:=∀ e a w,Models Γ (lo k) L H e a w→c.wpIn (wideR Γ.rd) 0 Γ.P R a w
section
variable {Γ : Ctx} {k : Nat} {L : Sl} {H : Hp} {R : Exit → Act → World → Prop}
end
section
variable {Γ : Ctx} {k : Nat} {L : Sl} {H : Hp} {R : Exit → Act → World → Prop}
end
theorem FnP.imp {dr:Bool} {P:Program} {τ:List (Nat × TI)} {τok:TabOk P τ} {f:FuncId} {args:List SV} {R R':SV→Prop} (h:FnP dr P τ τok f args R) (g:∀ r,R r→R' r):FnP dr P τ τok f args R' :=
 ⟨h.1,fun O e w vs hH hr=>(h.2 O e w vs hH hr).mono fun _ _ ⟨k',r,H',e',v,⟨a,b,c⟩,d⟩=>⟨k',r,H',e',v,⟨a,b,g r c⟩,d⟩⟩
attribute [local irreducible] DW DS DL DQ Ev FnOk FnP thenD inBlockD DT
theorem keepS_fn (l:List Fct) (g:FuncId) (caps:List SV) (pr:Fct→Bool) (hlow:SV.lowL 0 caps=true) (hl:l.length≤4398046511104) (hargs:∀ x∈l,x.args.length≤17592186044416) (hg:∀ x∈l,Fn g ([elFct x]++caps) (fun r=>r = .d (.bool (pr x)))) :
  Fn 91 [.d (.slice 2 (l.map encFct)),.fn g caps] (fun r=>r = .d (.slice 2 ((setF' (l.filter pr)).map encFct))) :=
 FnP.imp (keep_fn l g caps pr hlow hl hargs hg) fun r ⟨s,h1,h2,h3⟩=>by rw [h3,keep_set h1 h2]
set_option maxHeartbeats 8000000 in
theorem set_fn (l:List Fct) (hl:l.length≤4398046511104) (hargs:∀ x∈l,x.args.length≤17592186044416):Fn 48 [.d (.slice 2 (l.map encFct))] (fun r=>r = .d (.slice 2 ((setF' l).map encFct))):=by
 refine fnp_enter' _ Tryz.func48 rfl rfl (by kernel_rfl) ?_
 intro O w0 E0 β0
 have hk:=keepS_fn l 92 [] (fun _=>true) rfl hl hargs (fun x _=>setAny_fn x)
 rw [show l.filter (fun _=>true)=l from List.filter_eq_self.2 fun _ _=>rfl] at hk
 repeat' (first|refine z0 ?_|apply ds_nil|apply dw_seq2|refine z16 ?_|apply dw_ret|apply thenD_n|refine z21 ?_ (hc:=by apply hk)|fail)
 exact⟨.inl rfl,_,rfl,rfl,rfl⟩
def ruleAt (p:Prg) (n:Int):Rul:=p.rules.getD n.toNat ⟨0,[],0,[],0⟩
def wayE (p:Prg) (n:Int) (l:List Fct):Int:=if waysE p n l≠0 then waysE p n l else if manyW (setF' l) (ruleAt p n) then 0 else 2
def wayL (p:Prg) (n:Int) (l:List Fct):List (List Int):=if waysE p n l=0 then rawW (setF' l) (ruleAt p n) else []
structure WayOk (p:Prg) (n:Int) (l:List Fct):Prop where
 prog:progE nameR p=0
 lo:0≤n
 hi:n.toNat < p.rules.length
 len:l.length≤60
 facts:∀ x∈l,FctOk p.arity x
 rul:RulR p.arity (ruleAt p n)
 ruls:RulS (setF' l) (ruleAt p n)
 alen:∀ x∈l,x.args.length≤3
 tlen:(ruleAt p n).terms.length≤3
theorem ruleAt_get {p:Prg} {n:Int} (h:n.toNat < p.rules.length):ruleAt p n=p.rules[n.toNat]:=by unfold ruleAt;rw [List.getD,List.getElem?_eq_getElem h];rfl
theorem rulS_mk {arity:List Int} {S:List Fct} {r:Rul} (hr:RulR arity r) (ha:∀ i,0≤arity.getD i 0∧arity.getD i 0≤3) (hS:∀ x∈S,FctOk arity x):RulS S r:=by
 have hv:=hr.vars
 refine⟨⟨fun l hl=>lit_okL (hr.lits l hl) hv.1 hS,fun l hl hk=>?_,fun l hl t ht=>?_,fun x hx=>(hS x hx).nums,hr.body,by omega,fun l hl=>?_⟩,safe_Bd hr.safe,hv⟩
 ·obtain⟨_,h2,_⟩:=litE_right (hr.lits l hl)
  unfold opB inR at h2
  rw [if_pos hk] at h2
  simp only [Bool.and_eq_true,decide_eq_true_eq] at h2
  exact h2
 ·exact ((litE_right (hr.lits l hl)).2.2.2.2 t ht).2.2
 ·obtain⟨h1,_,h3,h4,_⟩:=litE_right (hr.lits l hl)
  by_cases hk:l.kind=1∨l.kind=2
  ·have:=(h3 hk).2
   have:=ha l.pred.toNat
   omega
  ·have:=(h4 hk).2
   omega
theorem wayOk {p:Prg} {n:Int} {l:List Fct} (h:waysE p n l=0):WayOk p n l:=by
 unfold waysE at h
 split at h
 ·rename_i h1;exact absurd h h1
 rename_i h1
 split at h;· cases h
 rename_i h2
 unfold factsE at h
 split at h;· cases h
 rename_i h3
 have h1:progE nameR p=0:=by simpa using h1
 obtain⟨q1,q2,_,_⟩:=progE_rule h1
 have hi:n.toNat < p.rules.length:=by omega
 have hf:∀ x∈l,FctOk p.arity x:=fun x hx=>factE_ok (firstL_all0 h x hx)
 have hr:RulR p.arity (ruleAt p n):=by rw [ruleAt_get hi];exact q1 _ (List.getElem_mem hi)
 refine⟨h1,by omega,hi,by omega,hf,hr,rulS_mk hr q2 fun x hx=>hf x (((setF_spec l).2 x).1 hx),fun x hx=>?_,?_⟩
 ·have:=(hf x hx).len
  have:=q2 x.pred.toNat
  omega
 ·have:=hr.tlen
  have:=q2 (ruleAt p n).pred.toNat
  omega
set_option maxHeartbeats 8000000 in
theorem args_fn (l:List Trm) (a:List Int) (hok:∀ t∈l,okT a.length t) (hl:l.length≤1000000):Fn 93 [.d (.slice 2 (l.map encTrm)),.d (.slice 1 (a.map encI))] (fun r=>r = .d (.slice 1 ((l.map (vA a)).map encI))):=by
 refine fnp_enter' _ Tryz.func93 rfl rfl (by kernel_rfl) ?_
 intro O w0 E0 β0
 have ll:(l.map encTrm).length=l.length:=List.length_map _
 have la:(a.map encI).length=a.length:=List.length_map _
 repeat' (first|(apply ds_bs0;exact rfl;exact rfl;exact rfl;exact rfl;exact rfl;exact rfl;exact rfl;exact rfl)|(first|refine z0 ?_|apply ds_nil|apply dw_seq2|refine z16 ?_|apply dw_block|apply thenD_n))
 refine ds_loop (ι:=Nat) (fun i=>⟨1,[(0,.d (.slice 2 (l.map encTrm))),(1,.d (.slice 1 (a.map encI))),(5,.row 0),(9,.d (.slice 2 (l.map encTrm))),(10,.d (.int .i64 l.length)),(11,.d (.int .i64 i))],[(0,.row 3 1 (((l.take i).map (vA a)).map encI))]⟩)
  (fun i=>i≤l.length) (fun i=>l.length - i) 0 (Nat.zero_le _) (ent_ren id ⟨rfl,rfl,rfl,rfl,by rw [← ll];rfl,rfl,trivial⟩ ⟨rfl,trivial⟩ rfl rfl rfl rfl rfl rfl) ?_
 intro i g1
 by_cases hi:i < l.length
 ·have ho:=hok _ (List.getElem_mem hi)
  unfold okT at ho
  have ht:l.take (i + 1)=l.take i++[l[i]]:=List.take_succ_eq_append_getElem hi
  by_cases hv:l[i].var < 0
  ·have hva:vA a l[i]=l[i].n:=by unfold vA;rw [if_pos hv]
   repeat' (first|refine z0 ?_|apply ds_nil|apply dw_seq2|refine z16 ?_|apply dw_block|apply dw_skip|apply dw_exit|apply thenD_n|apply thenD_e|apply inB_n|refine z17 ?_|refine z1 ?_|refine z3 ?_|refine z4 ?_|refine z2 ?_|(refine z23 ?_ ?_ <;> intro hg)|fail)
   all_goals try (exfalso;omega)
   exact⟨i + 1,hi,ent_ren (fun _=>2) ⟨rfl,rfl,rfl,rfl,rfl,rfl,trivial⟩ ⟨by rw [ht,List.map_append,List.map_append,List.map_singleton,hva];rfl,trivial⟩ rfl rfl rfl rfl rfl rfl,by omega⟩
  ·have hlt:l[i].var.toNat < a.length:=by omega
   have hva:vA a l[i]=a[l[i].var.toNat]:=by unfold vA;rw [if_neg hv,List.getD,List.getElem?_eq_getElem hlt];rfl
   repeat' (first|refine z0 ?_|apply ds_nil|apply dw_seq2|refine z16 ?_|apply dw_block|apply dw_skip|apply dw_exit|apply thenD_n|apply thenD_e|apply inB_n|refine z17 ?_|refine z1 ?_|refine z3 ?_|refine z4 ?_|refine z2 ?_|(refine z23 ?_ ?_ <;> intro hg)|fail)
   all_goals try (exfalso;omega)
   exact⟨i + 1,hi,ent_ren (fun _=>2) ⟨rfl,rfl,rfl,rfl,rfl,rfl,trivial⟩ ⟨by rw [ht,List.map_append,List.map_append,List.map_singleton,hva];rfl,trivial⟩ rfl rfl rfl rfl rfl rfl,by omega⟩
 ·rw [List.take_of_length_le (by omega)]
  repeat' (first|refine z0 ?_|apply ds_nil|apply dw_seq2|refine z16 ?_|apply dw_block|apply dw_skip|apply dw_exit|apply thenD_n|apply thenD_e|apply inB_n|refine z17 ?_|refine z1 ?_|refine z3 ?_|refine z4 ?_|refine z2 ?_|(refine z23 ?_ ?_ <;> intro hg)|fail)
  all_goals try (exfalso;omega)
  refine dw_ent (ent_seal 4 rfl rfl rfl) ?_
  repeat' (apply dw_ret)
  exact⟨.inl rfl,_,rfl,rfl,rfl⟩
set_option maxHeartbeats 8000000 in
theorem ways_fn (p:Prg) (n:Int) (l:List Fct):Fn 12 [elPrg p,.d (.int .i64 n),.d (.slice 2 (l.map encFct))] (fun r=>r = .tup [.d (.slice 1 ((wayL p n l).map encW)),.d (.int .i64 (wayE p n l))]):=by
 refine fnp_enter' _ Tryz.func12 rfl rfl (by kernel_rfl) ?_
 intro O w0 E0 β0
 have w1:=ready_fn p n l
 unfold wayL wayE
 by_cases h0:waysE p n l≠0
 ·rw [if_pos h0,if_neg h0]
  repeat' (first|refine z0 ?_|apply ds_nil|refine z5 ?_|apply dw_seq2|refine z16 ?_|refine z20 ?_|apply dw_skip|apply thenD_n|refine z21 ?_ (hc:=by apply w1)|refine z1 ?_|(refine z23 ?_ ?_ <;> intro hg)|fail)
  all_goals try (exfalso;omega)
  refine dw_ent (ent_nild 6 1 rfl) ?_
  repeat' (first|apply dw_ret|apply thenD_r)
  exact⟨.inl rfl,_,rfl,rfl,rfl⟩
 ·rw [if_neg h0]
  have h0:waysE p n l=0:=by simpa using h0
  rw [if_pos h0]
  have hw:=wayOk h0
  have hlo:=hw.lo
  have hhi:=hw.hi
  have lr:(p.rules.map encRul).length=p.rules.length:=List.length_map _
  have w2:=set_fn l (by have:=hw.len;omega) (fun x hx=>by have:=hw.alen x hx;omega)
  have hSl:(setF' l).length≤60:=by have:=setF_len l [];have:=hw.len;show ((l.foldl insF []).length)≤60;simp at *;omega
  have w3:=raw_fn (setF' l) (ruleAt p n) (setF_spec l).1 (by omega) hw.ruls
  unfold rawW at w3 ⊢
  rw [ruleAt_get hhi] at w3 ⊢
  clear hw
  cases hm:manyW (setF' l) p.rules[n.toNat] with
  | true =>
   rw [hm] at w3
   rw [if_pos rfl,if_pos rfl]
   rw [if_pos rfl] at w3
   repeat' (first|refine z0 ?_|apply ds_nil|refine z5 ?_|refine z10 ?_|apply dw_seq2|refine z16 ?_|refine z20 ?_|apply dw_skip|apply dw_ret|refine z19 ?_|apply thenD_n|apply thenD_r|refine z21 ?_ (hc:=by apply w1)|refine z22 ?_ (hc:=by apply w2)|refine z22 ?_ (hc:=by apply w3)|refine z1 ?_|(refine z23 ?_ ?_ <;> intro hg)|fail)
   all_goals try (exfalso;omega)
   exact⟨.inl rfl,_,rfl,rfl,rfl⟩
  | false =>
   rw [hm] at w3
   rw [if_neg (by simp),if_neg (by simp)]
   rw [if_neg (by simp)] at w3
   repeat' (first|refine z0 ?_|apply ds_nil|refine z5 ?_|refine z10 ?_|apply dw_seq2|refine z16 ?_|refine z20 ?_|apply dw_skip|refine z18 ?_|apply thenD_n|refine z21 ?_ (hc:=by apply w1)|refine z22 ?_ (hc:=by apply w2)|refine z22 ?_ (hc:=by apply w3)|refine z1 ?_|(refine z23 ?_ ?_ <;> intro hg)|fail)
   all_goals try (exfalso;omega)
   refine dw_ent (ent_nild 6 1 rfl) ?_
   repeat' (first|apply dw_ret|apply thenD_r)
   exact⟨.inl rfl,_,rfl,rfl,rfl⟩
end Go.Proofs.YtapciiffpnociacGreat
namespace Go.Proofs.YtapciiffpnociacGreat
open Go Go.RowKit
section
variable {Γ : Ctx} {k : Nat} {L : Sl} {H : Hp} {K : Next'} {ops : List Oper} {rest : List Oper} {q : Bool} {x y : Operand}
theorem ds_min {d t t2 ty:Nat} {pos:String} {af:Array Edge} {g:Option (Nat × Bool)} {m n:Int} (hx:opSV L x = .d (.int .i64 m)) (hy:opSV L y = .d (.int .i64 n)) (hxo:opOkB x=true) (hyo:opOkB y=true) (hw:wantedSV ops L g=some true) (hd:Nat.blt d Γ.n=true)
  (hk:DS q Γ ops rest K k ((d,.d (.int .i64 (minI m n)))::L) H):DS q Γ ops (⟨some d,.call { callee:=.builtin .min,args:=#[x,y],argTypes:=#[t,t2] },ty,pos,af,g⟩::rest) K k L H:=by
 refine ds_ev (s:=.d (.int .i64 (minI m n))) (fun e a w m'=>⟨.int .i64 (minI m n),fun _ _ _ _ w' _=>?_,RepC.int ?_⟩) hw hd hk
 ·simp [execOp,resolve,invoke,builtin,evI m' hx,evI m' hy,Builtin.min_,Builtin.min2,minI]
 ·have h1:=evIw m' hxo hx
  have h2:=evIw m' hyo hy
  unfold minI;split <;> assumption
theorem ds_max {d t t2 ty:Nat} {pos:String} {af:Array Edge} {g:Option (Nat × Bool)} {m n:Int} (hx:opSV L x = .d (.int .i64 m)) (hy:opSV L y = .d (.int .i64 n)) (hxo:opOkB x=true) (hyo:opOkB y=true) (hw:wantedSV ops L g=some true) (hd:Nat.blt d Γ.n=true)
  (hk:DS q Γ ops rest K k ((d,.d (.int .i64 (maxI m n)))::L) H):DS q Γ ops (⟨some d,.call { callee:=.builtin .max,args:=#[x,y],argTypes:=#[t,t2] },ty,pos,af,g⟩::rest) K k L H:=by
 refine ds_ev (s:=.d (.int .i64 (maxI m n))) (fun e a w m'=>⟨.int .i64 (maxI m n),fun _ _ _ _ w' _=>?_,RepC.int ?_⟩) hw hd hk
 ·simp [execOp,resolve,invoke,builtin,evI m' hx,evI m' hy,Builtin.max_,Builtin.max2,maxI]
 ·have h1:=evIw m' hxo hx
  have h2:=evIw m' hyo hy
  unfold maxI;split <;> assumption
end
theorem fold_take {f:Int→Int→Int} {x:Int} {l:List Int} {i:Nat} (hi:i < l.length):(l.take (i + 1)).foldl f x=f ((l.take i).foldl f x) l[i]:=by
 rw [List.take_succ_eq_append_getElem hi,List.foldl_append];rfl
theorem sumI_take {l:List Int} {i:Nat} (hi:i < l.length):(l.take (i + 1)).sum=(l.take i).sum + l[i]:=by
 rw [List.take_succ_eq_append_getElem hi,List.sum_append];simp
theorem sum_bd:∀ (l:List Int),(∀ x∈l,-1000000≤x∧x≤1000000)→-1000000 * (l.length:Int)≤l.sum∧l.sum≤1000000 * (l.length:Int)
 | [],_=>by simp
 | x::l,h=>by
  have h1:=sum_bd l fun y hy=>h y (List.mem_cons_of_mem _ hy)
  have h2:=h x (List.mem_cons_self ..)
  rw [List.sum_cons,List.length_cons];omega
attribute [local irreducible] DW DS DL DQ Ev FnOk FnP thenD inBlockD DT
set_option maxHeartbeats 8000000 in
theorem min_fn (x:Int) (l:List Int):Fn 136 [.d (.slice 1 ((x::l).map encI))] (fun r=>r = .d (.int .i64 (minL (x::l)))):=by
 refine fnp_enter' _ Tryz.func136 rfl rfl (by kernel_rfl) ?_
 intro O w0 E0 β0
 have la:((x::l).map encI).length=l.length + 1:=List.length_map _
 refine dw_len (t:=0) rfl (fun hk=>?_)
 repeat' (first|refine z0 ?_|apply ds_nil|apply dw_seq2|refine z16 ?_|apply dw_block|apply dw_skip|refine z19 ?_|apply thenD_n)
 all_goals try (exfalso;omega)
 refine ds_loop (ι:=Nat) (fun i=>⟨0,[(0,.d (.slice 1 ((x::l).map encI))),(3,.d (.int .i64 ((l.take i).foldl minI x))),(4,.d (.int .i64 ((i + 1:Nat):Int)))],[]⟩)
  (fun i=>i≤l.length) (fun i=>l.length - i) 0 (Nat.zero_le _) (ent_ren id ⟨rfl,rfl,rfl,trivial⟩ trivial rfl rfl rfl rfl rfl rfl) ?_
 intro i g1
 dsimp only at g1 ⊢
 by_cases hi:i < l.length
 ·have hst:=fold_take (f:=minI) (x:=x) hi
  repeat' (first|(refine ds_min rfl rfl rfl rfl rfl rfl ?_)|(first|refine z0 ?_|apply ds_nil|apply dw_seq2|refine z16 ?_|apply dw_block|apply dw_skip|apply dw_exit|apply dw_ret|apply thenD_n|apply thenD_e|apply inB_n|refine z17 ?_|(refine z23 ?_ ?_ <;> intro hg)|fail))
  all_goals try (exfalso;omega)
  exact⟨i + 1,hi,ent_ren id ⟨rfl,by rw [hst];rfl,rfl,trivial⟩ trivial rfl rfl rfl rfl rfl rfl,by omega⟩
 ·rw [List.take_of_length_le (by omega)]
  repeat' (first|refine z0 ?_|apply ds_nil|apply dw_seq2|refine z16 ?_|apply dw_block|apply dw_skip|apply dw_exit|apply dw_ret|apply thenD_n|apply thenD_e|refine z17 ?_|(refine z23 ?_ ?_ <;> intro hg)|fail)
  all_goals try (exfalso;omega)
  exact⟨.inl rfl,_,rfl,rfl,rfl⟩
set_option maxHeartbeats 8000000 in
theorem max_fn (x:Int) (l:List Int):Fn 137 [.d (.slice 1 ((x::l).map encI))] (fun r=>r = .d (.int .i64 (maxL (x::l)))):=by
 refine fnp_enter' _ Tryz.func137 rfl rfl (by kernel_rfl) ?_
 intro O w0 E0 β0
 have la:((x::l).map encI).length=l.length + 1:=List.length_map _
 refine dw_len (t:=0) rfl (fun hk=>?_)
 repeat' (first|refine z0 ?_|apply ds_nil|apply dw_seq2|refine z16 ?_|apply dw_block|apply dw_skip|refine z19 ?_|apply thenD_n)
 all_goals try (exfalso;omega)
 refine ds_loop (ι:=Nat) (fun i=>⟨0,[(0,.d (.slice 1 ((x::l).map encI))),(3,.d (.int .i64 ((l.take i).foldl maxI x))),(4,.d (.int .i64 ((i + 1:Nat):Int)))],[]⟩)
  (fun i=>i≤l.length) (fun i=>l.length - i) 0 (Nat.zero_le _) (ent_ren id ⟨rfl,rfl,rfl,trivial⟩ trivial rfl rfl rfl rfl rfl rfl) ?_
 intro i g1
 dsimp only at g1 ⊢
 by_cases hi:i < l.length
 ·have hst:=fold_take (f:=maxI) (x:=x) hi
  repeat' (first|(refine ds_max rfl rfl rfl rfl rfl rfl ?_)|(first|refine z0 ?_|apply ds_nil|apply dw_seq2|refine z16 ?_|apply dw_block|apply dw_skip|apply dw_exit|apply dw_ret|apply thenD_n|apply thenD_e|apply inB_n|refine z17 ?_|(refine z23 ?_ ?_ <;> intro hg)|fail))
  all_goals try (exfalso;omega)
  exact⟨i + 1,hi,ent_ren id ⟨rfl,by rw [hst];rfl,rfl,trivial⟩ trivial rfl rfl rfl rfl rfl rfl,by omega⟩
 ·rw [List.take_of_length_le (by omega)]
  repeat' (first|refine z0 ?_|apply ds_nil|apply dw_seq2|refine z16 ?_|apply dw_block|apply dw_skip|apply dw_exit|apply dw_ret|apply thenD_n|apply thenD_e|refine z17 ?_|(refine z23 ?_ ?_ <;> intro hg)|fail)
  all_goals try (exfalso;omega)
  exact⟨.inl rfl,_,rfl,rfl,rfl⟩
set_option maxHeartbeats 8000000 in
theorem folded_fn (fold:Int) (l:List Int) (hl:l≠[]) (hn:∀ x∈l,-1000000≤x∧x≤1000000) (hlen:l.length≤1000000):Fn 96 [.d (.int .i64 fold),.d (.slice 1 (l.map encI))] (fun r=>r = .tup [.d (.int .i64 (valP fold l)),.d (.bool (okP fold l))]):=by
 refine fnp_enter' _ Tryz.func96 rfl rfl (by kernel_rfl) ?_
 intro O w0 E0 β0
 have la:(l.map encI).length=l.length:=List.length_map _
 have w3:=min_fn (l.headD 0) l.tail
 have w4:=max_fn (l.headD 0) l.tail
 rw [show l.headD 0::l.tail=l by cases l with|nil=>exact absurd rfl hl|cons x l=>rfl] at w3 w4
 have w5:=snumber_fn l.sum
 repeat' ((fail_if_success (apply dw_stopR 8));(first|refine z0 ?_|apply ds_nil|apply dw_seq2|refine z16 ?_|apply dw_block|apply dw_skip|apply dw_ret|apply thenD_n|apply thenD_r|apply inB_n|apply inB_r|refine z21 ?_ (hc:=by apply w3)|refine z21 ?_ (hc:=by apply w4)|(refine z23 ?_ ?_ <;> intro hg)|fail))
 ·exact⟨.inl rfl,.tup [.d (.int .i64 (l.map encI).length),.d (.bool true)],rfl,rfl,by unfold valP okP;simp_all⟩
 ·exact⟨.inl rfl,.tup [.d (.int .i64 (minL l)),.d (.bool true)],rfl,rfl,by unfold valP okP;simp_all⟩
 ·exact⟨.inl rfl,.tup [.d (.int .i64 (maxL l)),.d (.bool true)],rfl,rfl,by unfold valP okP;simp_all⟩
 refine dw_len (t:=1) rfl (fun hk=>?_)
 repeat' fail
 refine ds_loop (ι:=Nat) (fun i=>⟨0,[(1,.d (.slice 1 (l.map encI))),(6,.d (.int .i64 (l.take i).sum)),(22,.d (.slice 1 (l.map encI))),(23,.d (.int .i64 l.length)),(24,.d (.int .i64 i))],[]⟩)
  (fun i=>i≤l.length) (fun i=>l.length - i) 0 (Nat.zero_le _) (ent_ren id ⟨rfl,rfl,rfl,by rw [← la];rfl,rfl,trivial⟩ trivial rfl rfl rfl rfl rfl rfl) ?_
 intro i g1
 dsimp only at g1 ⊢
 by_cases hi:i < l.length
 ·have hst:=sumI_take hi
  have hb:=sum_bd (l.take (i + 1)) fun x hx=>hn x (List.mem_of_mem_take hx)
  have hx:=hn l[i] (List.getElem_mem hi)
  rw [List.length_take] at hb
  repeat' (first|refine z0 ?_|apply ds_nil|apply dw_seq2|refine z16 ?_|apply dw_block|apply dw_skip|apply dw_exit|apply thenD_n|apply thenD_e|apply inB_n|refine z17 ?_|(refine z23 ?_ ?_ <;> intro hg)|fail)
  all_goals try (exfalso;omega)
  exact⟨i + 1,hi,ent_ren id ⟨rfl,by rw [hst];rfl,rfl,rfl,rfl,trivial⟩ trivial rfl rfl rfl rfl rfl rfl,by omega⟩
 ·rw [List.take_of_length_le (by omega)]
  repeat' (first|refine z0 ?_|apply ds_nil|apply dw_seq2|refine z16 ?_|apply dw_block|apply dw_skip|apply dw_exit|apply dw_ret|apply thenD_n|apply thenD_e|apply inB_n|refine z17 ?_|refine z21 ?_ (hc:=by apply w5)|(refine z23 ?_ ?_ <;> intro hg)|fail)
  all_goals try (exfalso;omega)
  exact⟨.inl rfl,.tup [.d (.int .i64 l.sum),.d (.bool (numB l.sum))],rfl,rfl,by unfold valP okP;simp_all⟩
def sameI (a b:Int):Bool:=decide (a=b)
theorem ne_not {a b:Int} {c:Bool} (h:decide (a≠b) = !c):sameI a b=c:=by
 unfold sameI
 cases c <;> simp_all
set_option maxHeartbeats 8000000 in
theorem sameInts_fn (l m:List (Int)):Fn 17 [.d (.slice 1 (l.map encI)),.d (.slice 1 (m.map encI))] (fun r=>r = .d (.bool (sameL sameI l m))):=by
 refine fnp_enter' _ Tryz.func17 rfl rfl (by kernel_rfl) ?_
 intro O w0 E0 β0
 refine dw_len_map (t:=0) rfl fun hb=>?_
 repeat' (first|refine z0 ?_|apply ds_nil|apply dw_seq2|refine z16 ?_|apply thenD_n)
 refine dw_condP rfl (fun h=>?_) (fun h=>?_)
 ·have hne:l.length≠m.length:=by rw [List.length_map,List.length_map] at h;omega
  repeat' (first|refine z0 ?_|apply ds_nil|apply dw_seq2|refine z16 ?_|apply dw_ret|apply thenD_n|apply thenD_r)
  exact ret_b rfl (sameL_len _ _ _ hne).symm
 ·have hlen:l.length=m.length:=by rw [List.length_map,List.length_map] at h;omega
  repeat' (first|refine z0 ?_|apply ds_nil|apply dw_seq2|refine z16 ?_|apply dw_block|apply dw_skip|apply thenD_n)
  refine ds_loop (ι:=Nat) (fun i=>⟨0,[(0,.d (.slice 1 (l.map encI))),(1,.d (.slice 1 (m.map encI))),(5,.d (.int .i64 i))],[]⟩)
   (fun i=>i≤l.length∧sameL sameI l m=sameL sameI (l.drop i) (m.drop i)) (fun i=>l.length - i) 0 ⟨Nat.zero_le _,rfl⟩
   (ent_ren id ⟨rfl,rfl,rfl,trivial⟩ trivial rfl rfl rfl rfl rfl rfl) ?_
  rintro i ⟨h1,h2⟩
  repeat' (first|refine z0 ?_|apply ds_nil|apply dw_seq2|refine z16 ?_|apply thenD_n)
  refine dw_condP rfl (fun h=>?_) (fun h=>?_)
  ·have hi:i < l.length:=by rw [List.length_map] at h;omega
   have hm:i < m.length:=by omega
   have hd:=sameL_drop sameI l m i hi hm
   repeat' (first|refine z5 ?_|refine z10 ?_|apply dw_seq2|refine z20 ?_|apply dw_block|apply dw_skip|apply thenD_n)
   refine dw_cond rfl (fun hb=>?_) (fun hb=>?_)
   ·have hp:sameI l[i] m[i]=false:=by exact ne_not hb
    repeat' (first|refine z0 ?_|apply ds_nil|apply dw_seq2|refine z16 ?_|apply dw_ret|apply thenD_n|apply thenD_r|apply inB_r)
    exact ret_b rfl (by rw [h2,hd,hp];rfl)
   ·have hp:sameI l[i] m[i]=true:=by exact ne_not hb
    repeat' (first|refine z0 ?_|apply ds_nil|refine z16 ?_|apply dw_skip|apply thenD_n|apply inB_n)
    exact⟨i + 1,⟨hi,by rw [h2,hd,hp];rfl⟩,ent_ren id ⟨rfl,rfl,rfl,trivial⟩ trivial rfl rfl rfl rfl rfl rfl,by omega⟩
  ·repeat' (first|refine z0 ?_|apply ds_nil|apply dw_seq2|refine z16 ?_|apply dw_exit|apply dw_ret|apply thenD_n|apply thenD_e|refine z17 ?_|fail)
   exact ret_b rfl (by rw [h2,sameL_end _ _ _ _ (by rw [List.length_map] at h;omega) (by rw [List.length_map] at h;omega)])
structure HeadOk (arity:List Int) (r:Rul) (ways:List (List Int)):Prop where
 rul:RulR arity r
 many:ways.length≤2000
 len:∀ w∈ways,w.length=r.vars.toNat
 nums:∀ w∈ways,∀ y∈w,-1000000≤y∧y≤1000000
 tlen:r.terms.length≤3
def headD (r:Rul) (ways:List (List Int)) (w:List Int):Option Fct:=if r.fold=0 then some ⟨r.pred,aW r w⟩
 else if numB (foldN r.fold (grpL (ways.map (pW r)) (pW r w).1)) then some ⟨r.pred,(pW r w).1++[foldN r.fold (grpL (ways.map (pW r)) (pW r w).1)]⟩ else none
theorem headsD_eq (r:Rul) (ways:List (List Int)):headsD r ways=ways.filterMap (headD r ways):=by
 unfold headsD
 by_cases h:r.fold=0
 ·rw [if_pos h,← List.filterMap_eq_map]
  congr 1
  funext w
  unfold headD
  rw [if_pos h];rfl
 ·rw [if_neg h]
  congr 1
  funext w
  unfold headD
  rw [if_neg h]
theorem HeadOk.terms {arity:List Int} {r:Rul} {ways:List (List Int)} (h:HeadOk arity r ways) {w:List Int} (hw:w∈ways):∀ t∈r.terms,okT w.length t:=by
 intro t ht
 have h1:=h.rul.terms t ht
 have h2:=h.rul.vars
 rw [h.len w hw]
 unfold okT
 omega
theorem HeadOk.vals {arity:List Int} {r:Rul} {ways:List (List Int)} (h:HeadOk arity r ways) {w:List Int} (hw:w∈ways):∀ x∈aW r w,-1000000≤x∧x≤1000000:=by
 intro x hx
 obtain⟨t,ht,rfl⟩:=List.mem_map.1 hx
 unfold vA
 split
 ·exact (h.rul.terms t ht).2.2
 ·rename_i hv
  have hlt:t.var.toNat < w.length:=by have:=h.terms hw t ht;unfold okT at this;omega
  rw [List.getD,List.getElem?_eq_getElem hlt]
  exact h.nums w hw _ (List.getElem_mem hlt)
theorem sameI_eq (a b:List Int):sameL sameI a b=decide (a=b):=by
 by_cases h:a=b
 ·subst h
  rw [decide_eq_true rfl]
  induction a with
  | nil=>rfl
  | cons x a ih=>unfold sameL;simp [sameI,ih]
 ·rw [decide_eq_false h]
  cases hs:sameL sameI a b with
  | false=>rfl
  | true =>
   exfalso;apply h
   clear h
   induction a generalizing b with
   | nil=>cases b with|nil=>rfl|cons y b=>simp [sameL] at hs
   | cons x a ih =>
    cases b with
    | nil=>simp [sameL] at hs
    | cons y b =>
     simp only [sameL,sameI,Bool.and_eq_true,decide_eq_true_eq] at hs
     rw [hs.1,ih b hs.2]
theorem filterMap_take {α β:Type} (f:α→Option β) {l:List α} {i:Nat} (hi:i < l.length):(l.take (i + 1)).filterMap f=(l.take i).filterMap f++(f l[i]).toList:=by
 rw [List.take_succ_eq_append_getElem hi,List.filterMap_append,List.filterMap_cons,List.filterMap_nil]
 cases f l[i] <;> rfl
theorem filterMap_len {α β:Type} (f:α→Option β) (l:List α) (i:Nat):((l.take i).filterMap f).length≤i:=Nat.le_trans (List.length_filterMap_le _ _) (by rw [List.length_take];omega)
theorem outE_num {e:RE} (h:numE e):∀ y∈outE e,-1000000≤y∧y≤1000000:=by
 intro y hy
 obtain⟨x,hx,rfl⟩:=List.mem_map.1 hy
 obtain⟨v,hv⟩:=List.getElem?_of_mem hx
 cases x with
 | none=>simp
 | some z=>exact h v z hv
theorem fromE_num {S:List Fct} {body:List Ltl}:∀ (ys:List Ltl) (e:RE),okB S e.length body→(∀ l∈ys,l∈body∧l.kind=1)→numE e→∀ a∈fromE S body ys e,∀ y∈a,-1000000≤y∧y≤1000000
 | [],e,hok,_,hn,a,ha=>by
  rw [fromE] at ha
  cases hr:recN body (body.length + 1) e with
  | none=>rw [hr] at ha;simp at ha
  | some e' =>
   rw [hr] at ha
   simp only at ha
   split at ha
   ·simp at ha
   ·rw [List.mem_singleton] at ha
    subst ha
    exact outE_num (recN_num hok hn hr)
 | l::ys,e,hok,hys,hn,a,ha=>by
  rw [fromE] at ha
  cases hr:recN body (body.length + 1) e with
  | none=>rw [hr] at ha;simp at ha
  | some e' =>
   rw [hr] at ha
   simp only at ha
   obtain⟨g1,_⟩:=recN_some hok.lit hr
   have hn':=recN_num hok hn hr
   obtain⟨hl,hl1⟩:=hys l (List.mem_cons_self ..)
   split at ha
   ·simp at ha
   ·unfold litW at ha
    rw [if_pos hl1,List.mem_flatMap] at ha
    obtain⟨x,hx,ha⟩:=ha
    split at ha
    ·rename_i hp
     split at ha
     ·rename_i e'' he''
      have hlk:=hok.lit l hl
      obtain⟨k1,_⟩:=matchE_some (hlk.facts hl1 x hx hp).symm (by rw [g1];exact hlk.terms) he''
      exact fromE_num ys e'' (by rw [k1,g1];exact hok) (fun l hl=>hys l (List.mem_cons_of_mem _ hl)) (matchE_num hn' (hok.facts x hx) he'') a ha
     ·simp at ha
    ·simp at ha
theorem way_num {S:List Fct} {v:Nat} {body:List Ltl} (hok:okB S v body) {a:List Int} (ha:a∈fromE S body (yesOf body) (e0 v)):∀ y∈a,-1000000≤y∧y≤1000000 :=
 fromE_num (yesOf body) (e0 v) (by rw [show (e0 v).length=v from List.length_replicate];exact hok) (fun l hl=>⟨(List.mem_filter.1 hl).1,of_decide_eq_true (List.mem_filter.1 hl).2⟩)
  (fun u x hx=>by unfold e0 at hx;rw [List.getElem?_replicate] at hx;split at hx <;> simp at hx) a ha
theorem wayL_ok {p:Prg} {n:Int} {l:List Fct} (h:WayOk p n l):HeadOk p.arity (ruleAt p n) (wayL p n l):=by
 have hS:=(setF_spec l).1
 have hnd:(setF' l).Nodup:=hS.imp fun h he=>by subst he;exact lt_irrefl h
 obtain⟨_,p2,p3⟩:=ways_perm hnd h.ruls.ok.lit h.ruls.bd
 have hmem:∀ w∈wayL p n l,w∈fromE (setF' l) (ruleAt p n).body (yesOf (ruleAt p n).body) (e0 (ruleAt p n).vars.toNat):=by
  intro w hw
  unfold wayL rawW at hw
  split at hw
  ·split at hw
   ·exact (waysL_perm _ _ _).mem_iff.1 hw
   ·simp at hw
  ·simp at hw
 refine⟨h.rul,?_,fun w hw=>((p3 w).1 (hmem w hw)).1,fun w hw y hy=>?_,h.tlen⟩
 ·unfold wayL rawW
  split
  ·split
   ·rename_i hm;unfold manyW at hm;exact of_decide_eq_true hm
   ·simp
  ·simp
 ·have hw':=hmem w hw
  exact way_num h.ruls.ok hw' y hy
set_option maxHeartbeats 8000000 in
theorem made0_fn (arity:List Int) (r:Rul) (ways:List (List Int)) (hok:HeadOk arity r ways) (h0:r.fold=0):Fn 56 [elRul r,.d (.slice 1 (ways.map encW))] (fun res=>res = .d (.slice 2 ((setF' (headsD r ways)).map encFct))):=by
 refine fnp_enter' _ Tryz.func56 rfl rfl (by kernel_rfl) ?_
 intro O w0 E0 β0
 rw [headsD_eq]
 have hmany:=hok.many
 have htl:=hok.tlen
 have lw:(ways.map encW).length=ways.length:=List.length_map _
 have lt:(r.terms.map encTrm).length=r.terms.length:=List.length_map _
 have hal:∀ x∈ways.filterMap (headD r ways),x.args.length≤17592186044416:=by
  intro x hx
  obtain⟨w,hw,hx⟩:=List.mem_filterMap.1 hx
  unfold headD at hx
  rw [if_pos h0] at hx
  simp only [Option.some.injEq] at hx
  subst hx
  unfold aW
  simp only [List.length_map];omega
 have wset:=set_fn (ways.filterMap (headD r ways)) (Nat.le_trans (List.length_filterMap_le _ _) (by omega)) hal
 repeat' ((fail_if_success (apply dw_stopR 2));(first|refine z0 ?_|apply ds_nil|apply dw_seq2|refine z16 ?_|apply thenD_n|refine z1 ?_|fail))
 refine dw_ent (ent_nilrow (t:=5) 48 2 rfl) ?_
 repeat' (first|refine z0 ?_|apply ds_nil|apply dw_seq2|refine z16 ?_|apply dw_block|apply dw_skip|apply thenD_n|refine z1 ?_|refine z3 ?_|(refine z23 ?_ ?_ <;> intro hg)|fail)
 all_goals try (exfalso;omega)
 refine ds_loop (ι:=Nat) (fun i=>⟨2,[(1,.d (.slice 1 (ways.map encW))),(2,.loc 0 0),(5,.row 1),(21,.d (.slice 1 (ways.map encW))),(22,.d (.int .i64 ways.length)),(23,.d (.int .i64 i))],[(0,.blk 36 [.d (.int .i64 r.pred),.d (.slice 2 (r.terms.map encTrm)),.d (.int .i64 r.fold),.d (.slice 4 (r.body.map encLtl)),.d (.int .i64 r.vars)]),(1,.row 48 2 (((ways.take i).filterMap (headD r ways)).map encFct))]⟩)
  (fun i=>i≤ways.length) (fun i=>ways.length - i) 0 (Nat.zero_le _) (ent_ren id ⟨rfl,rfl,rfl,rfl,by rw [← lw];rfl,rfl,trivial⟩ ⟨rfl,rfl,trivial⟩ rfl rfl rfl rfl rfl rfl) ?_
 intro i g1
 by_cases hi:i < ways.length
 ·have hm:=List.getElem_mem hi
  have w1:=args_fn r.terms ways[i] (hok.terms hm) (by omega)
  have hst:=filterMap_take (headD r ways) hi
  have hhd:headD r ways ways[i]=some ⟨r.pred,aW r ways[i]⟩:=by unfold headD;rw [if_pos h0]
  rw [hhd] at hst
  have lo:((ways.take i).filterMap (headD r ways)).length≤i:=filterMap_len _ _ _
  clear wset
  repeat' (first|refine z0 ?_|apply ds_nil|refine z5 ?_|refine z9 ?_|refine z11 ?_|apply dw_seq2|refine z16 ?_|refine z20 ?_|apply dw_block|apply dw_skip|apply dw_exit|apply thenD_n|apply thenD_e|apply inB_n|refine z17 ?_|refine z22 ?_ (hc:=by apply w1)|(refine z23 ?_ ?_ <;> intro hg)|fail)
  all_goals try (exfalso;omega)
  exact⟨i + 1,hi,ent_ren (fun j=>match j with|1=>11|j=>j) ⟨rfl,rfl,rfl,rfl,rfl,rfl,trivial⟩ ⟨rfl,by rw [hst,List.map_append];rfl,trivial⟩ rfl rfl rfl rfl rfl rfl,by omega⟩
 ·rw [List.take_of_length_le (by omega)]
  repeat' (first|refine z0 ?_|apply ds_nil|refine z5 ?_|apply dw_seq2|refine z16 ?_|refine z20 ?_|apply dw_block|apply dw_skip|apply dw_exit|apply thenD_n|apply thenD_e|refine z17 ?_|(refine z23 ?_ ?_ <;> intro hg)|fail)
  all_goals try (exfalso;omega)
  refine ds_ent (ent_seal 38 rfl rfl rfl) ?_
  repeat' (first|refine z0 ?_|apply ds_nil|apply dw_ret|apply thenD_n|apply thenD_r|refine z21 ?_ (hc:=by apply wset)|fail)
  exact⟨.inl rfl,_,rfl,rfl,rfl⟩
end Go.Proofs.YtapciiffpnociacGreat
