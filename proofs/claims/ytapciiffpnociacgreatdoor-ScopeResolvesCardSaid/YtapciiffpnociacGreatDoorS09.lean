/- Several texts in one: WirP ScoP LstP WirE ScoE ScoA TokR TokT TokU TokV TokW TokX TokY. Condition: none. -/
import Derived.Test.YtapciiffpnociacGreatDoorS01
import Derived.Test.YtapciiffpnociacGreatDoorS08
namespace Go.Proofs.YtapciiffpnociacGreatDoor
structure UId where
 author:Int
 number:Int
structure Fct where
 pred:Int
 args:List Int
structure Upd where
 id:UId
 parents:List UId
 says:List Fct
 takes:List UId
def cmpI (a b:Int):Int:=if a < b then -1 else if b < a then 1 else 0
def ordL:List Int→List Int→Int
 | [],[]=>0
 | [],_::_=>-1
 | _::_,[]=>1
 | a::l,b::m=>if cmpI a b=0 then ordL l m else cmpI a b
def ordF (a b:Fct):Int:=if cmpI a.pred b.pred=0 then ordL a.args b.args else cmpI a.pred b.pred
def inR (n a b:Int):Bool:=decide (a≤n) && decide (n≤b)
def numB (n:Int):Bool:=inR n (-1000000) 1000000
def UId.same (a b:UId):Bool:=decide (a.author=b.author) && decide (a.number=b.number)
def putN (n:Nat):Nat→List UInt8
 | 0=>[]
 | k + 1=>UInt8.ofNat n::putN (n / 256) k
def put (n:Int) (k:Nat):List UInt8:=putN (n % 4294967296).toNat k
def sameL {α:Type} (p:α→α→Bool):List α→List α→Bool
 | [],[]=>true
 | x::xs,y::ys=>p x y && sameL p xs ys
 | _,_=>false
def Fct.same (x y:Fct):Bool:=decide (ordF x y=0)
def Upd.same (a b:Upd):Bool:=a.id.same b.id && (sameL UId.same a.parents b.parents && (sameL Fct.same a.says b.says && sameL UId.same a.takes b.takes))
theorem sameL_refl {α:Type} {p:α→α→Bool} (hp:∀ x,p x x=true):∀ l,sameL p l l=true
 | []=>rfl
 | x::l=>by unfold sameL;rw [hp x,sameL_refl hp l];rfl
theorem sameL_drop {α:Type} (p:α→α→Bool) (xs ys:List α) (k:Nat) (h1:k < xs.length) (h2:k < ys.length) :
  sameL p (xs.drop k) (ys.drop k)=(p xs[k] ys[k] && sameL p (xs.drop (k + 1)) (ys.drop (k + 1))):=by
 rw [List.drop_eq_getElem_cons h1,List.drop_eq_getElem_cons h2];rfl
theorem sameL_end {α:Type} (p:α→α→Bool) (xs ys:List α) (k:Nat) (h1:xs.length≤k) (h2:ys.length≤k) :
  sameL p (xs.drop k) (ys.drop k)=true:=by
 rw [List.drop_of_length_le h1,List.drop_of_length_le h2];rfl
theorem sameL_len {α:Type} (p:α→α→Bool):∀ (xs ys:List α),xs.length≠ys.length→sameL p xs ys=false
 | [],[],h=>absurd rfl h
 | [],_::_,_=>rfl
 | _::_,[],_=>rfl
 | x::xs,y::ys,h=>by rw [sameL,sameL_len p xs ys (fun e=>h (by simp [e])),Bool.and_false]
structure Trm where
 var:Int
 n:Int
structure Ltl where
 kind:Int
 op:Int
 pred:Int
 terms:List Trm
structure Rul where
 pred:Int
 terms:List Trm
 fold:Int
 body:List Ltl
 vars:Int
structure Prg where
 arity:List Int
 names:List ByteArray
 rules:List Rul
def firstL {α:Type} (f:α→Int):List α→Int
 | []=>0
 | x::l=>if f x≠0 then f x else firstL f l
theorem firstL_step {α:Type} {f:α→Int} {l:List α} {i:Nat} (hi:i < l.length):firstL f (l.drop i)=if f l[i]≠0 then f l[i] else firstL f (l.drop (i + 1)):=by
 rw [List.drop_eq_getElem_cons hi];rfl
theorem firstL_end {α:Type} {f:α→Int} {l:List α} {i:Nat} (hi:l.length≤i):firstL f (l.drop i)=0:=by
 rw [List.drop_of_length_le hi];rfl
def firstI (f:Nat→Int):Nat→Nat→Int
 | _,0=>0
 | i,k + 1=>if f i≠0 then f i else firstI f (i + 1) k
theorem firstI_step {f:Nat→Int} {n i:Nat} (h:i < n):firstI f i (n - i)=if f i≠0 then f i else firstI f (i + 1) (n - (i + 1)):=by
 rw [show n - i=(n - (i + 1)) + 1 by omega];rfl
theorem firstI_end {f:Nat→Int} {n i:Nat} (h:n≤i):firstI f i (n - i)=0:=by
 rw [show n - i=0 by omega];rfl
def termE (vars:Int) (t:Trm):Int:=if inR t.var (-1) (vars - 1)=false then 5 else if numB t.n=false∨(0≤t.var∧t.n≠0) then 3 else 0
def termsE (vars:Int) (l:List Trm):Int:=firstL (termE vars) l
def opB (kind n:Int):Bool:=if kind=3 then inR n 1 4 else if kind=4 then inR n 5 7 else decide (n=0)
def litE (arity:List Int) (vars:Int) (l:Ltl):Int :=
 if inR l.kind 1 4=false then 7
 else if opB l.kind l.op=false then 3
 else if l.kind=1∨l.kind=2 then
  if inR l.pred 0 ((arity.length:Int) - 1)=false then 5
  else if (l.terms.length:Int)≠arity.getD l.pred.toNat 0 then 1
  else termsE vars l.terms
 else if l.pred≠0∨(l.terms.length:Int)≠l.kind - 1 then 1
 else termsE vars l.terms
def isT (bs:List Bool) (t:Trm):Bool:=decide (t.var < 0) || bs.getD t.var.toNat false
def setT (bs:List Bool) (t:Trm):List Bool:=if t.var < 0 then bs else bs.set t.var.toNat true
def firesB (bs:List Bool) (l:Ltl):Bool:=decide (l.kind=1) || (decide (l.kind=4) && (l.terms.take 2).all (isT bs))
def litTs (l:Ltl):List Trm:=if l.kind=1 then l.terms else l.terms.drop 2
def bLit (bs:List Bool) (l:Ltl):List Bool:=if firesB bs l then (litTs l).foldl setT bs else bs
def bRound (body:List Ltl) (bs:List Bool):List Bool:=body.foldl bLit bs
def bIter (body:List Ltl):Nat→List Bool→List Bool
 | 0,bs=>bs
 | n + 1,bs=>bIter body n (bRound body bs)
def boundL (r:Rul):List Bool:=bIter r.body (r.body.length + 1) (List.replicate r.vars.toNat false)
def safeB (r:Rul):Bool:=(boundL r).all id
def ruleE (arity:List Int) (r:Rul):Int :=
 if inR r.pred 0 ((arity.length:Int) - 1)=false then 5
 else if (r.terms.length:Int)≠arity.getD r.pred.toNat 0 then 1
 else if inR r.vars 0 8=false then 3
 else if termsE r.vars r.terms≠0 then termsE r.vars r.terms
 else if inR r.fold 0 4=false then 7
 else if r.fold≠0∧(r.terms.length=0∨r.body.length=0) then 1
 else if 4 < r.body.length then 2
 else if firstL (litE arity r.vars) r.body≠0 then firstL (litE arity r.vars) r.body
 else if safeB r=false then 4
 else 0
def nameE (nameB:ByteArray→Bool) (p:Prg) (i:Nat):Int :=
 if inR (p.arity.getD i 0) 0 3=false then 3
 else if nameB (p.names.getD i ⟨#[]⟩)=false then 1
 else if (p.names.take i).any (fun s=>decide (s=p.names.getD i ⟨#[]⟩)) then 6
 else 0
def progE (nameB:ByteArray→Bool) (p:Prg):Int :=
 if 10 < p.arity.length∨12 < p.rules.length then 2
 else if p.names.length≠p.arity.length then 1
 else if firstI (nameE nameB p) 0 p.names.length≠0 then firstI (nameE nameB p) 0 p.names.length
 else firstL (ruleE p.arity) p.rules
theorem setT_len (bs:List Bool) (t:Trm):(setT bs t).length=bs.length:=by unfold setT;split <;> simp
theorem setTs_len:∀ (l:List Trm) (bs:List Bool),(l.foldl setT bs).length=bs.length
 | [],_=>rfl
 | t::l,bs=>by rw [List.foldl_cons,setTs_len l,setT_len]
theorem bLit_len (bs:List Bool) (l:Ltl):(bLit bs l).length=bs.length:=by unfold bLit;split;exact setTs_len _ _;rfl
theorem bRound_len:∀ (body:List Ltl) (bs:List Bool),(bRound body bs).length=bs.length
 | [],_=>rfl
 | l::body,bs=>by
  have:=bRound_len body (bLit bs l)
  rw [bLit_len] at this
  exact this
theorem bIter_len (body:List Ltl):∀ (n:Nat) (bs:List Bool),(bIter body n bs).length=bs.length
 | 0,_=>rfl
 | n + 1,bs=>by rw [bIter,bIter_len body n,bRound_len]
def leB (a b:List Bool):Prop:=a.length=b.length∧∀ i,a.getD i false=true→b.getD i false=true
theorem leB.refl (a:List Bool):leB a a:=⟨rfl,fun _ h=>h⟩
theorem leB.trans {a b c:List Bool} (h:leB a b) (g:leB b c):leB a c:=⟨h.1.trans g.1,fun i hi=>g.2 i (h.2 i hi)⟩
theorem setT_le (bs:List Bool) (t:Trm):leB bs (setT bs t):=by
 refine⟨(setT_len _ _).symm,fun i h=>?_⟩
 unfold setT
 split
 ·exact h
 ·simp only [List.getD,List.getElem?_set] at h ⊢
  split
  ·rename_i hi
   rw [hi]
   by_cases hl:i < bs.length
   ·simp [hl]
   ·rw [List.getElem?_eq_none (by omega)] at h;cases h
  ·exact h
theorem setTs_le:∀ (l:List Trm) (bs:List Bool),leB bs (l.foldl setT bs)
 | [],bs=>leB.refl bs
 | t::l,bs=>(setT_le bs t).trans (setTs_le l _)
theorem bLit_le (bs:List Bool) (l:Ltl):leB bs (bLit bs l):=by unfold bLit;split;exact setTs_le _ _;exact leB.refl _
theorem bRound_le:∀ (body:List Ltl) (bs:List Bool),leB bs (bRound body bs)
 | [],bs=>leB.refl bs
 | l::body,bs=>(bLit_le bs l).trans (bRound_le body _)
theorem isT_mono {a b:List Bool} (h:leB a b) {t:Trm} (ht:isT a t=true):isT b t=true:=by
 unfold isT at ht ⊢
 rw [Bool.or_eq_true] at ht ⊢
 exact ht.imp id (h.2 _)
theorem fires_mono {a b:List Bool} (h:leB a b) {l:Ltl} (hl:firesB a l=true):firesB b l=true:=by
 unfold firesB at hl ⊢
 simp only [Bool.or_eq_true,Bool.and_eq_true,List.all_eq_true] at hl ⊢
 exact hl.imp id fun⟨g1,g2⟩=>⟨g1,fun t ht=>isT_mono h (g2 t ht)⟩
theorem setT_same {bs:List Bool} {t:Trm} (h:isT bs t=true):setT bs t=bs:=by
 unfold isT at h
 unfold setT
 split
 ·rfl
 ·rename_i hn
  rw [decide_eq_false hn,Bool.false_or] at h
  simp only [List.getD] at h
  cases hg:bs[t.var.toNat]? with
  | none=>rw [hg] at h;cases h
  | some b =>
   rw [hg] at h
   simp only [Option.getD_some] at h
   subst h
   have hlt:=(List.getElem?_eq_some_iff.1 hg).1
   refine List.ext_getElem? fun i=>?_
   rw [List.getElem?_set]
   split
   ·rename_i hi;subst hi;exact hg.symm
   ·rfl
theorem setTs_same:∀ {l:List Trm} {bs:List Bool},(∀ t∈l,isT bs t=true)→l.foldl setT bs=bs
 | [],_,_=>rfl
 | t::l,bs,h=>by
  rw [List.foldl_cons,setT_same (h t (List.mem_cons_self ..))]
  exact setTs_same fun x hx=>h x (List.mem_cons_of_mem _ hx)
def okT (v:Nat) (t:Trm):Prop:=t.var < (v:Int)
theorem setT_is {bs:List Bool} {t:Trm} (h:okT bs.length t):isT (setT bs t) t=true:=by
 unfold isT setT
 unfold okT at h
 split
 ·rename_i hn;rw [decide_eq_true hn];rfl
 ·rename_i hn
  rw [decide_eq_false hn,Bool.false_or]
  simp only [List.getD,List.getElem?_set]
  have:t.var.toNat < bs.length:=by omega
  simp [this]
theorem setTs_is:∀ {l:List Trm} {bs:List Bool},(∀ t∈l,okT bs.length t)→∀ t∈l,isT (l.foldl setT bs) t=true
 | [],_,_,t,ht=>by simp at ht
 | x::l,bs,h,t,ht=>by
  rw [List.foldl_cons]
  rcases List.mem_cons.1 ht with rfl|ht
  ·exact isT_mono (setTs_le l _) (setT_is (h t (List.mem_cons_self ..)))
  ·exact setTs_is (bs:=setT bs x) (fun y hy=>by rw [setT_len];exact h y (List.mem_cons_of_mem _ hy)) t ht
theorem bLit_same {bs:List Bool} {l:Ltl} (h:firesB bs l=true→∀ t∈litTs l,isT bs t=true):bLit bs l=bs:=by
 unfold bLit
 split
 ·rename_i hf;exact setTs_same (h hf)
 ·rfl
theorem bRound_same:∀ {body:List Ltl} {bs:List Bool},(∀ l∈body,firesB bs l=true→∀ t∈litTs l,isT bs t=true)→bRound body bs=bs
 | [],_,_=>rfl
 | l::body,bs,h=>by
  show bRound body (bLit bs l)=bs
  rw [bLit_same (h l (List.mem_cons_self ..))]
  exact bRound_same fun x hx=>h x (List.mem_cons_of_mem _ hx)
theorem bRound_done:∀ {body:List Ltl} {bs:List Bool},(∀ l∈body,∀ t∈litTs l,okT bs.length t)→∀ l∈body,firesB bs l=true→∀ t∈litTs l,isT (bRound body bs) t=true
 | [],_,_,l,hl,_,_,_=>by simp at hl
 | x::body,bs,hok,l,hl,hf,t,ht=>by
  show isT (bRound body (bLit bs x)) t=true
  rcases List.mem_cons.1 hl with rfl|hl
  ·refine isT_mono (bRound_le body _) ?_
   unfold bLit
   rw [if_pos hf]
   exact setTs_is (hok l (List.mem_cons_self ..)) t ht
  ·exact bRound_done (bs:=bLit bs x) (fun y hy z hz=>by rw [bLit_len];exact hok y (List.mem_cons_of_mem _ hy) z hz) l hl (fires_mono (bLit_le bs x) hf) t ht
def nFire (body:List Ltl) (bs:List Bool):Nat:=(body.filter (firesB bs)).length
theorem nFire_mono {a b:List Bool} (h:leB a b):∀ (body:List Ltl),nFire body a≤nFire body b
 | []=>Nat.le_refl _
 | l::body=>by
  have ih:=nFire_mono h body
  unfold nFire at ih ⊢
  rw [List.filter_cons,List.filter_cons]
  cases ha:firesB a l with
  | true=>rw [fires_mono h ha];simpa using ih
  | false =>
   cases hb:firesB b l with
   | true=>simp;omega
   | false=>simpa using ih
theorem nFire_same {a b:List Bool} (h:leB a b):∀ {body:List Ltl},nFire body b≤nFire body a→∀ l∈body,firesB b l=true→firesB a l=true
 | [],_,l,hl,_=>by simp at hl
 | x::body,hn,l,hl,hf=>by
  have ih:=nFire_mono h body
  have ihs:=@nFire_same a b h body
  unfold nFire at hn ih ihs
  rw [List.filter_cons,List.filter_cons] at hn
  rcases List.mem_cons.1 hl with rfl|hl
  ·cases ha:firesB a l with
   | true=>rfl
   | false=>rw [hf,ha] at hn;simp at hn;omega
  ·refine ihs ?_ l hl hf
   cases ha:firesB a x with
   | true=>rw [ha,fires_mono h ha] at hn;simpa using hn
   | false =>
    cases hb:firesB b x with
    | true=>rw [ha,hb] at hn;simp at hn;omega
    | false=>rw [ha,hb] at hn;simpa using hn
theorem bIter_succ (body:List Ltl):∀ (n:Nat) (bs:List Bool),bIter body (n + 1) bs=bRound body (bIter body n bs)
 | 0,_=>rfl
 | n + 1,bs=>by rw [bIter,bIter_succ body n];rfl
theorem bIter_rest {body:List Ltl} {bs:List Bool} (hok:∀ l∈body,∀ t∈litTs l,okT bs.length t):∀ n,bRound body (bIter body n bs)=bIter body n bs∨n + 1≤nFire body (bIter body n bs)
 | 0=>by
  by_cases h:nFire body bs=0
  ·left
   refine bRound_same fun l hl hf=>?_
   have:l∈body.filter (firesB bs):=List.mem_filter.2 ⟨hl,hf⟩
   unfold nFire at h
   rw [List.eq_nil_of_length_eq_zero h] at this
   simp at this
  ·right;show 1≤nFire body bs;omega
 | n + 1=>by
  rcases bIter_rest hok n with h|h
  ·left;rw [bIter_succ,h,h]
  ·have hle:=bRound_le body (bIter body n bs)
   have hm:=nFire_mono hle body
   by_cases hn:nFire body (bRound body (bIter body n bs))≤nFire body (bIter body n bs)
   ·left
    rw [bIter_succ]
    refine bRound_same fun l hl hf=>?_
    exact bRound_done (fun x hx t ht=>by rw [bIter_len];exact hok x hx t ht) l hl (nFire_same hle hn l hl hf)
   ·right;rw [bIter_succ];omega
theorem bRound_rest {body:List Ltl} {bs:List Bool} (hok:∀ l∈body,∀ t∈litTs l,okT bs.length t):bRound body (bIter body body.length bs)=bIter body body.length bs:=by
 rcases bIter_rest hok body.length with h|h
 ·exact h
 ·have:=List.length_filter_le (firesB (bIter body body.length bs)) body
  unfold nFire at h
  omega
theorem bIter_fix {body:List Ltl} {bs:List Bool} (h:bRound body bs=bs):∀ n,bIter body n bs=bs
 | 0=>rfl
 | n + 1=>by rw [bIter,h,bIter_fix h n]
theorem bIter_add (body:List Ltl):∀ (m n:Nat) (bs:List Bool),bIter body (m + n) bs=bIter body n (bIter body m bs)
 | 0,n,bs=>by rw [Nat.zero_add];rfl
 | m + 1,n,bs=>by rw [show m + 1 + n=(m + n) + 1 by omega,bIter,bIter,bIter_add body m n]
theorem rest_is {r:Rul} (hok:∀ l∈r.body,∀ t∈litTs l,okT r.vars.toNat t) {m:Nat} (h:bRound r.body (bIter r.body m (List.replicate r.vars.toNat false))=bIter r.body m (List.replicate r.vars.toNat false)):bIter r.body m (List.replicate r.vars.toNat false)=boundL r:=by
 have h2:=bRound_rest (body:=r.body) (bs:=List.replicate r.vars.toNat false) (by rw [List.length_replicate];exact hok)
 unfold boundL
 rw [bIter_succ,h2]
 rcases Nat.le_total m r.body.length with hm|hm
 ·obtain⟨d,hd⟩:=Nat.exists_eq_add_of_le hm
  rw [hd,bIter_add,bIter_fix h]
 ·obtain⟨d,hd⟩:=Nat.exists_eq_add_of_le hm
  rw [hd,bIter_add,bIter_fix h2]
def idxF {α:Type} (p:α→Bool) (l:List α):Int:=match l.findIdx? p with
 | some i=>i
 | none=>-1
theorem idxF_hit {α:Type} {p:α→Bool} {l:List α} {i:Nat} (h:∀ j (hj:j < l.length),j < i→p l[j]=false) (hi:i < l.length) (hp:p l[i]=true):idxF p l=i:=by
 unfold idxF
 have:l.findIdx? p=some i:=by
  rw [List.findIdx?_eq_some_iff_getElem]
  exact⟨hi,hp,fun j hj=>by simpa using h j (by omega) hj⟩
 rw [this]
theorem idxF_none {α:Type} {p:α→Bool} {l:List α} (h:∀ j (hj:j < l.length),p l[j]=false):idxF p l = -1:=by
 unfold idxF
 have:l.findIdx? p=none:=by
  rw [List.findIdx?_eq_none_iff]
  intro x hx
  obtain⟨i,hi,rfl⟩:=List.mem_iff_getElem.1 hx
  exact h i hi
 rw [this]
theorem idxF_any {α:Type} (p:α→Bool) (l:List α):decide (idxF p l ≥ 0)=l.any p:=by
 unfold idxF
 cases h:l.findIdx? p with
 | none =>
  rw [List.findIdx?_eq_none_iff] at h
  have:l.any p=false:=by
   rw [List.any_eq_false]
   intro x hx
   rw [h x hx];exact Bool.false_ne_true
  rw [this];rfl
 | some i =>
  rw [List.findIdx?_eq_some_iff_getElem] at h
  obtain⟨hi,hp,_⟩:=h
  have:l.any p=true:=List.any_eq_true.2 ⟨l[i],List.getElem_mem hi,hp⟩
  rw [this]
  exact decide_eq_true (by show (0:Int)≤(i:Int);omega)
theorem none_step {α:Type} {p:α→Bool} {l:List α} {i:Nat} (h:∀ j (hj:j < l.length),j < i→p l[j]=false) (hi:i < l.length) (hp:p l[i]=false):∀ j (hj:j < l.length),j < i + 1→p l[j]=false:=by
 intro j hj hlt
 by_cases he:j=i
 ·subst he;exact hp
 ·exact h j hj (by omega)
open Go Go.RowKit
attribute [local irreducible] DW DS DL DQ Ev FnOk FnP thenD inBlockD DT
def encI (n:Int):List D:=[.int .i64 n]
def encFct (f:Fct):List D:=[.int .i64 f.pred,.slice 1 (f.args.map encI)]
abbrev elI (n:Int):SV:=.d (.int .i64 n)
abbrev elFct (f:Fct):SV:=.agg [.d (.int .i64 f.pred),.d (.slice 1 (f.args.map encI))]
set_option maxHeartbeats 8000000 in
theorem indexFuncInt_fn {f:FuncId} {caps:List SV} (p:Int→Bool) (l:List (Int)) (hcap:SV.lowL 0 caps=true) (hp:∀ x∈l,Fn f (elI x::caps) (fun r=>r = .d (.bool (p x)))):Fn 73 [.d (.slice 1 (l.map encI)),.fn f caps] (fun r=>r = .d (.int .i64 (idxF p l))):=by
 refine fnp_enter' _ Tryz.func73 rfl rfl (by kernel_rfl) ?_
 intro O w0 E0 β0
 refine dw_len_map (t:=0) rfl fun hb=>?_
 repeat' (first|refine z0 ?_|apply ds_nil|apply dw_seq2|refine z16 ?_|apply dw_block|apply thenD_n)
 refine ds_loop (ι:=Nat) (fun i=>⟨0,[(0,.d (.slice 1 (l.map encI))),(1,.fn f caps),(7,.d (.int .i64 l.length)),(8,.d (.int .i64 i))],[]⟩)
  (fun i=>i≤l.length∧∀ j (hj:j < l.length),j < i→p l[j]=false) (fun i=>l.length - i) 0 ⟨Nat.zero_le _,fun j _ h=>absurd h (Nat.not_lt_zero j)⟩
  (ent_ren id ⟨rfl,congrArg (SV.fn f) (SV.renL_id caps).symm,by simp;rfl,rfl,trivial⟩ trivial (by simp [Sl.low,SV.low,hcap]) rfl rfl rfl rfl rfl) ?_
 rintro i ⟨h1,h2⟩
 repeat' (first|refine z0 ?_|apply ds_nil|apply dw_seq2|refine z16 ?_|apply thenD_n)
 refine dw_condP rfl (fun h=>?_) (fun h=>?_)
 ·have hi:i < l.length:=by omega
  have hpx:=hp l[i] (List.getElem_mem hi)
  repeat' (first|refine z0 ?_|apply ds_nil|apply dw_seq2|refine z16 ?_|apply dw_block|apply dw_skip|apply thenD_n|(apply ds_callV;exact rfl;exact rfl;exact rfl;exact rfl;apply hpx;exact rfl;(assumption);exact rfl;rintro _ rfl))
  refine dw_cond rfl (fun hb=>?_) (fun hb=>?_)
  ·repeat' (first|refine z0 ?_|apply ds_nil|apply dw_seq2|refine z16 ?_|apply dw_ret|apply thenD_n|apply thenD_r|apply inB_r)
   exact ret_i rfl (idxF_hit h2 hi hb).symm
  ·repeat' (first|refine z0 ?_|apply ds_nil|refine z16 ?_|apply dw_skip|apply thenD_n|apply inB_n)
   exact⟨i + 1,⟨hi,none_step h2 hi hb⟩,ent_ren id ⟨rfl,congrArg (SV.fn f) (SV.renL_id caps).symm,rfl,rfl,trivial⟩ trivial (by simp [Sl.low,SV.low,hcap]) rfl rfl rfl rfl rfl,by omega⟩
 ·repeat' (first|refine z0 ?_|apply ds_nil|apply dw_seq2|refine z16 ?_|apply dw_exit|apply dw_ret|apply thenD_n|apply thenD_e|refine z17 ?_|fail)
  exact ret_i rfl (idxF_none fun j hj=>h2 j hj (by omega)).symm
set_option maxHeartbeats 8000000 in
theorem containsFuncInt_fn {f:FuncId} {caps:List SV} (p:Int→Bool) (l:List (Int)) (hcap:SV.lowL 0 caps=true) (hp:∀ x∈l,Fn f (elI x::caps) (fun r=>r = .d (.bool (p x)))):Fn 50 [.d (.slice 1 (l.map encI)),.fn f caps] (fun r=>r = .d (.bool (l.any p))):=by
 refine fnp_enter' _ Tryz.func50 rfl rfl (by kernel_rfl) ?_
 intro O w0 E0 β0
 have hx:=indexFuncInt_fn p l hcap hp
 have hlow:SV.lowL 0 [.d (.slice 1 (l.map encI)),.fn f caps]=true:=by simp [SV.lowL,SV.low,hcap]
 repeat' (first|refine z0 ?_|apply ds_nil|apply dw_seq2|refine z16 ?_|apply dw_ret|apply thenD_n|refine z21 ?_ (hc:=by apply hx)|fail)
 exact ret_b rfl (idxF_any p l)
def encBl (b:Bool):List D:=[.bool b]
def encT (s:ByteArray):List D:=[.str s]
def encTrm (t:Trm):List D:=[.int .i64 t.var,.int .i64 t.n]
def encLtl (l:Ltl):List D:=[.int .i64 l.kind,.int .i64 l.op,.int .i64 l.pred,.slice 2 (l.terms.map encTrm)]
def encRul (r:Rul):List D:=[.int .i64 r.pred,.slice 2 (r.terms.map encTrm),.int .i64 r.fold,.slice 4 (r.body.map encLtl),.int .i64 r.vars]
abbrev elTrm (t:Trm):SV:=.agg [.d (.int .i64 t.var),.d (.int .i64 t.n)]
abbrev elLtl (l:Ltl):SV:=.agg [.d (.int .i64 l.kind),.d (.int .i64 l.op),.d (.int .i64 l.pred),.d (.slice 2 (l.terms.map encTrm))]
abbrev elRul (r:Rul):SV:=.agg [.d (.int .i64 r.pred),.d (.slice 2 (r.terms.map encTrm)),.d (.int .i64 r.fold),.d (.slice 4 (r.body.map encLtl)),.d (.int .i64 r.vars)]
abbrev elPrg (p:Prg):SV:=.agg [.d (.slice 1 (p.arity.map encI)),.d (.slice 1 (p.names.map encT)),.d (.slice 5 (p.rules.map encRul))]
set_option maxHeartbeats 8000000 in
theorem swithin_fn (n a b:Int):Fn 43 [.d (.int .i64 n),.d (.int .i64 a),.d (.int .i64 b)] (fun r=>r = .d (.bool (inR n a b))):=by
 refine fnp_enter' _ Tryz.func43 rfl rfl (by kernel_rfl) ?_
 intro O w0 E0 β0
 unfold inR
 repeat' (first|refine z0 ?_|refine z12 ?_|apply ds_nil|apply dw_seq2|refine z16 ?_|apply dw_ret|apply thenD_n|((fail_if_success (apply ds_known;exact rfl));apply ds_guardP;exact rfl;exact rfl;exact rfl;all_goals intro hg))
 all_goals exact ret_b rfl (by simp_all <;> omega)
set_option maxHeartbeats 8000000 in
theorem snumber_fn (n:Int):Fn 52 [.d (.int .i64 n)] (fun r=>r = .d (.bool (numB n))):=by
 refine fnp_enter' _ Tryz.func52 rfl rfl (by kernel_rfl) ?_
 intro O w0 E0 β0
 unfold numB
 repeat' (first|refine z0 ?_|apply ds_nil|apply dw_seq2|refine z16 ?_|apply dw_ret|apply thenD_n|refine z21 ?_ (hc:=by apply swithin_fn)|fail)
 exact ret_b rfl rfl
set_option maxHeartbeats 8000000 in
theorem op_fn (kind n:Int):Fn 70 [.d (.int .i64 kind),.d (.int .i64 n)] (fun r=>r = .d (.bool (opB kind n))):=by
 refine fnp_enter' _ Tryz.func70 rfl rfl (by kernel_rfl) ?_
 intro O w0 E0 β0
 unfold opB
 repeat' (first|refine z0 ?_|apply ds_nil|apply dw_seq2|refine z16 ?_|apply dw_block|apply dw_skip|apply dw_ret|apply thenD_n|apply thenD_r|apply inB_n|apply inB_r|refine z21 ?_ (hc:=by apply swithin_fn)|(refine z23 ?_ ?_ <;> intro hg)|fail)
 all_goals exact ret_b rfl (by simp_all <;> omega)
set_option maxHeartbeats 8000000 in
theorem terms_fn (l:List Trm) (vars:Int) (h0:0≤vars) (h8:vars≤8):Fn 46 [.d (.slice 2 (l.map encTrm)),.d (.int .i64 vars)] (fun r=>r = .d (.int .i64 (termsE vars l))):=by
 refine fnp_enter' _ Tryz.func46 rfl rfl (by kernel_rfl) ?_
 intro O w0 E0 β0
 have la:(l.map encTrm).length=l.length:=List.length_map _
 unfold termsE
 repeat' (first|refine z0 ?_|apply ds_nil|apply dw_seq2|refine z16 ?_|apply dw_block|apply thenD_n)
 refine dw_len (t:=7) rfl (fun hk=>?_)
 refine ds_loop (ι:=Nat) (fun i=>⟨0,[(1,.d (.int .i64 vars)),(4,.d (.int .i64 0)),(7,.d (.slice 2 (l.map encTrm))),(8,.d (.int .i64 (l.map encTrm).length)),(9,.d (.int .i64 i))],[]⟩)
  (fun i=>i≤l.length∧firstL (termE vars) l=firstL (termE vars) (l.drop i)) (fun i=>l.length - i) 0 ⟨Nat.zero_le _,rfl⟩ (ent_ren id ⟨rfl,rfl,rfl,rfl,rfl,trivial⟩ trivial rfl rfl rfl rfl rfl rfl) ?_
 rintro i ⟨g1,g2⟩
 by_cases hi:i < l.length
 ·rw [firstL_step hi,show termE vars l[i]=if inR l[i].var (-1) (vars - 1)=false then 5 else if numB l[i].n=false∨(0≤l[i].var∧l[i].n≠0) then 3 else 0 from rfl] at g2
  repeat' (first|refine z0 ?_|refine z12 ?_|apply ds_nil|apply dw_seq2|refine z16 ?_|apply dw_block|apply dw_skip|apply dw_exit|apply dw_ret|refine z18 ?_|refine z19 ?_|apply thenD_n|apply thenD_e|apply thenD_r|apply inB_n|apply inB_r|refine z17 ?_|refine z21 ?_ (hc:=by apply swithin_fn)|refine z21 ?_ (hc:=by apply snumber_fn)|refine z1 ?_|refine z3 ?_|(refine z23 ?_ ?_ <;> intro hg)|(apply dw_cond;exact rfl;all_goals intro hg)|((fail_if_success (apply ds_known;exact rfl));apply ds_guardP;exact rfl;exact rfl;exact rfl;all_goals intro hg)|((fail_if_success (apply ds_known;exact rfl));apply ds_guardB;exact rfl;exact rfl;exact rfl;all_goals intro hg))
  all_goals first
   | exact absurd hg (by omega)
   | exact ret_i rfl (by rw [g2];simp_all <;> omega)
   | exact⟨i + 1,⟨by omega,by rw [g2];simp_all <;> omega⟩,ent_ren id ⟨rfl,rfl,rfl,rfl,rfl,trivial⟩ trivial rfl rfl rfl rfl rfl rfl,by show l.length - (i + 1) < l.length - i;omega⟩
 ·rw [firstL_end (by omega)] at g2
  repeat' (first|refine z0 ?_|refine z12 ?_|apply ds_nil|apply dw_seq2|refine z16 ?_|apply dw_block|apply dw_skip|apply dw_exit|apply dw_ret|refine z18 ?_|refine z19 ?_|apply thenD_n|apply thenD_e|apply thenD_r|apply inB_n|apply inB_r|refine z17 ?_|refine z21 ?_ (hc:=by apply swithin_fn)|refine z21 ?_ (hc:=by apply snumber_fn)|refine z1 ?_|refine z3 ?_|(refine z23 ?_ ?_ <;> intro hg)|(apply dw_cond;exact rfl;all_goals intro hg)|((fail_if_success (apply ds_known;exact rfl));apply ds_guardP;exact rfl;exact rfl;exact rfl;all_goals intro hg)|((fail_if_success (apply ds_known;exact rfl));apply ds_guardB;exact rfl;exact rfl;exact rfl;all_goals intro hg))
  all_goals first
   | exact absurd hg (by omega)
   | exact ret_i rfl g2.symm
theorem arity_at {p:Prg} {n:Int} (h0:0≤n) (h:n < (p.arity.length:Int)):p.arity.getD n.toNat 0=p.arity[n.toNat]'(by omega):=by
 rw [List.getD,List.getElem?_eq_getElem (by omega)];rfl
theorem inR_spec {n a b:Int} (h:inR n a b=true):a≤n∧n≤b:=by
 unfold inR at h;simpa using h
set_option maxHeartbeats 8000000 in
theorem lit_fn (p:Prg) (l:Ltl) (vars:Int) (h0:0≤vars) (h8:vars≤8):Fn 47 [elPrg p,elLtl l,.d (.int .i64 vars)] (fun r=>r = .d (.int .i64 (litE p.arity vars l))):=by
 refine fnp_enter' _ Tryz.func47 rfl rfl (by kernel_rfl) ?_
 intro O w0 E0 β0
 obtain⟨kind,op,pred,terms⟩:=l
 have la:(p.arity.map encI).length=p.arity.length:=List.length_map _
 have lb:(terms.map encTrm).length=terms.length:=List.length_map _
 refine dw_lenA 0 0 rfl rfl (fun hk=>?_)
 refine dw_lenA 1 3 rfl rfl (fun hk2=>?_)
 have ht:=terms_fn terms vars h0 h8
 have w1:=swithin_fn kind 1 4
 have ho:=op_fn kind op
 unfold litE
 dsimp only [elLtl]
 by_cases hk1:inR kind 1 4=true
 ·have hk':=inR_spec hk1
  rw [hk1] at w1
  rw [hk1,if_neg (show ¬ (true=false) by decide)]
  generalize opB kind op=bo at ho ⊢
  by_cases hn:kind=1∨kind=2
  ·have w2:=swithin_fn pred 0 (((p.arity.map encI).length:Int) - 1)
   rw [if_pos hn,← la]
   by_cases hp:inR pred 0 (((p.arity.map encI).length:Int) - 1)=true
   ·have hp':=inR_spec hp
    have hA:=arity_at (p:=p) (n:=pred) (by omega) (by omega)
    rw [hp] at w2 ⊢
    rw [if_neg (show ¬ (true=false) by decide),hA]
    clear hk1 hp hA
    rcases hn with rfl|rfl
    all_goals repeat' (first|refine z0 ?_|refine z12 ?_|apply ds_nil|refine z5 ?_|refine z10 ?_|apply dw_seq2|refine z16 ?_|refine z20 ?_|apply dw_block|apply dw_skip|apply dw_ret|refine z19 ?_|apply thenD_n|apply thenD_r|apply inB_n|apply inB_r|refine z21 ?_ (hc:=by apply w1)|refine z21 ?_ (hc:=by apply w2)|refine z21 ?_ (hc:=by apply ho)|refine z21 ?_ (hc:=by apply ht)|refine z1 ?_|(refine z23 ?_ ?_ <;> intro hg)|(apply dw_cond;exact rfl;all_goals intro hg))
    all_goals first
     | exact ret_i rfl (by simp_all <;> omega)
     | exact ret_i rfl rfl
   ·rw [Bool.not_eq_true] at hp
    rw [hp] at w2 ⊢
    rw [if_pos rfl]
    clear hk1 hp
    rcases hn with rfl|rfl
    all_goals repeat' (first|refine z0 ?_|refine z12 ?_|apply ds_nil|apply dw_seq2|refine z16 ?_|apply dw_block|apply dw_ret|refine z18 ?_|refine z19 ?_|apply thenD_n|apply thenD_r|apply inB_r|refine z21 ?_ (hc:=by apply w1)|refine z21 ?_ (hc:=by apply w2)|refine z21 ?_ (hc:=by apply ho)|refine z1 ?_|(apply dw_cond;exact rfl;all_goals intro hg))
    all_goals first
     | exact ret_i rfl (by simp_all <;> omega)
  ·rw [if_neg hn]
   clear hk1
   rcases (show kind=3∨kind=4 by omega) with rfl|rfl
   all_goals repeat' (first|refine z0 ?_|refine z12 ?_|apply ds_nil|refine z5 ?_|refine z14 ?_|refine z10 ?_|apply dw_seq2|refine z16 ?_|refine z20 ?_|apply dw_block|apply dw_skip|apply dw_ret|refine z18 ?_|refine z19 ?_|apply thenD_n|apply thenD_r|apply inB_n|apply inB_r|refine z21 ?_ (hc:=by apply w1)|refine z21 ?_ (hc:=by apply ho)|refine z21 ?_ (hc:=by apply ht)|refine z1 ?_|(refine z23 ?_ ?_ <;> intro hg)|(apply dw_cond;exact rfl;all_goals intro hg)|((fail_if_success (apply ds_known;exact rfl));apply ds_guardP;exact rfl;exact rfl;exact rfl;all_goals intro hg))
   all_goals first
    | exact ret_i rfl (by simp_all <;> omega)
 ·rw [Bool.not_eq_true] at hk1
  rw [hk1] at w1 ⊢
  rw [if_pos rfl]
  repeat' (first|refine z0 ?_|refine z12 ?_|apply ds_nil|apply dw_seq2|refine z16 ?_|apply dw_block|apply dw_ret|refine z18 ?_|apply thenD_n|apply thenD_r|apply inB_r|refine z21 ?_ (hc:=by apply w1)|refine z1 ?_|((fail_if_success (apply ds_known;exact rfl));apply ds_guardP;exact rfl;exact rfl;exact rfl;all_goals intro hg))
  all_goals exact ret_i rfl rfl
set_option maxHeartbeats 8000000 in
theorem between_fn (n a b:Int):Fn 16 [.d (.int .i64 n),.d (.int .i64 a),.d (.int .i64 b)] (fun r=>r = .d (.bool (decide (a≤n) && decide (n≤b)))):=by
 refine fnp_enter' _ Tryz.func16 rfl rfl (by kernel_rfl) ?_
 intro O w0 E0 β0
 repeat' (first|refine z0 ?_|refine z12 ?_|apply ds_nil|apply dw_seq2|refine z16 ?_|apply dw_ret|apply thenD_n|((fail_if_success (apply ds_known;exact rfl));apply ds_guardP;exact rfl;exact rfl;exact rfl;all_goals intro hg))
 all_goals exact ret_b rfl (by first|(simp_all;done)|(simp_all;omega))
set_option maxHeartbeats 8000000 in
theorem isSmall_fn (c:UInt8):Fn 66 [.d (.int .u8 (c.toNat:Int))] (fun r=>r = .d (.bool (smallB c))):=by
 refine fnp_enter' _ Tryz.func66 rfl rfl (by kernel_rfl) ?_
 intro O w0 E0 β0
 repeat' (first|refine z0 ?_|apply ds_nil|apply dw_seq2|refine z16 ?_|apply dw_ret|apply thenD_n|refine z21 ?_ (hc:=by apply between_fn)|fail)
 all_goals exact ret_b rfl (by unfold smallB;rfl)
set_option maxHeartbeats 8000000 in
theorem isLetter_fn (c:UInt8):Fn 87 [.d (.int .u8 (c.toNat:Int))] (fun r=>r = .d (.bool (letterB c))):=by
 refine fnp_enter' _ Tryz.func87 rfl rfl (by kernel_rfl) ?_
 intro O w0 E0 β0
 repeat' (first|refine z0 ?_|refine z12 ?_|apply ds_nil|apply dw_seq2|refine z16 ?_|apply dw_ret|apply thenD_n|refine z21 ?_ (hc:=by apply between_fn)|refine z21 ?_ (hc:=by apply isSmall_fn)|((fail_if_success (apply ds_known;exact rfl));apply ds_guardB;exact rfl;exact rfl;exact rfl;all_goals intro hg))
 all_goals exact ret_b rfl (by unfold letterB greatB;rw [hg];rfl)
set_option maxHeartbeats 8000000 in
theorem isDigit_fn (c:UInt8):Fn 88 [.d (.int .u8 (c.toNat:Int))] (fun r=>r = .d (.bool (digitB c))):=by
 refine fnp_enter' _ Tryz.func88 rfl rfl (by kernel_rfl) ?_
 intro O w0 E0 β0
 repeat' (first|refine z0 ?_|apply ds_nil|apply dw_seq2|refine z16 ?_|apply dw_ret|apply thenD_n|refine z21 ?_ (hc:=by apply between_fn)|fail)
 all_goals exact ret_b rfl (by unfold digitB;rfl)
theorem ext2 (s:ByteArray) (i:Nat) (h:i + 1 < s.size):s.extract i (i + 2)=⟨#[s[i],s[i + 1]]⟩:=by
 apply ByteArray.ext
 simp only [ByteArray.data_extract]
 apply Array.toList_inj.1
 rw [Array.toList_extract]
 have hl:s.data.toList.length=s.size:=by simp
 rw [List.extract_eq_take_drop,show i + 2 - i=2 by omega,List.drop_eq_getElem_cons (by omega),List.drop_eq_getElem_cons (by omega),byteAt _ _ (by omega),byteAt _ _ (by omega)]
 rfl
theorem pair_ext (s:ByteArray) (i:Nat) (h:i + 1 < s.size):pairB (s[i]::s.data.toList.drop (i + 1))=(decide (s.extract i (i + 2)=⟨#[58,45]⟩) || decide (s.extract i (i + 2)=⟨#[60,61]⟩) || decide (s.extract i (i + 2)=⟨#[33,61]⟩)):=by
 have hl:s.data.toList.length=s.size:=by simp
 have key:∀ a b c d:UInt8,decide ((⟨#[a,b]⟩:ByteArray)=⟨#[c,d]⟩)=(a == c && b == d):=fun a b c d=>by
  rw [Bool.eq_iff_iff];simp
 rw [ext2 s i h,key,key,key,List.drop_eq_getElem_cons (by omega),byteAt _ _ (by omega),pairB]
theorem signs_step (c:UInt8) (i:Nat) (h:i < (⟨#[40,41,44,46,60,61,43,45,42]⟩:ByteArray).size):(signs.drop i).contains c=(decide ((((⟨#[40,41,44,46,60,61,43,45,42]⟩:ByteArray)[i]'h).toNat:Int)=(c.toNat:Int)) || (signs.drop (i + 1)).contains c):=by
 have h':i < signs.length:=h
 have e:signs[i]=(⟨#[40,41,44,46,60,61,43,45,42]⟩:ByteArray)[i]'h:=byteAt _ i h
 rw [List.drop_eq_getElem_cons h',List.contains_cons,e]
 congr 1
 rw [Bool.eq_iff_iff]
 simp only [beq_iff_eq,decide_eq_true_eq]
 exact⟨fun h=>by rw [h],fun h=>(UInt8.toNat_inj.1 (by omega)).symm⟩
set_option maxHeartbeats 8000000 in
theorem tokenAt_fn (s:ByteArray) (at_:Nat) (hat:at_ < s.size) (hs:s.size≤5000) :
  Fn 64 [.d (.str s),.d (.int .i64 at_)] (fun r=>r = .tup [.d (.int .i64 (tokAt (s.data.toList.drop at_)).1),.d (.int .i64 ((tokAt (s.data.toList.drop at_)).2:Nat))]):=by
 refine fnp_enter' _ Tryz.func64 rfl rfl (by kernel_rfl) ?_
 intro O w0 E0 β0
 repeat' (first|refine z0 ?_|apply ds_nil|apply dw_seq2|refine z16 ?_|apply dw_block|apply thenD_n|refine z21 ?_ (hc:=by apply isLetter_fn)|fail)
 have hl0:s.data.toList.length=s.size:=by simp
 have htok:tokAt (s.data.toList.drop at_)=tokAt (s[at_]::s.data.toList.drop (at_ + 1)):=by
  rw [List.drop_eq_getElem_cons (by omega),byteAt]
 refine dw_cond rfl (fun hl=>?_) (fun hl=>?_)
 ·have hres:tokAt (s.data.toList.drop at_)=(if smallB s[at_] then 1 else 2,1 + takeW alnumB (s.data.toList.drop (at_ + 1))):=by
   rw [htok,tokAt_cons,if_pos hl]
  repeat' (first|apply dw_seq2|apply dw_block)
  refine ds_loop (ι:=Nat) (fun n=>⟨0,[(0,.d (.str s)),(1,.d (.int .i64 at_)),(6,.d (.int .u8 s[at_].toNat)),(7,.d (.int .i64 n))],[]⟩)
   (fun n=>1≤n∧at_ + n≤s.size∧n + takeW alnumB (s.data.toList.drop (at_ + n))=1 + takeW alnumB (s.data.toList.drop (at_ + 1))) (fun n=>s.size - n) 1 ⟨by omega,by omega,rfl⟩
   (ent_ren id ⟨rfl,rfl,rfl,rfl,trivial⟩ trivial rfl rfl rfl rfl rfl rfl) ?_
  rintro n ⟨h1,h2,h3⟩
  have hstep:(h:(at_:Int) + n < s.size)→alnumB (s[at_ + n]'(by omega))=true→n + 1 + takeW alnumB (s.data.toList.drop (at_ + (n + 1)))=1 + takeW alnumB (s.data.toList.drop (at_ + 1)):=fun h hp=>by
   have h4:=takeW_step alnumB s.data.toList (at_ + n) (by omega) (by rw [byteAt _ _ (by omega)];exact hp)
   rw [← Nat.add_assoc at_ n 1];omega
  have hstop:(h:(at_:Int) + n < s.size)→alnumB (s[at_ + n]'(by omega))=false→1 + takeW alnumB (s.data.toList.drop (at_ + 1))=n:=fun h hp=>by
   have h4:=takeW_stop alnumB s.data.toList (at_ + n) (by omega) (by rw [byteAt _ _ (by omega)];exact hp)
   omega
  have hend:¬ (at_:Int) + n < s.size→1 + takeW alnumB (s.data.toList.drop (at_ + 1))=n:=fun h=>by
   have h4:=takeW_end alnumB s.data.toList (at_ + n) (by omega)
   omega
  clear htok
  repeat' (first|refine z0 ?_|refine z12 ?_|apply ds_nil|apply dw_seq2|refine z16 ?_|apply dw_block|apply dw_skip|apply dw_exit|apply dw_ret|refine z18 ?_|refine z19 ?_|apply thenD_n|apply thenD_e|apply thenD_r|apply inB_n|apply inB_r|refine z17 ?_|refine z21 ?_ (hc:=by apply isLetter_fn)|refine z21 ?_ (hc:=by apply isDigit_fn)|refine z21 ?_ (hc:=by apply isSmall_fn)|(apply dw_cond;exact rfl;all_goals intro hg)|((fail_if_success (apply ds_known;exact rfl));apply ds_guardP;exact rfl;exact rfl;exact rfl;all_goals intro hg)|((fail_if_success (apply ds_known;exact rfl));apply ds_guardB;exact rfl;exact rfl;exact rfl;all_goals intro hg))
  all_goals first
   | (refine⟨n + 1,⟨?_,?_,?_⟩,ent_ren id ⟨rfl,rfl,rfl,rfl,trivial⟩ trivial rfl rfl rfl rfl rfl rfl,?_⟩
      ·omega
      ·omega
      ·apply hstep <;> first|assumption|(unfold alnumB;simp [*])
      ·omega)
   | (refine ret_2 rfl ⟨?_,?_⟩
      ·rw [hres,hg];rfl
      ·rw [hres]
       refine congrArg (fun q:Nat=>D.int .i64 (q:Int)) (Eq.symm ?_)
       first
        | (apply hend;assumption)
        | (apply hstop <;> first|assumption|(unfold alnumB;simp [*])))
 ·repeat' (first|refine z0 ?_|apply ds_nil|apply dw_seq2|refine z16 ?_|apply thenD_n|refine z21 ?_ (hc:=by apply isDigit_fn)|fail)
  refine dw_cond rfl (fun hd=>?_) (fun hd=>?_)
  ·have hres:tokAt (s.data.toList.drop at_)=(3,1 + takeW digitB (s.data.toList.drop (at_ + 1))):=by
    rw [htok,tokAt_cons,if_neg (by rw [hl];exact Bool.false_ne_true),if_pos hd]
   repeat' (first|apply dw_seq2|apply dw_block)
   refine ds_loop (ι:=Nat) (fun n=>⟨0,[(0,.d (.str s)),(1,.d (.int .i64 at_)),(6,.d (.int .u8 s[at_].toNat)),(7,.d (.int .i64 n))],[]⟩)
    (fun n=>1≤n∧at_ + n≤s.size∧n + takeW digitB (s.data.toList.drop (at_ + n))=1 + takeW digitB (s.data.toList.drop (at_ + 1))) (fun n=>s.size - n) 1 ⟨by omega,by omega,rfl⟩
    (ent_ren id ⟨rfl,rfl,rfl,rfl,trivial⟩ trivial rfl rfl rfl rfl rfl rfl) ?_
   rintro n ⟨h1,h2,h3⟩
   have hstep:(h:(at_:Int) + n < s.size)→digitB (s[at_ + n]'(by omega))=true→n + 1 + takeW digitB (s.data.toList.drop (at_ + (n + 1)))=1 + takeW digitB (s.data.toList.drop (at_ + 1)):=fun h hp=>by
    have h4:=takeW_step digitB s.data.toList (at_ + n) (by omega) (by rw [byteAt _ _ (by omega)];exact hp)
    rw [← Nat.add_assoc at_ n 1];omega
   have hstop:(h:(at_:Int) + n < s.size)→digitB (s[at_ + n]'(by omega))=false→1 + takeW digitB (s.data.toList.drop (at_ + 1))=n:=fun h hp=>by
    have h4:=takeW_stop digitB s.data.toList (at_ + n) (by omega) (by rw [byteAt _ _ (by omega)];exact hp)
    omega
   have hend:¬ (at_:Int) + n < s.size→1 + takeW digitB (s.data.toList.drop (at_ + 1))=n:=fun h=>by
    have h4:=takeW_end digitB s.data.toList (at_ + n) (by omega)
    omega
   clear htok
   repeat' (first|refine z0 ?_|refine z12 ?_|apply ds_nil|apply dw_seq2|refine z16 ?_|apply dw_block|apply dw_skip|apply dw_exit|apply dw_ret|refine z19 ?_|apply thenD_n|apply thenD_e|apply thenD_r|apply inB_n|apply inB_r|refine z17 ?_|refine z21 ?_ (hc:=by apply isDigit_fn)|(apply dw_cond;exact rfl;all_goals intro hg)|((fail_if_success (apply ds_known;exact rfl));apply ds_guardP;exact rfl;exact rfl;exact rfl;all_goals intro hg))
   all_goals first
    | (refine⟨n + 1,⟨?_,?_,?_⟩,ent_ren id ⟨rfl,rfl,rfl,rfl,trivial⟩ trivial rfl rfl rfl rfl rfl rfl,?_⟩
       ·omega
       ·omega
       ·apply hstep <;> assumption
       ·omega)
    | (refine ret_2 rfl ⟨?_,?_⟩
       ·rw [hres]
       ·rw [hres]
        refine congrArg (fun q:Nat=>D.int .i64 (q:Int)) (Eq.symm ?_)
        first
         | (apply hend;assumption)
         | (apply hstop <;> assumption))
  ·have hres:tokAt (s.data.toList.drop at_)=if pairB (s[at_]::s.data.toList.drop (at_ + 1)) then (4,2) else if signs.contains s[at_] then (4,1) else (0,0):=by
    rw [htok,tokAt_cons,if_neg (by rw [hl];exact Bool.false_ne_true),if_neg (by rw [hd];exact Bool.false_ne_true)]
   repeat' (first|refine z0 ?_|apply ds_nil|apply dw_seq2|refine z16 ?_|apply dw_skip|apply thenD_n|apply inB_n)
   refine dw_condP rfl (fun h2=>?_) (fun h2=>?_)
   ·have hp:=pair_ext s at_ (by omega)
    repeat' (first|refine z0 ?_|refine z12 ?_|apply ds_nil|apply dw_seq2|refine z16 ?_|apply dw_block|apply dw_skip|apply dw_ret|refine z18 ?_|apply thenD_n|apply thenD_r|(refine z23 ?_ ?_ <;> intro hg)|((fail_if_success (apply ds_known;exact rfl));apply ds_guardP;exact rfl;exact rfl;exact rfl;all_goals intro hg))
    all_goals first
     | (refine ret_2 rfl ⟨?_,?_⟩ <;> (rw [hres,hp];simp [*];done))
     | skip
    have hpf:pairB (s[at_]::s.data.toList.drop (at_ + 1))=false:=by rw [hp];simp [*]
    rw [hpf] at hres
    refine ds_loop (ι:=Nat) (fun i=>⟨0,[(6,.d (.int .u8 s[at_].toNat)),(9,.d (.str ⟨#[40,41,44,46,60,61,43,45,42]⟩)),(10,.d (.int .i64 i))],[]⟩)
     (fun i=>i≤9∧signs.contains s[at_]=(signs.drop i).contains s[at_]) (fun i=>9 - i) 0 ⟨by omega,rfl⟩ (ent_ren id ⟨rfl,rfl,rfl,trivial⟩ trivial rfl rfl rfl rfl rfl rfl) ?_
    rintro i ⟨hi,hc⟩
    have hst:=fun h=>signs_step s[at_] i h
    have h9:((⟨#[40,41,44,46,60,61,43,45,42]⟩:ByteArray).size:Int)=9:=rfl
    repeat' (first|refine z0 ?_|apply ds_nil|apply dw_seq2|refine z16 ?_|apply dw_block|apply dw_skip|apply dw_exit|apply dw_ret|apply thenD_n|apply thenD_e|apply thenD_r|apply inB_n|apply inB_r|refine z17 ?_|(refine z23 ?_ ?_ <;> intro hg)|fail)
    all_goals first
     | (refine ret_2 rfl ⟨?_,?_⟩
        ·rw [hres,hc,hst (by rw [← Int.ofNat_lt];assumption),decide_eq_true ‹_›];rfl
        ·rw [hres,hc,hst (by rw [← Int.ofNat_lt];assumption),decide_eq_true ‹_›];rfl)
     | (refine⟨i + 1,⟨?_,?_⟩,ent_ren id ⟨rfl,rfl,rfl,trivial⟩ trivial rfl rfl rfl rfl rfl rfl,?_⟩
        ·omega
        ·rw [hc,hst (by rw [← Int.ofNat_lt];assumption),decide_eq_false ‹_›];rfl
        ·omega)
     | (have hi9:i=9:=by omega
        subst hi9
        refine ret_2 rfl ⟨?_,?_⟩
        ·rw [hres,hc];rfl
        ·rw [hres,hc];rfl)
   ·repeat' (first|refine z0 ?_|apply ds_nil|apply dw_seq2|refine z16 ?_|apply dw_block|apply dw_skip|apply thenD_n)
    have hpf:pairB (s[at_]::s.data.toList.drop (at_ + 1))=false:=by
     rw [List.drop_of_length_le (by omega)];unfold pairB;rfl
    rw [hpf] at hres
    refine ds_loop (ι:=Nat) (fun i=>⟨0,[(6,.d (.int .u8 s[at_].toNat)),(9,.d (.str ⟨#[40,41,44,46,60,61,43,45,42]⟩)),(10,.d (.int .i64 i))],[]⟩)
     (fun i=>i≤9∧signs.contains s[at_]=(signs.drop i).contains s[at_]) (fun i=>9 - i) 0 ⟨by omega,rfl⟩ (ent_ren id ⟨rfl,rfl,rfl,trivial⟩ trivial rfl rfl rfl rfl rfl rfl) ?_
    rintro i ⟨hi,hc⟩
    have hst:=fun h=>signs_step s[at_] i h
    have h9:((⟨#[40,41,44,46,60,61,43,45,42]⟩:ByteArray).size:Int)=9:=rfl
    repeat' (first|refine z0 ?_|apply ds_nil|apply dw_seq2|refine z16 ?_|apply dw_block|apply dw_skip|apply dw_exit|apply dw_ret|apply thenD_n|apply thenD_e|apply thenD_r|apply inB_n|apply inB_r|refine z17 ?_|(refine z23 ?_ ?_ <;> intro hg)|fail)
    all_goals first
     | (refine ret_2 rfl ⟨?_,?_⟩
        ·rw [hres,hc,hst (by rw [← Int.ofNat_lt];assumption),decide_eq_true ‹_›];rfl
        ·rw [hres,hc,hst (by rw [← Int.ofNat_lt];assumption),decide_eq_true ‹_›];rfl)
     | (refine⟨i + 1,⟨?_,?_⟩,ent_ren id ⟨rfl,rfl,rfl,trivial⟩ trivial rfl rfl rfl rfl rfl rfl,?_⟩
        ·omega
        ·rw [hc,hst (by rw [← Int.ofNat_lt];assumption),decide_eq_false ‹_›];rfl
        ·omega)
     | (have hi9:i=9:=by omega
        subst hi9
        refine ret_2 rfl ⟨?_,?_⟩
        ·rw [hres,hc];rfl
        ·rw [hres,hc];rfl)
def isTok (kind:Int) (s:ByteArray):Bool :=
 if h:0 < s.size then
  decide (s.size≤5000) && decide (kind≠0) && decide ((tokAt s.data.toList).1=kind) && decide ((tokAt s.data.toList).2=s.size) && decide (tokErr kind s.size s[0]=0)
 else false
theorem tokErr_eq (kind:Int) (n:Nat) (c:UInt8):tokErr kind n c=if kind=0 then 1 else if ((kind=1∨kind=2)∧12 < n)∨(kind=3∧7 < n) then 2 else if kind=3∧1 < n∧c=48 then 1 else 0:=by
 unfold tokErr;rfl
theorem size_zero (s:ByteArray) (h:s=⟨#[]⟩):s.size=0:=by rw [h];rfl
theorem size_pos (s:ByteArray) (h:¬ s=⟨#[]⟩):0 < s.size:=by
 rcases Nat.eq_zero_or_pos s.size with h0|h0
 ·exact absurd (ByteArray.ext (Array.eq_empty_of_size_eq_zero h0)) h
 ·exact h0
theorem u8i (c d:UInt8):((c.toNat:Int)=(d.toNat:Int))=(c=d):=by
 rw [eq_iff_iff]
 exact⟨fun h=>UInt8.toNat_inj.1 (by omega),fun h=>by rw [h]⟩
theorem u48 (c:UInt8):((c.toNat:Int)=48)=(c=48):=u8i c 48
theorem natc_eq (a b:Nat):((a:Int)=(b:Int))=(a=b):=by rw [eq_iff_iff];omega
theorem natc_lt1 (b:Nat):((1:Int) < (b:Int))=(1 < b):=by rw [eq_iff_iff];omega
theorem natc_lt7 (b:Nat):((7:Int) < (b:Int))=(7 < b):=by rw [eq_iff_iff];omega
theorem natc_lt12 (b:Nat):((12:Int) < (b:Int))=(12 < b):=by rw [eq_iff_iff];omega
set_option maxHeartbeats 8000000 in
theorem isToken_fn (kind:Int) (s:ByteArray):Fn 32 [.d (.int .i64 kind),.d (.str s)] (fun r=>r = .d (.bool (isTok kind s))):=by
 refine fnp_enter' _ Tryz.func32 rfl rfl (by kernel_rfl) ?_
 intro O w0 E0 β0
 repeat' (first|refine z0 ?_|refine z12 ?_|apply ds_nil|apply dw_seq2|refine z16 ?_|apply dw_skip|apply dw_ret|refine z18 ?_|apply thenD_n|apply thenD_r|(refine z23 ?_ ?_ <;> intro hg)|((fail_if_success (apply ds_known;exact rfl));apply ds_guardP;exact rfl;exact rfl;exact rfl;all_goals intro hg))
 all_goals first
  | exact ret_b rfl (by
    unfold isTok
    split
    ·first
      | (simp [*];done)
      | (exfalso
         rw [size_zero s ‹_›] at *
         omega)
      | (have h5:¬ s.size≤5000:=by omega
         simp [h5];done)
    ·rfl)
  | skip
 have h0:=size_pos s ‹_›
 have hT:=tokenAt_fn s 0 h0 (by omega)
 rw [List.drop_zero] at hT
 refine ds_call rfl rfl hT rfl rfl rfl ?_
 rintro _ rfl
 have hsz:s.size≤5000:=by omega
 have hd:isTok kind s=(decide ((tokAt s.data.toList).1=kind) && decide ((tokAt s.data.toList).2=s.size) && decide (tokErr kind s.size s[0]=0)):=by
  unfold isTok;rw [dif_pos h0];simp [*]
 repeat' (first|refine z0 ?_|refine z12 ?_|apply ds_nil|apply dw_seq2|refine z16 ?_|apply dw_ret|apply thenD_n|((fail_if_success (apply ds_known;exact rfl));apply ds_guardP;exact rfl;exact rfl;exact rfl;all_goals intro hg)|((fail_if_success (apply ds_known;exact rfl));apply ds_guardB;exact rfl;exact rfl;exact rfl;all_goals intro hg))
 all_goals first
  | exact ret_b rfl (by
    rw [hd,tokErr_eq]
    try simp only [natc_eq,natc_lt1,natc_lt7,natc_lt12,u48] at *
    first
     | (simp_all;done)
     | (simp_all;omega)
     | (have:¬ 7 < s.size:=by omega
        simp_all;done)
     | (have:¬ 7 < s.size:=by omega
        by_cases h48:s[0]=48 <;> simp_all;done)
     | (have:¬ 7 < s.size:=by omega
        have:¬ 1 < s.size:=by omega
        simp_all;done)
     | (have k3:kind=3:=by omega
        have n7:¬ 7 < s.size:=by omega
        have n1:1 < s.size:=by omega
        rw [decide_eq_true ‹(tokAt s.data.toList).fst=kind›,decide_eq_true ‹(tokAt s.data.toList).snd=s.size›,k3]
        by_cases h48:s[0]=48 <;> simp [h48,n7,n1];done))
def encScan (r:List Tok × Int × Int):SV:=.tup [.d (encToks r.1),.d (.int .i64 r.2.1),.d (.int .i64 r.2.2)]
theorem scanS_big (s:ByteArray) (h:5000 < s.size):scanS s=([],0,2):=by unfold scanS;rw [if_pos h]
theorem scanS_ok (s:ByteArray) (h:¬ 5000 < s.size) (l:List Tok) (e:scanAt s false 0 = .ok l):scanS s=(l,0,0):=by unfold scanS;rw [if_neg h,e]
theorem scanS_err (s:ByteArray) (h:¬ 5000 < s.size) (p e:Int) (he:scanAt s false 0 = .error (p,e)):scanS s=([],p,e):=by unfold scanS;rw [if_neg h,he]
def scanPre (s:ByteArray) (x:List Tok × Bool × Nat):Prop :=
 x.2.2≤s.size∧x.1.length≤x.2.2∧scanAt s false 0=(scanAt s x.2.1 x.2.2).map (x.1++·)
theorem i37 (c:UInt8):((c.toNat:Int)=37)=(c=37):=u8i c 37
theorem i32 (c:UInt8):((c.toNat:Int)=32)=(c=32):=u8i c 32
theorem i9 (c:UInt8):((c.toNat:Int)=9)=(c=9):=u8i c 9
theorem i10 (c:UInt8):((c.toNat:Int)=10)=(c=10):=u8i c 10
theorem note_step (s:ByteArray) (note:Bool) (i:Nat) (h:i < s.size) (hn:note=true∨(s[i].toNat:Int)=37):scanAt s note i=scanAt s (decide ((s[i].toNat:Int)≠10)) (i + 1):=by
 rw [scanAt_note s note i h (by rw [i37] at hn;rcases hn with hn|hn <;> simp [hn])]
 congr 1
 rw [Bool.eq_iff_iff]
 simp only [ne_eq,i10]
 simp
theorem blank_step (s:ByteArray) (note:Bool) (i:Nat) (h:i < s.size) (hn:note=false) (h1:¬ (s[i].toNat:Int)=37) (h2:(s[i].toNat:Int)=32∨(s[i].toNat:Int)=9∨(s[i].toNat:Int)=10):scanAt s note i=scanAt s note (i + 1):=by
 subst hn
 rw [i37] at h1
 rw [i32,i9,i10] at h2
 exact scanAt_blank s i h (by simpa using h1) (by simpa [or_assoc] using h2)
theorem tok_step (s:ByteArray) (note:Bool) (i:Nat) (h:i < s.size) (hn:note=false) (h1:¬ (s[i].toNat:Int)=37) (h2:¬ (s[i].toNat:Int)=32) (h3:¬ (s[i].toNat:Int)=9) (h4:¬ (s[i].toNat:Int)=10) (q:Int × Nat) (hq:tokAt (s.data.toList.drop i)=q) :
  scanAt s note i=if tokErr q.1 q.2 s[i]=0 then (scanAt s note (i + q.2)).map (Tok.mk q.1 i (s.extract i (i + q.2))::·) else .error (i,tokErr q.1 q.2 s[i]):=by
 subst hn
 subst hq
 rw [i37] at h1
 rw [i32] at h2
 rw [i9] at h3
 rw [i10] at h4
 have e1:(s[i] == 37)=false:=by simpa using h1
 have e2:(s[i] == 32 || s[i] == 9 || s[i] == 10)=false:=by simp [h2,h3,h4]
 split
 ·rename_i he
  exact scanAt_tok s i h e1 e2 he
 ·rename_i he
  exact scanAt_err s i h e1 e2 he
theorem map_map (x:Except (Int × Int) (List Tok)) (f g:List Tok→List Tok):(x.map f).map g=x.map fun l=>g (f l):=by cases x <;> rfl
theorem ext0 (s:ByteArray) (i n:Nat) (h:i < s.size) (h0:0 < (s.extract i (i + n)).size):(s.extract i (i + n))[0]=s[i]:=by
 simp [ByteArray.getElem_eq_getElem_data,ByteArray.data_extract]
theorem ext0i (s:ByteArray) (i n:Nat) (h:i < s.size) (hn:1≤n) (hb:i + n≤s.size):(((s.extract i (i + n))[0]'(by rw [ByteArray.size_extract];omega)).toNat:Int)=(s[i].toNat:Int):=by rw [ext0 s i n h]
theorem tokErr_int (kind:Int) (n:Nat) (c:UInt8):tokErr kind n c=if kind=0 then 1 else if ((kind=1∨kind=2)∧(12:Int) < n)∨(kind=3∧(7:Int) < n) then 2 else if kind=3∧(1:Int) < n∧(c.toNat:Int)=48 then 1 else 0:=by
 simp only [natc_lt12,natc_lt7,natc_lt1,u48]
 exact tokErr_eq kind n c
set_option maxHeartbeats 2000000 in
set_option maxHeartbeats 8000000 in
theorem scanOf_fn (s:ByteArray):Fn 36 [.d (.str s)] (fun r=>r=encScan (scanS s)):=by
 refine fnp_enter' _ Tryz.func36 rfl rfl (by kernel_rfl) ?_
 intro O w0 E0 β0
 repeat' (first|refine z0 ?_|apply ds_nil|apply dw_seq2|refine z16 ?_|apply thenD_n)
 refine dw_condP rfl (fun hbig=>?_) (fun hbig=>?_)
 ·repeat' (first|refine z0 ?_|apply ds_nil|apply dw_seq2|refine z16 ?_|apply thenD_n)
  refine dw_nild 2 3 rfl ?_
  repeat' (first|apply dw_ret|apply thenD_r)
  exact ret_3 rfl (by rw [scanS_big s (by omega)];exact⟨rfl,rfl,rfl⟩)
 ·repeat' (first|refine z0 ?_|apply ds_nil|apply dw_seq2|refine z16 ?_|apply dw_block|apply dw_skip|apply thenD_n)
  refine dw_nilrow (t:=5) 112 3 rfl ?_
  refine ds_loop (ι:=List Tok × Bool × Nat) (fun x=>⟨1,[(0,.d (.str s)),(5,.row 0),(6,.d (.bool x.2.1)),(7,.d (.int .i64 x.2.2))],[(0,.row 112 3 (x.1.map encTok))]⟩)
   (scanPre s) (fun x=>s.size - x.2.2) ([],false,0) ⟨Nat.zero_le _,Nat.le_refl _,by cases scanAt s false 0 <;> rfl⟩
   (ent_ren id ⟨rfl,rfl,rfl,rfl,trivial⟩ ⟨rfl,trivial⟩ rfl rfl rfl rfl rfl rfl) ?_
  rintro⟨toks,note,i⟩ ⟨h1,h2,h3⟩
  dsimp only at h1 h2 h3 ⊢
  repeat' (first|refine z0 ?_|apply ds_nil|apply dw_seq2|refine z16 ?_|apply thenD_n)
  refine dw_condP rfl (fun hlt=>?_) (fun hlt=>?_)
  ·have hlt':i < s.size:=by omega
   repeat' (first|refine z0 ?_|refine z12 ?_|apply ds_nil|apply dw_seq2|refine z16 ?_|apply dw_block|apply dw_skip|apply dw_exit|refine z18 ?_|apply thenD_n|apply thenD_e|refine z17 ?_|(refine z23 ?_ ?_ <;> intro hg)|((fail_if_success (apply ds_known;exact rfl));apply ds_guardP;exact rfl;exact rfl;exact rfl;all_goals intro hg)|((fail_if_success (apply ds_known;exact rfl));apply ds_guardB;exact rfl;exact rfl;exact rfl;all_goals intro hg))
   all_goals first
    | (refine⟨(toks,decide ((s[i].toNat:Int)≠10),i + 1),⟨?_,?_,?_⟩,ent_ren id ⟨rfl,rfl,rfl,rfl,trivial⟩ ⟨rfl,trivial⟩ rfl rfl rfl rfl rfl rfl,?_⟩
       ·show i + 1≤s.size;omega
       ·show toks.length≤i + 1;omega
       ·show scanAt s false 0=_;rw [h3,note_step s note i hlt' (by simp_all)]
       ·show s.size - (i + 1) < s.size - i;omega)
    | (refine⟨(toks,note,i + 1),⟨?_,?_,?_⟩,ent_ren id ⟨rfl,rfl,rfl,rfl,trivial⟩ ⟨rfl,trivial⟩ rfl rfl rfl rfl rfl rfl,?_⟩
       ·show i + 1≤s.size;omega
       ·show toks.length≤i + 1;omega
       ·show scanAt s false 0=_;rw [h3,blank_step s note i hlt' (by assumption) (by assumption) (by simp_all)]
       ·show s.size - (i + 1) < s.size - i;omega)
    | skip
   have hT:=tokenAt_fn s i hlt' (by omega)
   have hS:=tok_step s note i hlt' ‹_› ‹_› ‹_› ‹_› ‹_› _ rfl
   have hle:=tokAt_le (s.data.toList.drop i)
   have hpo:=tokAt_pos (s.data.toList.drop i)
   rw [List.length_drop,show s.data.toList.length=s.size by simp] at hle
   generalize tokAt (s.data.toList.drop i)=q at hT hS hle hpo
   obtain⟨kind,n⟩:=q
   dsimp only at hT hS hle hpo
   have hez:(s.extract i (i + n)).size=n:=by rw [ByteArray.size_extract];omega
   rw [hS] at h3
   have hbad:∀ e,tokErr kind n s[i]=e→e≠0→scanS s=([],(i:Int),e):=fun e h h0=>scanS_err s (by omega) _ _ (by rw [h3,if_neg (by rw [h];exact h0),h];rfl)
   refine ds_call rfl rfl hT rfl rfl rfl ?_
   rintro _ rfl
   repeat' (first|refine z0 ?_|refine z12 ?_|apply ds_nil|apply dw_seq2|refine z16 ?_|apply dw_skip|refine z18 ?_|refine z19 ?_|apply thenD_n|refine z4 ?_|(refine z23 ?_ ?_ <;> intro hg)|((fail_if_success (apply ds_known;exact rfl));apply ds_guardP;exact rfl;exact rfl;exact rfl;all_goals intro hg))
   all_goals first
    | (exfalso;omega)
    | (refine dw_nild 2 3 rfl ?_
       apply dw_ret
       repeat' (first|apply thenD_r|apply inB_r)
       refine ret_3 rfl ?_
       first
        | (rw [hbad 1 (by rw [tokErr_int];repeat' split;all_goals first|omega|(have hx:=ext0i s i n hlt' (by omega) (by omega);omega)) (by decide)];exact⟨rfl,rfl,rfl⟩)
        | (rw [hbad 2 (by rw [tokErr_int];repeat' split;all_goals first|omega|(have hx:=ext0i s i n hlt' (by omega) (by omega);omega)) (by decide)];exact⟨rfl,rfl,rfl⟩))
    | skip
   all_goals
    have hk0:tokErr kind n s[i]=0:=by rw [tokErr_int];repeat' split;all_goals first|omega|(have hx:=ext0i s i n hlt' (by omega) (by omega);omega)
    have hn1:=hpo ‹_›
    rw [if_pos hk0] at h3
    apply ds_of_dl
    refine dl_append_row (te:=112) (es:=3) rfl rfl rfl rfl rfl rfl rfl rfl rfl rfl ?_ ?_ ?_
    ·show _ * 32≤_
     rw [List.length_map]
     show (_ + 1) * 32≤_
     omega
    ·rw [List.length_map]
     show _ + 1≤_
     exact Nat.le_trans (show _≤5001 by omega) (by decide)
    apply dl_of_ds
    repeat' (first|refine z0 ?_|apply ds_nil|refine z16 ?_|apply thenD_n|apply inB_n)
    refine⟨(toks++[⟨kind,i,s.extract i (i + n)⟩],note,i + n),⟨?_,?_,?_⟩,?_,?_⟩
    ·show i + n≤s.size;omega
    ·show (toks++[_]).length≤i + n
     rw [List.length_append]
     show _ + 1≤_
     omega
    ·show scanAt s false 0=_
     rw [h3,map_map]
     simp only [List.append_assoc,List.singleton_append]
    ·dsimp only
     rw [List.map_append]
     exact ent_ren (fun _=>1) ⟨rfl,rfl,rfl,rfl,trivial⟩ ⟨rfl,trivial⟩ rfl rfl rfl rfl rfl rfl
    ·show s.size - (i + n) < s.size - i;omega
  ·repeat' (first|refine z0 ?_|apply ds_nil|apply dw_seq2|refine z16 ?_|apply dw_exit|apply thenD_n|apply thenD_e|refine z17 ?_|fail)
   refine dw_seal 2 rfl rfl ?_
   repeat' (apply dw_ret)
   refine ret_3 rfl ?_
   rw [scanS_ok s (by omega) toks (by rw [h3,scanAt_end s note i (by omega)];exact congrArg Except.ok (List.append_nil _))]
   exact⟨rfl,rfl,rfl⟩
theorem small_eq (c:UInt8):smallB c=(decide ((97:Int)≤c.toNat) && decide ((c.toNat:Int)≤122)):=by unfold smallB;rfl
theorem great_eq (c:UInt8):greatB c=(decide ((65:Int)≤c.toNat) && decide ((c.toNat:Int)≤90)):=by unfold greatB;rfl
theorem digit_eq (c:UInt8):digitB c=(decide ((48:Int)≤c.toNat) && decide ((c.toNat:Int)≤57)):=by unfold digitB;rfl
set_option maxHeartbeats 8000000 in
theorem small_fn (c:UInt8):Fn 96 [.d (.int .u8 (c.toNat:Int))] (fun r=>r = .d (.bool (smallB c))):=by
 refine fnp_enter' _ Tryz.func96 rfl rfl (by kernel_rfl) ?_
 intro O w0 E0 β0
 repeat' (first|refine z0 ?_|refine z12 ?_|apply ds_nil|apply dw_seq2|refine z16 ?_|apply dw_ret|apply thenD_n|((fail_if_success (apply ds_known;exact rfl));apply ds_guardP;exact rfl;exact rfl;exact rfl;all_goals intro hg))
 all_goals exact ret_b rfl (by rw [small_eq];first|(simp_all;done)|(simp_all;omega))
set_option maxHeartbeats 8000000 in
theorem great_fn (c:UInt8):Fn 97 [.d (.int .u8 (c.toNat:Int))] (fun r=>r = .d (.bool (greatB c))):=by
 refine fnp_enter' _ Tryz.func97 rfl rfl (by kernel_rfl) ?_
 intro O w0 E0 β0
 repeat' (first|refine z0 ?_|refine z12 ?_|apply ds_nil|apply dw_seq2|refine z16 ?_|apply dw_ret|apply thenD_n|((fail_if_success (apply ds_known;exact rfl));apply ds_guardP;exact rfl;exact rfl;exact rfl;all_goals intro hg))
 all_goals exact ret_b rfl (by rw [great_eq];first|(simp_all;done)|(simp_all;omega))
set_option maxHeartbeats 8000000 in
theorem digit_fn (c:UInt8):Fn 100 [.d (.int .u8 (c.toNat:Int))] (fun r=>r = .d (.bool (digitB c))):=by
 refine fnp_enter' _ Tryz.func100 rfl rfl (by kernel_rfl) ?_
 intro O w0 E0 β0
 repeat' (first|refine z0 ?_|refine z12 ?_|apply ds_nil|apply dw_seq2|refine z16 ?_|apply dw_ret|apply thenD_n|((fail_if_success (apply ds_known;exact rfl));apply ds_guardP;exact rfl;exact rfl;exact rfl;all_goals intro hg))
 all_goals exact ret_b rfl (by rw [digit_eq];first|(simp_all;done)|(simp_all;omega))
set_option maxHeartbeats 8000000 in
theorem alnum_fn (c:UInt8):Fn 99 [.d (.int .u8 (c.toNat:Int))] (fun r=>r = .d (.bool (alnumB c))):=by
 refine fnp_enter' _ Tryz.func99 rfl rfl (by kernel_rfl) ?_
 intro O w0 E0 β0
 repeat' (first|refine z0 ?_|refine z12 ?_|apply ds_nil|apply dw_seq2|refine z16 ?_|apply dw_ret|apply thenD_n|refine z21 ?_ (hc:=by apply small_fn)|refine z21 ?_ (hc:=by apply great_fn)|refine z21 ?_ (hc:=by apply digit_fn)|((fail_if_success (apply ds_known;exact rfl));apply ds_guardB;exact rfl;exact rfl;exact rfl;all_goals intro hg))
 all_goals exact ret_b rfl (by unfold alnumB letterB;simp_all)
abbrev FnS (f:FuncId) (args:List SV) (J k:Nat) (H:Hp) (R:Nat→SV→Hp→Prop):Prop:=FnOk false Tryz.prog tab tab_ok f args J k H R
abbrev scH (s:ByteArray) (i:Nat):Hp:=[(0,.blk 126 [.d (.str s),.d (.int .i64 i)])]
set_option maxHeartbeats 8000000 in
theorem sign_fn (s:ByteArray) (i:Nat):FnS 95 [.loc 0 0] 1 1 (scH s i) (fun k2 r H2=>k2=1∧r = .d (.int .u8 (if h:i < s.size then (s[i].toNat:Int) else 0))∧H2=scH s i):=by
 refine fn_enter _ Tryz.func95 rfl rfl (by kernel_rfl) ?_
 intro O w0 E0 β0
 repeat' (first|refine z0 ?_|apply ds_nil|refine z5 ?_|refine z10 ?_|apply dw_seq2|refine z16 ?_|refine z20 ?_|apply dw_skip|apply dw_ret|apply thenD_n|apply thenD_r|(refine z23 ?_ ?_ <;> intro hg)|fail)
 ·refine⟨.inl rfl,_,rfl,rfl,?_,rfl⟩
  rw [dif_pos (by omega)];rfl
 ·refine⟨.inl rfl,_,rfl,rfl,?_,rfl⟩
  rw [dif_neg (by omega)];rfl
theorem note_at (s:ByteArray) (j:Nat) (h:j < s.size) (h1:(s[j].toNat:Int)=37):scanAt s false j=scanAt s true j:=by
 rw [note_step s false j h (.inr h1),note_step s true j h (.inl rfl)]
theorem note_in (s:ByteArray) (j:Nat) (h:j < s.size) (h1:¬ (s[j].toNat:Int)=10):scanAt s true j=scanAt s true (j + 1):=by
 rw [note_step s true j h (.inl rfl),decide_eq_true h1]
theorem note_out (s:ByteArray) (j:Nat) (h:∀ h:j < s.size,(s[j].toNat:Int)=10):scanAt s true j=scanAt s false j:=by
 by_cases hj:j < s.size
 ·have h10:=h hj
  rw [note_step s true j hj (.inl rfl),decide_eq_false (by rw [h10];simp),blank_step s false j hj rfl (by omega) (by omega)]
 ·rw [scanAt_end s true j (by omega),scanAt_end s false j (by omega)]
set_option maxHeartbeats 8000000 in
theorem skip_fn (s:ByteArray) (i:Nat) (hi:i≤s.size) (hs:s.size≤5000):FnS 83 [.loc 0 0] 1 1 (scH s i)
  (fun k2 r H2=>k2=1∧r = .tup []∧∃ j:Nat,i≤j∧j≤s.size∧scanAt s false i=scanAt s false j∧(∀ h:j < s.size,¬ (s[j].toNat:Int)=37∧¬ (s[j].toNat:Int)=32∧¬ (s[j].toNat:Int)=9∧¬ (s[j].toNat:Int)=10)∧H2=scH s j):=by
 refine fn_enter _ Tryz.func83 rfl rfl (by kernel_rfl) ?_
 intro O w0 E0 β0
 repeat' (apply dw_block)
 refine ds_loop (ι:=Nat) (fun j=>⟨1,[(0,.loc 0 0)],scH s j⟩) (fun j=>i≤j∧j≤s.size∧scanAt s false i=scanAt s false j) (fun j=>s.size - j) i ⟨Nat.le_refl _,hi,rfl⟩
  (ent_ren id ⟨rfl,trivial⟩ ⟨rfl,trivial⟩ rfl rfl rfl rfl rfl rfl) ?_
 rintro j ⟨h1,h2,h3⟩
 repeat' (first|refine z0 ?_|apply ds_nil|refine z5 ?_|refine z10 ?_|apply dw_seq2|refine z16 ?_|refine z20 ?_|apply dw_block|apply dw_skip|apply dw_exit|apply dw_ret|apply thenD_n|apply thenD_e|apply thenD_r|apply inB_n|apply inB_r|refine z17 ?_|refine z3 ?_|(refine z23 ?_ ?_ <;> intro hg)|fail)
 all_goals first
  | (exfalso;omega)
  | (refine⟨j + 1,⟨by omega,by omega,h3.trans (blank_step s false j (by omega) rfl (by omega) (by omega))⟩,ent_ren id ⟨rfl,trivial⟩ ⟨rfl,trivial⟩ rfl rfl rfl rfl rfl rfl,by omega⟩)
  | (refine⟨.inl rfl,_,rfl,rfl,rfl,j,h1,h2,h3,?_,rfl⟩
     intro hj
     refine⟨?_,?_,?_,?_⟩ <;> omega)
  | (refine⟨.inr rfl,_,rfl,rfl,rfl,j,h1,h2,h3,?_,rfl⟩
     intro hj
     refine⟨?_,?_,?_,?_⟩ <;> omega)
  | skip
 all_goals
  refine ds_loop (ι:=Nat) (fun m=>⟨1,[(0,.loc 0 0)],scH s m⟩) (fun m=>j≤m∧m≤s.size∧scanAt s false i=scanAt s true m) (fun m=>s.size - m) j
   ⟨Nat.le_refl _,h2,h3.trans (note_at s j (by omega) (by omega))⟩ (ent_ren id ⟨rfl,trivial⟩ ⟨rfl,trivial⟩ rfl rfl rfl rfl rfl rfl) ?_
  rintro m ⟨g1,g2,g3⟩
  repeat' (first|refine z0 ?_|apply ds_nil|refine z5 ?_|refine z14 ?_|refine z10 ?_|apply dw_seq2|refine z16 ?_|refine z20 ?_|apply dw_block|apply dw_skip|apply dw_exit|refine z19 ?_|apply thenD_n|apply thenD_e|apply inB_n|refine z17 ?_|refine z3 ?_|(refine z23 ?_ ?_ <;> intro hg)|((fail_if_success (apply dt_known;exact rfl));apply dt_guardP;exact rfl;exact rfl;exact rfl;all_goals intro hg))
  all_goals first
   | (refine⟨m + 1,⟨by omega,by omega,g3.trans (note_in s m (by omega) (by omega))⟩,ent_ren id ⟨rfl,trivial⟩ ⟨rfl,trivial⟩ rfl rfl rfl rfl rfl rfl,by omega⟩)
   | (have hne:m≠j:=by
       intro e
       subst e
       omega
      refine⟨m,⟨by omega,g2,g3.trans (note_out s m (by intro h;omega))⟩,ent_ren id ⟨rfl,trivial⟩ ⟨rfl,trivial⟩ rfl rfl rfl rfl rfl rfl,by omega⟩)
set_option maxHeartbeats 8000000 in
theorem run_fn (s:ByteArray) (i:Nat) (hi:i≤s.size) (hs:s.size≤5000) (f:FuncId) (p:UInt8→Bool) (hp:∀ c:UInt8,Fn f [.d (.int .u8 (c.toNat:Int))] (fun r=>r = .d (.bool (p c)))) :
  FnS 98 [.loc 0 0,.fn f []] 1 1 (scH s i)
   (fun k2 r H2=>k2=1∧r = .d (.str (s.extract i (i + takeW p (s.data.toList.drop i))))∧H2=scH s (i + takeW p (s.data.toList.drop i))):=by
 refine fn_enter _ Tryz.func98 rfl rfl (by kernel_rfl) ?_
 intro O w0 E0 β0
 repeat' (first|refine z0 ?_|apply ds_nil|apply dw_seq2|refine z16 ?_|apply dw_block|apply thenD_n)
 have hl0:s.data.toList.length=s.size:=by simp
 refine ds_loop (ι:=Nat) (fun j=>⟨1,[(0,.loc 0 0),(1,.fn f []),(5,.d (.int .i64 i))],scH s j⟩) (fun j=>i≤j∧j≤s.size∧i + takeW p (s.data.toList.drop i)=j + takeW p (s.data.toList.drop j)) (fun j=>s.size - j) i ⟨Nat.le_refl _,hi,rfl⟩
  (ent_ren id ⟨rfl,rfl,rfl,trivial⟩ ⟨rfl,trivial⟩ rfl rfl rfl rfl rfl rfl) ?_
 rintro j ⟨h1,h2,h3⟩
 have hstep:=fun h hq=>takeW_step p s.data.toList j h hq
 have hstop:=fun h hq=>takeW_stop p s.data.toList j h hq
 have hend:=takeW_end p s.data.toList j
 repeat' (first|refine z5 ?_|refine z14 ?_|refine z10 ?_|apply dw_seq2|refine z20 ?_|apply dw_exit|apply dw_ret|refine z19 ?_|apply thenD_n|apply thenD_e|refine z17 ?_|((fail_if_success (apply dt_known;exact rfl));apply dt_guardP;exact rfl;exact rfl;exact rfl;all_goals intro hg))
 all_goals first
  | (refine dt_callV rfl rfl rfl rfl (hp _) rfl rfl rfl rfl ⟨_,rfl⟩ ?_;rintro _ rfl)
  | (exact absurd hg (by decide))
  | skip
 repeat' (first|refine z0 ?_|apply ds_nil|refine z5 ?_|refine z10 ?_|apply dw_seq2|refine z16 ?_|refine z20 ?_|apply dw_block|apply dw_skip|apply dw_exit|apply dw_ret|apply thenD_n|apply thenD_e|apply inB_n|refine z17 ?_|refine z3 ?_|(apply dw_cond;exact rfl;all_goals intro hg))
 all_goals first
  | (have hj:i + takeW p (s.data.toList.drop i)=j:=by have:=hend (by omega);omega
     rw [hj]
     exact⟨.inl rfl,_,rfl,rfl,rfl,rfl⟩)
  | (have hq:=hstep (by omega) (by rw [byteAt _ _ (by omega)];first|assumption|simp_all)
     refine⟨j + 1,⟨by omega,by omega,by omega⟩,ent_ren id ⟨rfl,rfl,rfl,trivial⟩ ⟨rfl,trivial⟩ rfl rfl rfl rfl rfl rfl,by omega⟩)
  | (have hq:=hstop (by omega) (by rw [byteAt _ _ (by omega)];first|assumption|simp_all)
     have hj:i + takeW p (s.data.toList.drop i)=j:=by omega
     rw [hj]
     exact⟨.inl rfl,_,rfl,rfl,rfl,rfl⟩)
def pairL:D:=.slice 1 [[.str ⟨#[58,45]⟩],[.str ⟨#[60,61]⟩],[.str ⟨#[33,61]⟩]]
set_option maxHeartbeats 8000000 in
theorem pairs_fn:Fn 102 [] (fun r=>r = .d pairL):=by
 refine fnp_enter' _ Tryz.func102 rfl rfl (by kernel_rfl) ?_
 intro O w0 E0 β0
 repeat' (first|refine z0 ?_|apply ds_nil|apply dw_seq2|refine z16 ?_|apply dw_ret|apply thenD_n|refine z4 ?_|fail)
 exact⟨.inl rfl,_,rfl,rfl,rfl⟩
def hasPre (s t:ByteArray):Bool:=decide (t.size≤s.size) && decide (s.extract 0 t.size=t)
set_option maxHeartbeats 8000000 in
theorem hasPrefix0_fn (s t:ByteArray):Fn 115 [.d (.str s),.d (.str t)] (fun r=>r = .d (.bool (hasPre s t))):=by
 refine fnp_enter' _ Tryz.func115 rfl rfl (by kernel_rfl) ?_
 intro O w0 E0 β0
 repeat' (first|refine z0 ?_|refine z12 ?_|apply ds_nil|apply dw_seq2|refine z16 ?_|apply dw_ret|apply thenD_n|((fail_if_success (apply ds_known;exact rfl));apply ds_guardP;exact rfl;exact rfl;exact rfl;all_goals intro hg))
 all_goals exact ret_b rfl (by
  unfold hasPre
  first
   | (have h:t.size≤s.size:=by omega
      simp [h];done)
   | (have h:¬ t.size≤s.size:=by omega
      simp [h];done))
set_option maxHeartbeats 8000000 in
theorem hasPrefix_fn (s t:ByteArray):Fn 104 [.d (.str s),.d (.str t)] (fun r=>r = .d (.bool (hasPre s t))):=by
 refine fnp_enter' _ Tryz.func104 rfl rfl (by kernel_rfl) ?_
 intro O w0 E0 β0
 repeat' (first|refine z0 ?_|apply ds_nil|apply dw_seq2|refine z16 ?_|apply dw_ret|apply thenD_n|refine z21 ?_ (hc:=by apply hasPrefix0_fn)|fail)
 all_goals exact ret_b rfl rfl
abbrev scH2 (s:ByteArray) (i:Nat):Hp:=[(0,.blk 126 [.d (.str s),.d (.int .i64 i)]),(1,.blk 124 [.loc 0 0])]
set_option maxHeartbeats 8000000 in
theorem begins_fn (s:ByteArray) (i:Nat) (hi:i≤s.size) (t:ByteArray) :
  FnS 103 [.d (.str t),.loc 1 0] 2 2 (scH2 s i) (fun k2 r H2=>k2=2∧r = .d (.bool (hasPre (s.extract i s.size) t))∧H2=scH2 s i):=by
 refine fn_enter _ Tryz.func103 rfl rfl (by kernel_rfl) ?_
 intro O w0 E0 β0
 repeat' (first|refine z0 ?_|apply ds_nil|refine z5 ?_|refine z10 ?_|apply dw_seq2|refine z16 ?_|refine z20 ?_|apply dw_ret|apply thenD_n|refine z22 ?_ (hc:=by apply hasPrefix_fn)|refine z22 ?_ (hc:=by apply hasPrefix_fn)|fail)
 exact⟨.inl rfl,_,rfl,rfl,rfl,rfl⟩
end Go.Proofs.YtapciiffpnociacGreatDoor
