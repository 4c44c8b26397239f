/- Several texts in one: ScoP SamP DagQ Tab GxOps GxMem. Condition: none. -/
import Derived.Test.YtapciiffpnociaaGreatP01
import Derived.Test.YtapciiffpnociaaGreatProg
import Derived.KernelRfl
import Derived.WalkSpells
import Derived.Orders
namespace Go.Proofs.YtapciiffpnociaaGreat
structure Trm where
 var:Int
 n:Int
structure Ltl where
 kind:Int
 op:Int
 pred:Int
 terms:List Trm
structure Rul where
 pred:Int
 terms:List Trm
 fold:Int
 body:List Ltl
 vars:Int
structure Prg where
 arity:List Int
 names:List ByteArray
 rules:List Rul
def cu {α:Type} (f:α→Int):List α→Int
 | []=>0
 | x::l=>if f x≠0 then f x else cu f l
theorem firstL_step {α:Type} {f:α→Int} {l:List α} {i:Nat} (hi:i < l.length):cu f (l.drop i)=if f l[i]≠0 then f l[i] else cu f (l.drop (i + 1)):=by
 rw [List.drop_eq_getElem_cons hi];rfl
theorem firstL_end {α:Type} {f:α→Int} {l:List α} {i:Nat} (hi:l.length≤i):cu f (l.drop i)=0:=by
 rw [List.drop_of_length_le hi];rfl
def firstI (f:Nat→Int):Nat→Nat→Int
 | _,0=>0
 | i,k + 1=>if f i≠0 then f i else firstI f (i + 1) k
theorem firstI_step {f:Nat→Int} {n i:Nat} (h:i < n):firstI f i (n - i)=if f i≠0 then f i else firstI f (i + 1) (n - (i + 1)):=by
 rw [show n - i=(n - (i + 1)) + 1 by omega];rfl
theorem firstI_end {f:Nat→Int} {n i:Nat} (h:n≤i):firstI f i (n - i)=0:=by
 rw [show n - i=0 by omega];rfl
def termE (vars:Int) (t:Trm):Int:=if inR t.var (-1) (vars - 1)=false then 5 else if numB t.n=false∨(0≤t.var∧t.n≠0) then 3 else 0
def termsE (vars:Int) (l:List Trm):Int:=cu (termE vars) l
def opB (kind n:Int):Bool:=if kind=3 then inR n 1 4 else if kind=4 then inR n 5 7 else decide (n=0)
def litE (arity:List Int) (vars:Int) (l:Ltl):Int :=
 if inR l.kind 1 4=false then 7
 else if opB l.kind l.op=false then 3
 else if l.kind=1∨l.kind=2 then
  if inR l.pred 0 ((arity.length:Int) - 1)=false then 5
  else if (l.terms.length:Int)≠arity.getD l.pred.toNat 0 then 1
  else termsE vars l.terms
 else if l.pred≠0∨(l.terms.length:Int)≠l.kind - 1 then 1
 else termsE vars l.terms
def isT (bs:List Bool) (t:Trm):Bool:=decide (t.var < 0) || bs.getD t.var.toNat false
def ki (bs:List Bool) (t:Trm):List Bool:=if t.var < 0 then bs else bs.set t.var.toNat true
def cy (bs:List Bool) (l:Ltl):Bool:=decide (l.kind=1) || (decide (l.kind=4) && (l.terms.take 2).all (isT bs))
def dz (l:Ltl):List Trm:=if l.kind=1 then l.terms else l.terms.drop 2
def bLit (bs:List Bool) (l:Ltl):List Bool:=if cy bs l then (dz l).foldl ki bs else bs
def gy (body:List Ltl) (bs:List Bool):List Bool:=body.foldl bLit bs
def fm (body:List Ltl):Nat→List Bool→List Bool
 | 0,bs=>bs
 | n + 1,bs=>fm body n (gy body bs)
def boundL (r:Rul):List Bool:=fm r.body (r.body.length + 1) (List.replicate r.vars.toNat false)
def safeB (r:Rul):Bool:=(boundL r).all id
def ruleE (arity:List Int) (r:Rul):Int :=
 if inR r.pred 0 ((arity.length:Int) - 1)=false then 5
 else if (r.terms.length:Int)≠arity.getD r.pred.toNat 0 then 1
 else if inR r.vars 0 8=false then 3
 else if termsE r.vars r.terms≠0 then termsE r.vars r.terms
 else if inR r.fold 0 4=false then 7
 else if r.fold≠0∧(r.terms.length=0∨r.body.length=0) then 1
 else if 4 < r.body.length then 2
 else if cu (litE arity r.vars) r.body≠0 then cu (litE arity r.vars) r.body
 else if safeB r=false then 4
 else 0
def nameE (nameB:ByteArray→Bool) (p:Prg) (i:Nat):Int :=
 if inR (p.arity.getD i 0) 0 3=false then 3
 else if nameB (p.names.getD i ⟨#[]⟩)=false then 1
 else if (p.names.take i).any (fun s=>decide (s=p.names.getD i ⟨#[]⟩)) then 6
 else 0
def dh (nameB:ByteArray→Bool) (p:Prg):Int :=
 if 10 < p.arity.length∨12 < p.rules.length then 2
 else if p.names.length≠p.arity.length then 1
 else if firstI (nameE nameB p) 0 p.names.length≠0 then firstI (nameE nameB p) 0 p.names.length
 else cu (ruleE p.arity) p.rules
theorem setT_len (bs:List Bool) (t:Trm):(ki bs t).length=bs.length:=by unfold ki;split <;> simp
theorem setTs_len:∀ (l:List Trm) (bs:List Bool),(l.foldl ki bs).length=bs.length
 | [],_=>rfl
 | t::l,bs=>by rw [List.foldl_cons,setTs_len l,setT_len]
theorem bLit_len (bs:List Bool) (l:Ltl):(bLit bs l).length=bs.length:=by unfold bLit;split;exact setTs_len _ _;rfl
theorem bRound_len:∀ (body:List Ltl) (bs:List Bool),(gy body bs).length=bs.length
 | [],_=>rfl
 | l::body,bs=>by
  have:=bRound_len body (bLit bs l)
  rw [bLit_len] at this
  exact this
theorem bIter_len (body:List Ltl):∀ (n:Nat) (bs:List Bool),(fm body n bs).length=bs.length
 | 0,_=>rfl
 | n + 1,bs=>by rw [fm,bIter_len body n,bRound_len]
def leB (a b:List Bool):Prop:=a.length=b.length∧∀ i,a.getD i false=true→b.getD i false=true
theorem leB.refl (a:List Bool):leB a a:=⟨rfl,fun _ h=>h⟩
theorem leB.trans {a b c:List Bool} (h:leB a b) (g:leB b c):leB a c:=⟨h.1.trans g.1,fun i hi=>g.2 i (h.2 i hi)⟩
theorem setT_le (bs:List Bool) (t:Trm):leB bs (ki bs t):=by
 refine⟨(setT_len _ _).symm,fun i h=>?_⟩
 unfold ki
 split
 ·exact h
 ·simp only [List.getD,List.getElem?_set] at h ⊢
  split
  ·rename_i hi
   rw [hi]
   by_cases hl:i < bs.length
   ·simp [hl]
   ·rw [List.getElem?_eq_none (by omega)] at h;cases h
  ·exact h
theorem j7:∀ (l:List Trm) (bs:List Bool),leB bs (l.foldl ki bs)
 | [],bs=>leB.refl bs
 | t::l,bs=>(setT_le bs t).trans (j7 l _)
theorem bLit_le (bs:List Bool) (l:Ltl):leB bs (bLit bs l):=by unfold bLit;split;exact j7 _ _;exact leB.refl _
theorem bRound_le:∀ (body:List Ltl) (bs:List Bool),leB bs (gy body bs)
 | [],bs=>leB.refl bs
 | l::body,bs=>(bLit_le bs l).trans (bRound_le body _)
theorem isT_mono {a b:List Bool} (h:leB a b) {t:Trm} (ht:isT a t=true):isT b t=true:=by
 unfold isT at ht ⊢
 rw [Bool.or_eq_true] at ht ⊢
 exact ht.imp id (h.2 _)
theorem fires_mono {a b:List Bool} (h:leB a b) {l:Ltl} (hl:cy a l=true):cy b l=true:=by
 unfold cy at hl ⊢
 simp only [Bool.or_eq_true,Bool.and_eq_true,List.all_eq_true] at hl ⊢
 exact hl.imp id fun⟨g1,g2⟩=>⟨g1,fun t ht=>isT_mono h (g2 t ht)⟩
theorem setT_same {bs:List Bool} {t:Trm} (h:isT bs t=true):ki bs t=bs:=by
 unfold isT at h
 unfold ki
 split
 ·rfl
 ·rename_i hn
  rw [decide_eq_false hn,Bool.false_or] at h
  simp only [List.getD] at h
  cases hg:bs[t.var.toNat]? with
  | none=>rw [hg] at h;cases h
  | some b =>
   rw [hg] at h
   simp only [Option.getD_some] at h
   subst h
   have hlt:=(List.getElem?_eq_some_iff.1 hg).1
   refine List.ext_getElem? fun i=>?_
   rw [List.getElem?_set]
   split
   ·rename_i hi;subst hi;exact hg.symm
   ·rfl
theorem setTs_same:∀ {l:List Trm} {bs:List Bool},(∀ t∈l,isT bs t=true)→l.foldl ki bs=bs
 | [],_,_=>rfl
 | t::l,bs,h=>by
  rw [List.foldl_cons,setT_same (h t (List.mem_cons_self ..))]
  exact setTs_same fun x hx=>h x (List.mem_cons_of_mem _ hx)
def okT (v:Nat) (t:Trm):Prop:=t.var < (v:Int)
theorem setT_is {bs:List Bool} {t:Trm} (h:okT bs.length t):isT (ki bs t) t=true:=by
 unfold isT ki
 unfold okT at h
 split
 ·rename_i hn;rw [decide_eq_true hn];rfl
 ·rename_i hn
  rw [decide_eq_false hn,Bool.false_or]
  simp only [List.getD,List.getElem?_set]
  have:t.var.toNat < bs.length:=by omega
  simp [this]
theorem lk:∀ {l:List Trm} {bs:List Bool},(∀ t∈l,okT bs.length t)→∀ t∈l,isT (l.foldl ki bs) t=true
 | [],_,_,t,ht=>by simp at ht
 | x::l,bs,h,t,ht=>by
  rw [List.foldl_cons]
  rcases List.mem_cons.1 ht with rfl|ht
  ·exact isT_mono (j7 l _) (setT_is (h t (List.mem_cons_self ..)))
  ·exact lk (bs:=ki bs x) (fun y hy=>by rw [setT_len];exact h y (List.mem_cons_of_mem _ hy)) t ht
theorem bLit_same {bs:List Bool} {l:Ltl} (h:cy bs l=true→∀ t∈dz l,isT bs t=true):bLit bs l=bs:=by
 unfold bLit
 split
 ·rename_i hf;exact setTs_same (h hf)
 ·rfl
theorem bRound_same:∀ {body:List Ltl} {bs:List Bool},(∀ l∈body,cy bs l=true→∀ t∈dz l,isT bs t=true)→gy body bs=bs
 | [],_,_=>rfl
 | l::body,bs,h=>by
  show gy body (bLit bs l)=bs
  rw [bLit_same (h l (List.mem_cons_self ..))]
  exact bRound_same fun x hx=>h x (List.mem_cons_of_mem _ hx)
theorem bRound_done:∀ {body:List Ltl} {bs:List Bool},(∀ l∈body,∀ t∈dz l,okT bs.length t)→∀ l∈body,cy bs l=true→∀ t∈dz l,isT (gy body bs) t=true
 | [],_,_,l,hl,_,_,_=>by simp at hl
 | x::body,bs,hok,l,hl,hf,t,ht=>by
  show isT (gy body (bLit bs x)) t=true
  rcases List.mem_cons.1 hl with rfl|hl
  ·refine isT_mono (bRound_le body _) ?_
   unfold bLit
   rw [if_pos hf]
   exact lk (hok l (List.mem_cons_self ..)) t ht
  ·exact bRound_done (bs:=bLit bs x) (fun y hy z hz=>by rw [bLit_len];exact hok y (List.mem_cons_of_mem _ hy) z hz) l hl (fires_mono (bLit_le bs x) hf) t ht
def nFire (body:List Ltl) (bs:List Bool):Nat:=(body.filter (cy bs)).length
theorem nFire_mono {a b:List Bool} (h:leB a b):∀ (body:List Ltl),nFire body a≤nFire body b
 | []=>Nat.le_refl _
 | l::body=>by
  have ih:=nFire_mono h body
  unfold nFire at ih ⊢
  rw [List.filter_cons,List.filter_cons]
  cases ha:cy a l with
  | true=>rw [fires_mono h ha];simpa using ih
  | false =>
   cases hb:cy b l with
   | true=>simp;omega
   | false=>simpa using ih
theorem nFire_same {a b:List Bool} (h:leB a b):∀ {body:List Ltl},nFire body b≤nFire body a→∀ l∈body,cy b l=true→cy a l=true
 | [],_,l,hl,_=>by simp at hl
 | x::body,hn,l,hl,hf=>by
  have ih:=nFire_mono h body
  have ihs:=@nFire_same a b h body
  unfold nFire at hn ih ihs
  rw [List.filter_cons,List.filter_cons] at hn
  rcases List.mem_cons.1 hl with rfl|hl
  ·cases ha:cy a l with
   | true=>rfl
   | false=>rw [hf,ha] at hn;simp at hn;omega
  ·refine ihs ?_ l hl hf
   cases ha:cy a x with
   | true=>rw [ha,fires_mono h ha] at hn;simpa using hn
   | false =>
    cases hb:cy b x with
    | true=>rw [ha,hb] at hn;simp at hn;omega
    | false=>rw [ha,hb] at hn;simpa using hn
theorem bIter_succ (body:List Ltl):∀ (n:Nat) (bs:List Bool),fm body (n + 1) bs=gy body (fm body n bs)
 | 0,_=>rfl
 | n + 1,bs=>by rw [fm,bIter_succ body n];rfl
theorem bIter_rest {body:List Ltl} {bs:List Bool} (hok:∀ l∈body,∀ t∈dz l,okT bs.length t):∀ n,gy body (fm body n bs)=fm body n bs∨n + 1≤nFire body (fm body n bs)
 | 0=>by
  by_cases h:nFire body bs=0
  ·left
   refine bRound_same fun l hl hf=>?_
   have:l∈body.filter (cy bs):=List.mem_filter.2 ⟨hl,hf⟩
   unfold nFire at h
   rw [List.eq_nil_of_length_eq_zero h] at this
   simp at this
  ·right;show 1≤nFire body bs;omega
 | n + 1=>by
  rcases bIter_rest hok n with h|h
  ·left;rw [bIter_succ,h,h]
  ·have hle:=bRound_le body (fm body n bs)
   have hm:=nFire_mono hle body
   by_cases hn:nFire body (gy body (fm body n bs))≤nFire body (fm body n bs)
   ·left
    rw [bIter_succ]
    refine bRound_same fun l hl hf=>?_
    exact bRound_done (fun x hx t ht=>by rw [bIter_len];exact hok x hx t ht) l hl (nFire_same hle hn l hl hf)
   ·right;rw [bIter_succ];omega
theorem bRound_rest {body:List Ltl} {bs:List Bool} (hok:∀ l∈body,∀ t∈dz l,okT bs.length t):gy body (fm body body.length bs)=fm body body.length bs:=by
 rcases bIter_rest hok body.length with h|h
 ·exact h
 ·have:=List.length_filter_le (cy (fm body body.length bs)) body
  unfold nFire at h
  omega
theorem bIter_fix {body:List Ltl} {bs:List Bool} (h:gy body bs=bs):∀ n,fm body n bs=bs
 | 0=>rfl
 | n + 1=>by rw [fm,h,bIter_fix h n]
theorem bIter_add (body:List Ltl):∀ (m n:Nat) (bs:List Bool),fm body (m + n) bs=fm body n (fm body m bs)
 | 0,n,bs=>by rw [Nat.zero_add];rfl
 | m + 1,n,bs=>by rw [show m + 1 + n=(m + n) + 1 by omega,fm,fm,bIter_add body m n]
theorem rest_is {r:Rul} (hok:∀ l∈r.body,∀ t∈dz l,okT r.vars.toNat t) {m:Nat} (h:gy r.body (fm r.body m (List.replicate r.vars.toNat false))=fm r.body m (List.replicate r.vars.toNat false)):fm r.body m (List.replicate r.vars.toNat false)=boundL r:=by
 have h2:=bRound_rest (body:=r.body) (bs:=List.replicate r.vars.toNat false) (by rw [List.length_replicate];exact hok)
 unfold boundL
 rw [bIter_succ,h2]
 rcases Nat.le_total m r.body.length with hm|hm
 ·obtain⟨d,hd⟩:=Nat.exists_eq_add_of_le hm
  rw [hd,bIter_add,bIter_fix h]
 ·obtain⟨d,hd⟩:=Nat.exists_eq_add_of_le hm
  rw [hd,bIter_add,bIter_fix h2]
theorem fsame_iff (x y:Fct):Fct.same x y=true↔x=y:=by
 unfold Fct.same
 rw [decide_eq_true_eq]
 exact⟨ordF_eq0,fun h=>by rw [h];exact kw y⟩
theorem hasU_congr {a b:List Upd} (h:∀ u,u∈a↔u∈b) (i:UId):hasU a i=hasU b i:=by
 rw [Bool.eq_iff_iff,hasU_iff,hasU_iff]
 exact exists_congr fun u=>and_congr_left fun _=>h u
theorem hasU_app (a b:List Upd) (i:UId):hasU (a++b) i=(hasU a i || hasU b i):=by unfold hasU;rw [List.any_append]
structure RplPre (r:Rpl):Prop where
 sh:StrU r.has
 sw:StrU r.waits
 apart:∀ u∈r.has,∀ v∈r.waits,u.id≠v.id
abbrev Rpl.both (r:Rpl):List Upd:=r.has++r.waits
theorem RplOk.in_has {A:List Upd} {r:Rpl} (h:RplOk A r) {i:UId} (hd:Der A i):hasU r.has i=true:=by
 obtain⟨u,hu,he,_⟩:=hd.has
 rcases (h.all u).1 hu with h1|h1
 ·exact hasU_iff.2 ⟨u,h1,he⟩
 ·exact absurd (he▸hd) (h.wait u h1)
theorem RplOk.ready {A:List Upd} {r:Rpl} (h:RplOk A r) {u:Upd} (hu:u∈r.has):readyU r.has u=true:=by
 obtain⟨v,hv,he,hd⟩:=(h.had u hu).has
 have huv:=h.uniq ((h.all u).2 (.inl hu)) hv he.symm
 subst huv
 exact readyU_iff.2 fun i hi=>h.in_has (hd i hi)
theorem RplOk.der {A:List Upd} {r:Rpl} (h:RplOk A r) {i:UId} (hd:Der A i):Der r.has i:=by
 induction hd with
 | mk u hu h1 ih =>
  rcases (h.all u).1 hu with h2|h2
  ·exact .mk u h2 ih
  ·exact absurd (Der.mk u hu h1) (h.wait u h2)
theorem RplOk.not_ready {A:List Upd} {r:Rpl} (h:RplOk A r) {u:Upd} (hu:u∈r.waits):readyU r.has u=false:=by
 cases hb:readyU r.has u with
 | false=>rfl
 | true=>exact absurd (Der.mk u ((h.all u).2 (.inr hu)) fun i hi=>had_der h.had (readyU_iff.1 hb i hi)) (h.wait u hu)
theorem RplOk.pre {A:List Upd} {r:Rpl} (h:RplOk A r):RplPre r:=⟨h.sh,h.sw,h.apart⟩
theorem RplOk.self {A:List Upd} {r:Rpl} (h:RplOk A r):RplOk r.both r:=h.congr fun u=>(h.all u).trans List.mem_append.symm
theorem RplGo.ends {A:List Upd}:∀ {r:Rpl},RplGo A r→∃ s,RplOk A s:=by
 have key:∀ (n:Nat) (r:Rpl),r.waits.length≤n→RplGo A r→∃ s,RplOk A s:=by
  intro n
  induction n with
  | zero =>
   intro r hl h
   refine⟨r,h.done fun u hu=>?_⟩
   have:=List.length_pos_of_mem hu
   omega
  | succ n ih =>
   intro r hl h
   by_cases hx:∃ u∈r.waits,readyU r.has u=true
   ·obtain⟨u,hu,hr⟩:=hx
    refine ih _ ?_ (h.move hu hr)
    have:(r.waits.filter fun v=>!(v.id.same u.id)).length < r.waits.length:=by
     have:=cnt_lt (has:=r.waits) (c:=fun v=>!(v.id.same u.id)) (d:=fun _=>true) (fun _ _ _=>rfl) ⟨u,hu,by rw [UId.same_refl];rfl,rfl⟩
     unfold cntR at this
     rw [List.filter_eq_self.2 fun _ _=>rfl] at this
     exact this
    dsimp only
    omega
   ·refine⟨r,h.done fun u hu=>?_⟩
    cases hb:readyU r.has u with
    | false=>rfl
    | true=>exact absurd ⟨u,hu,hb⟩ hx
 exact fun {r} h=>key _ r (Nat.le_refl _) h
theorem RplOk.add {A:List Upd} {r:Rpl} (h:RplOk A r) {u:Upd} (hu:hasU A u.id=false):RplGo (u::A) ⟨r.has,insU r.waits u⟩∧∃ s,RplOk (u::A) s:=by
 have h1:hasU r.has u.id=false∧hasU r.waits u.id=false:=by
  rw [hasU_congr (b:=r.both) fun u=>(h.all u).trans List.mem_append.symm,hasU_app,Bool.or_eq_false_iff] at hu
  exact hu
 have:=h.more h1.1 h1.2
 exact⟨this,this.ends⟩
def tellA (A:List Upd):List Upd→Option (List Upd)
 | []=>some A
 | u::l=>if hasU A u.id then tellA A l else if 200≤A.length then none else tellA (u::A) l
open Go
def tab:List (Nat × TI):=[
 (2,⟨.int .i64,1,8,[.int .i64 0],false⟩),
 (3,⟨.int .i64,1,8,[.int .i64 0],false⟩),
 (4,⟨.bool,1,1,[.bool false],false⟩),
 (5,⟨.int .u8,1,1,[.int .u8 0],false⟩),
 (6,⟨.int .u8,1,1,[.int .u8 0],false⟩),
 (7,⟨.struct [(0,2,1),(1,3,1),(2,4,1),(3,6,1)],4,24,[.int .i64 0,.int .i64 0,.bool false,.int .u8 0],true⟩),
 (8,⟨.struct [(0,2,1),(1,3,1),(2,4,1),(3,6,1)],4,24,[.int .i64 0,.int .i64 0,.bool false,.int .u8 0],true⟩),
 (9,⟨.str,1,16,[.string ⟨#[]⟩],false⟩),
 (10,⟨.str,1,16,[.string ⟨#[]⟩],false⟩),
 (11,⟨.str,1,16,[.string ⟨#[]⟩],false⟩),
 (12,⟨.int .u64,1,8,[.int .u64 0],false⟩),
 (13,⟨.struct [(0,9,1),(1,12,1)],2,24,[.string ⟨#[]⟩,.int .u64 0],false⟩),
 (14,⟨.struct [(0,9,1),(1,12,1)],2,24,[.string ⟨#[]⟩,.int .u64 0],false⟩),
 (15,⟨.ptr 269,1,8,[.pointer none],false⟩),
 (16,⟨.ptr 272,1,8,[.pointer none],false⟩),
 (17,⟨.ptr 281,1,8,[.pointer none],false⟩),
 (18,⟨.struct [(0,17,1)],1,8,[.pointer none],false⟩),
 (19,⟨.struct [(0,17,1)],1,8,[.pointer none],false⟩),
 (21,⟨.int .i32,1,4,[.int .i32 0],false⟩),
 (22,⟨.slice 3,1,24,[.slice none 0 0],false⟩),
 (23,⟨.slice 9,1,24,[.slice none 0 0],false⟩),
 (24,⟨.slice 77,1,24,[.slice none 0 0],false⟩),
 (25,⟨.struct [(0,22,1),(1,23,1),(2,24,1)],3,72,[.slice none 0 0,.slice none 0 0,.slice none 0 0],true⟩),
 (26,⟨.struct [(0,22,1),(1,23,1),(2,24,1)],3,72,[.slice none 0 0,.slice none 0 0,.slice none 0 0],true⟩),
 (27,⟨.slice 53,1,24,[.slice none 0 0],false⟩),
 (28,⟨.struct [(0,27,1),(1,27,1)],2,48,[.slice none 0 0,.slice none 0 0],true⟩),
 (29,⟨.struct [(0,27,1),(1,27,1)],2,48,[.slice none 0 0,.slice none 0 0],true⟩),
 (30,⟨.slice 58,1,24,[.slice none 0 0],false⟩),
 (31,⟨.int .i64,1,8,[.int .i64 0],false⟩),
 (35,⟨.slice 40,1,24,[.slice none 0 0],false⟩),
 (39,⟨.struct [(0,30,1),(1,30,1)],2,48,[.slice none 0 0,.slice none 0 0],true⟩),
 (40,⟨.struct [(0,30,1),(1,30,1)],2,48,[.slice none 0 0,.slice none 0 0],true⟩),
 (43,⟨.ptr 47,1,8,[.pointer none],false⟩),
 (46,⟨.struct [(0,29,2),(2,26,3),(5,30,1)],6,144,[.slice none 0 0,.slice none 0 0,.slice none 0 0,.slice none 0 0,.slice none 0 0,.slice none 0 0],true⟩),
 (47,⟨.struct [(0,29,2),(2,26,3),(5,30,1)],6,144,[.slice none 0 0,.slice none 0 0,.slice none 0 0,.slice none 0 0,.slice none 0 0,.slice none 0 0],true⟩),
 (49,⟨.struct [(0,3,1),(1,3,1)],2,16,[.int .i64 0,.int .i64 0],true⟩),
 (50,⟨.struct [(0,3,1),(1,3,1)],2,16,[.int .i64 0,.int .i64 0],true⟩),
 (51,⟨.slice 50,1,24,[.slice none 0 0],false⟩),
 (52,⟨.struct [(0,50,2),(2,51,1),(3,30,1),(4,51,1)],5,88,[.int .i64 0,.int .i64 0,.slice none 0 0,.slice none 0 0,.slice none 0 0],true⟩),
 (53,⟨.struct [(0,50,2),(2,51,1),(3,30,1),(4,51,1)],5,88,[.int .i64 0,.int .i64 0,.slice none 0 0,.slice none 0 0,.slice none 0 0],true⟩),
 (57,⟨.struct [(0,3,1),(1,22,1)],2,32,[.int .i64 0,.slice none 0 0],true⟩),
 (58,⟨.struct [(0,3,1),(1,22,1)],2,32,[.int .i64 0,.slice none 0 0],true⟩),
 (70,⟨.struct [(0,3,1),(1,3,1)],2,16,[.int .i64 0,.int .i64 0],true⟩),
 (71,⟨.struct [(0,3,1),(1,3,1)],2,16,[.int .i64 0,.int .i64 0],true⟩),
 (72,⟨.slice 71,1,24,[.slice none 0 0],false⟩),
 (73,⟨.struct [(0,3,1),(1,3,1),(2,3,1),(3,72,1)],4,48,[.int .i64 0,.int .i64 0,.int .i64 0,.slice none 0 0],true⟩),
 (74,⟨.struct [(0,3,1),(1,3,1),(2,3,1),(3,72,1)],4,48,[.int .i64 0,.int .i64 0,.int .i64 0,.slice none 0 0],true⟩),
 (75,⟨.slice 74,1,24,[.slice none 0 0],false⟩),
 (76,⟨.struct [(0,3,1),(1,72,1),(2,3,1),(3,75,1),(4,3,1)],5,72,[.int .i64 0,.slice none 0 0,.int .i64 0,.slice none 0 0,.int .i64 0],true⟩),
 (77,⟨.struct [(0,3,1),(1,72,1),(2,3,1),(3,75,1),(4,3,1)],5,72,[.int .i64 0,.slice none 0 0,.int .i64 0,.slice none 0 0,.int .i64 0],true⟩),
 (80,⟨.slice 30,1,24,[.slice none 0 0],false⟩),
 (87,⟨.ptr 29,1,8,[.pointer none],false⟩),
 (104,⟨.slice 220,1,24,[.slice none 0 0],false⟩),
 (133,⟨.slice 4,1,24,[.slice none 0 0],false⟩),
 (135,⟨.slice 27,1,24,[.slice none 0 0],false⟩),
 (138,⟨.map 50 3,1,8,[.map none],false⟩),
 (159,⟨.int .u64,1,8,[.int .u64 0],false⟩),
 (166,⟨.ptr 168,1,8,[.pointer none],false⟩),
 (167,⟨.struct [(0,27,1),(1,138,1)],2,32,[.slice none 0 0,.map none],true⟩),
 (168,⟨.struct [(0,27,1),(1,138,1)],2,32,[.slice none 0 0,.map none],true⟩),
 (173,⟨.ptr 175,1,8,[.pointer none],false⟩),
 (174,⟨.struct [(0,26,3),(3,30,1),(4,104,1)],5,120,[.slice none 0 0,.slice none 0 0,.slice none 0 0,.slice none 0 0,.slice none 0 0],true⟩),
 (175,⟨.struct [(0,26,3),(3,30,1),(4,104,1)],5,120,[.slice none 0 0,.slice none 0 0,.slice none 0 0,.slice none 0 0,.slice none 0 0],true⟩),
 (179,⟨.int .i64,1,8,[.int .i64 0],false⟩),
 (186,⟨.int .u32,1,4,[.int .u32 0],false⟩),
 (188,⟨.int .u64,1,8,[.int .u64 0],false⟩),
 (190,⟨.slice 51,1,24,[.slice none 0 0],false⟩),
 (194,⟨.slice 22,1,24,[.slice none 0 0],false⟩),
 (199,⟨.int .u64,1,8,[.int .u64 0],false⟩),
 (203,⟨.ptr 3,1,8,[.pointer none],false⟩),
 (205,⟨.slice 209,1,24,[.slice none 0 0],false⟩),
 (208,⟨.struct [(0,3,1),(1,3,1),(2,9,1)],3,32,[.int .i64 0,.int .i64 0,.string ⟨#[]⟩],true⟩),
 (209,⟨.struct [(0,3,1),(1,3,1),(2,9,1)],3,32,[.int .i64 0,.int .i64 0,.string ⟨#[]⟩],true⟩),
 (211,⟨.ptr 213,1,8,[.pointer none],false⟩),
 (212,⟨.struct [(0,77,5),(5,30,1),(6,22,1),(7,133,1),(8,3,1),(9,194,1)],10,176,[.int .i64 0,.slice none 0 0,.int .i64 0,.slice none 0 0,.int .i64 0,.slice none 0 0,.slice none 0 0,.slice none 0 0,.int .i64 0,.slice none 0 0],true⟩),
 (213,⟨.struct [(0,77,5),(5,30,1),(6,22,1),(7,133,1),(8,3,1),(9,194,1)],10,176,[.int .i64 0,.slice none 0 0,.int .i64 0,.slice none 0 0,.int .i64 0,.slice none 0 0,.slice none 0 0,.slice none 0 0,.int .i64 0,.slice none 0 0],true⟩),
 (219,⟨.struct [(0,58,2),(2,3,1),(3,22,1)],4,64,[.int .i64 0,.slice none 0 0,.int .i64 0,.slice none 0 0],true⟩),
 (220,⟨.struct [(0,58,2),(2,3,1),(3,22,1)],4,64,[.int .i64 0,.slice none 0 0,.int .i64 0,.slice none 0 0],true⟩),
 (222,⟨.slice 224,1,24,[.slice none 0 0],false⟩),
 (224,⟨.ptr 226,1,8,[.pointer none],false⟩),
 (225,⟨.struct [(0,22,1),(1,22,1)],2,48,[.slice none 0 0,.slice none 0 0],true⟩),
 (226,⟨.struct [(0,22,1),(1,22,1)],2,48,[.slice none 0 0,.slice none 0 0],true⟩),
 (230,⟨.ptr 199,1,8,[.pointer none],false⟩),
 (233,⟨.ptr 235,1,8,[.pointer none],false⟩),
 (234,⟨.struct [(0,9,1),(1,3,1)],2,24,[.string ⟨#[]⟩,.int .i64 0],true⟩),
 (235,⟨.struct [(0,9,1),(1,3,1)],2,24,[.string ⟨#[]⟩,.int .i64 0],true⟩),
 (255,⟨.slice 75,1,24,[.slice none 0 0],false⟩),
 (268,⟨.struct [(0,17,1),(1,17,1),(2,17,1),(3,9,1)],4,40,[.pointer none,.pointer none,.pointer none,.string ⟨#[]⟩],false⟩),
 (269,⟨.struct [(0,17,1),(1,17,1),(2,17,1),(3,9,1)],4,40,[.pointer none,.pointer none,.pointer none,.string ⟨#[]⟩],false⟩),
 (271,⟨.struct [(0,270,0)],0,0,[],false⟩),
 (272,⟨.struct [(0,270,0)],0,0,[],false⟩),
 (274,⟨.int .u8,1,1,[.int .u8 0],false⟩),
 (275,⟨.int .u8,1,1,[.int .u8 0],false⟩),
 (277,⟨.ptr 5,1,8,[.pointer none],false⟩),
 (278,⟨.int .i32,1,4,[.int .i32 0],false⟩),
 (279,⟨.int .i32,1,4,[.int .i32 0],false⟩),
 (280,⟨.struct [(0,12,1),(1,12,1),(2,186,1),(3,274,1),(4,5,1),(5,5,1),(6,275,1),(7,276,1),(8,277,1),(9,278,1),(10,279,1)],11,48,[.int .u64 0,.int .u64 0,.int .u32 0,.int .u8 0,.int .u8 0,.int .u8 0,.int .u8 0,.nilFunc,.pointer none,.int .i32 0,.int .i32 0],false⟩),
 (281,⟨.struct [(0,12,1),(1,12,1),(2,186,1),(3,274,1),(4,5,1),(5,5,1),(6,275,1),(7,276,1),(8,277,1),(9,278,1),(10,279,1)],11,48,[.int .u64 0,.int .u64 0,.int .u32 0,.int .u8 0,.int .u8 0,.int .u8 0,.int .u8 0,.nilFunc,.pointer none,.int .i32 0,.int .i32 0],false⟩)]
theorem cn:d7 Tryz.prog tab:=by
 unfold d7
 kernel_rfl
end Go.Proofs.YtapciiffpnociaaGreat
namespace Go.Proofs.YtapciiffpnociaaGreat
open Go Go.RowKit
theorem str_beq (s u:ByteArray):(s.toList == u.toList)=decide (s=u):=by
 rw [ByteArray.toList_eq,ByteArray.toList_eq,Bool.eq_iff_iff]
 simp only [beq_iff_eq,decide_eq_true_eq]
 exact⟨fun h=>by cases s;cases u;congr 1;exact Array.toList_inj.1 h,fun h=>by rw [h]⟩
def Ctx.sh (Γ:Ctx) (t:TypeId):Sh:=(ay Γ.τ t).sh
def Ctx.cells (Γ:Ctx) (t:TypeId):Nat:=(ay Γ.τ t).cells
theorem Ctx.ti {Γ:Ctx} {t:TypeId} (h:Γ.sh t≠.other):tiOf Γ.P t=some (ay Γ.τ t):=tiGet_ok Γ.τok t h
theorem gp {P:Program} {t:TypeId} {i:TI} (h:tiOf P t=some i):∃ u inf z,P.underlying t=some u∧P.info? t=some inf∧inf.zero=some z∧i.sh=lj P u∧inf.size=i.cells∧inf.bytes=i.bytes∧z.cells.toList=i.zero∧i.eqs=flatEqB P t:=by
 unfold tiOf at h
 split at h
 ·rename_i u inf h1 h2
  split at h
  ·rename_i z hz
   cases h
   exact⟨u,inf,z,h1,h2,hz,rfl,rfl,rfl,rfl,rfl⟩
  ·cases h
 ·cases h
theorem Ctx.str {Γ:Ctx} {t:TypeId} (h:Γ.sh t = .str):Γ.P.underlying t=some .string:=by
 obtain⟨u,inf,z,h1,_,_,h4,_⟩:=gp (Γ.ti (by rw [h];intro h;cases h))
 rw [h1]
 have:lj Γ.P u = .str:=h4▸h
 cases u <;> simp [lj] at this ⊢
theorem Ctx.slice {Γ:Ctx} {t e:TypeId} (h:Γ.sh t = .slice e):Γ.P.underlying t=some (.slice e):=by
 obtain⟨u,inf,z,h1,_,_,h4,_⟩:=gp (Γ.ti (by rw [h];intro h;cases h))
 rw [h1]
 have:lj Γ.P u = .slice e:=h4▸h
 cases u <;> simp [lj] at this ⊢
 exact this
theorem Ctx.info {Γ:Ctx} {t:TypeId} (h:Γ.sh t≠.other):∃ inf z,Γ.P.info? t=some inf∧inf.zero=some z∧inf.size=Γ.cells t∧inf.bytes=(ay Γ.τ t).bytes∧z.cells.toList=(ay Γ.τ t).zero:=by
 obtain⟨u,inf,z,h1,h2,h3,h4,h5,h6,h7,_⟩:=gp (Γ.ti h)
 exact⟨inf,z,h2,h3,h5,h6,h7⟩
theorem Ctx.struct {Γ:Ctx} {t:TypeId} {l} (h:Γ.sh t = .struct l):∃ fs,Γ.P.underlying t=some (.struct fs)∧l=fs.toList.map fun f=>(f.offset,f.type,((Γ.P.info? f.type).map (·.size)).getD 0):=by
 obtain⟨u,inf,z,h1,_,_,h4,_⟩:=gp (Γ.ti (by rw [h];intro h;cases h))
 have:lj Γ.P u = .struct l:=h4▸h
 cases u <;> simp [lj] at this
 rename_i fs
 exact⟨fs,h1,this.symm⟩
def Sh.known:Sh→Bool|.other=>false|_=>true
theorem Sh.known_ne {s:Sh} (h:s.known=true):s≠.other:=by intro e;subst e;cases h
def Sh.isAgg:Sh→Bool|.struct _=>true|_=>false
theorem Ctx.agg {Γ:Ctx} {t:TypeId} (h:Γ.sh t≠.other):∀ w,(Go.isAgg t).run Γ.P w = .ok (Γ.sh t).isAgg w:=by
 intro w
 obtain⟨u,inf,z,h1,_,_,h4,_⟩:=gp (Γ.ti h)
 have h5:lj Γ.P u=Γ.sh t:=h4.symm
 rw [← h5] at h ⊢
 cases u <;> simp [Go.isAgg,run_underlying h1,lj,Sh.isAgg] at h ⊢
def cOkB:Value→Bool
 | .int k n=>(Lit.int k n).wf
 | .string s=>Nat.ble s.size maxLen
 | _=>true
def c9:Operand→Bool
 | .const v=>cOkB v
 | _=>true
theorem ck {x:Operand} (h:c9 x=true):opOk x:=by
 cases x with
 | const v =>
  cases v with
  | int k n=>exact h
  | string s=>exact Nat.le_of_ble_eq_true h
  | _=>trivial
 | _=>trivial
section
variable {Γ : Ctx} {k : Nat → Prop} {L : Sl} {H : Hp} {K : cq} {ops : List Oper} {rest : List Oper} {a : Act} {w : World} {e : Env}
theorem evI (m:Models Γ k L H e a w) {x:Operand} {i:IntKind} {n:Int} (h:a8 L x = .d (.int i n)):a.eval x = .int i n:=by
 cases x with
 | tmp t =>
  have hr:=m.slot t
  simp only [a8] at h
  rw [h] at hr
  show a.tmps.getD t undef=_
  generalize a.tmps.getD t undef=v at hr
  cases hr;rfl
 | const v =>
  simp only [a8] at h
  unfold cSV at h
  split at h <;> cases h
  rfl
 | global g=>cases h
 | func f=>cases h
theorem evIw (m:Models Γ k L H e a w) {x:Operand} {i:IntKind} {n:Int} (hx:c9 x=true) (h:a8 L x = .d (.int i n)):(Lit.int i n).wf=true:=by
 have hr:=m.op x (ck hx)
 rw [h] at hr
 generalize a.eval x=v at hr
 cases hr;assumption
theorem evB (m:Models Γ k L H e a w) {x:Operand} {b:Bool} (h:a8 L x = .d (.bool b)):a.eval x = .bool b:=by
 cases x with
 | tmp t =>
  have hr:=m.slot t
  simp only [a8] at h
  rw [h] at hr
  show a.tmps.getD t undef=_
  generalize a.tmps.getD t undef=v at hr
  cases hr;rfl
 | const v =>
  simp only [a8] at h
  unfold cSV at h
  split at h <;> cases h
  rfl
 | global g=>cases h
 | func f=>cases h
theorem evS (m:Models Γ k L H e a w) {x:Operand} {s:ByteArray} (h:a8 L x = .d (.str s)):a.eval x = .string s:=by
 cases x with
 | tmp t =>
  have hr:=m.slot t
  simp only [a8] at h
  rw [h] at hr
  show a.tmps.getD t undef=_
  generalize a.tmps.getD t undef=v at hr
  cases hr;rfl
 | const v =>
  simp only [a8] at h
  unfold cSV at h
  split at h <;> cases h
  rfl
 | global g=>cases h
 | func f=>cases h
def Ev (Γ:Ctx) (k:Nat→Prop) (L:Sl) (H:Hp) (op:Op) (ty:TypeId) (s:SV):Prop :=
 ∀ e a w,Models Γ k L H e a w→∃ v,(∀ (dst:Option Tmp) pos after guard w',Below w.heap.size w w'→(execOp a.eval ⟨dst,op,ty,pos,after,guard⟩).run Γ.P w' = .ok (.value v) w')∧Rel (Γ.X e H) e w s v
def OpOk (Γ:Ctx) (o:Oper) (k:Nat→Prop) (L:Sl) (H:Hp) (k':Nat→Prop) (L':Sl) (H':Hp):Prop :=
 ∀ e a w Q,Models Γ k L H e a w→o.wp Γ.P a w (fun a' w'=>∃ e',Models Γ k' L' H' e' a' w') Q
theorem op_ev {d:Nat} {op:Op} {ty:TypeId} {pos:String} {af:Array Edge} {g:Option (Nat × Bool)} {s:SV} (h:Ev Γ k L H op ty s) (hd:Nat.blt d Γ.n=true) :
  OpOk Γ ⟨some d,op,ty,pos,af,g⟩ k L H k ((d,s)::L) H:=by
 intro e a w Q m
 obtain⟨v,h1,h2⟩:=h e a w m
 unfold Oper.wp
 rw [h1 (some d) pos af g w (Below.refl _ _)]
 exact⟨e,m.put (Nat.le_of_ble_eq_true hd) h2⟩
def nthOp:List Oper→Nat→Option Oper
 | [],_=>none
 | o::_,0=>some o
 | _::l,n + 1=>nthOp l n
theorem nthOp_eq:∀ (l:List Oper) (n:Nat),nthOp l n=l[n]?
 | [],_=>by simp [nthOp]
 | o::_,0=>by simp [nthOp]
 | _::l,n + 1=>by simp [nthOp,nthOp_eq l n]
def bf (ops:List Oper) (L:Sl):Option (Nat × Bool)→Option Bool
 | none=>some true
 | some (j,want)=>match nthOp ops j with
  | some o=>match o.dst with
   | some t=>match L.get t with
    | .d (.bool true)=>some want
    | .d (.bool false)=>some (!want)
    | .tup []=>some false
    | _=>none
   | none=>none
  | none=>none
theorem j6 {o:Oper} {b:Bool} (m:Models Γ k L H e a w) (h:bf ops L o.guard=some b):Region.wanted o (yielded ops.toArray a.tmps)=b:=by
 unfold Region.wanted
 cases hg:o.guard with
 | none=>rw [hg] at h;simpa [bf] using h
 | some q =>
  obtain⟨j,want⟩:=q
  rw [hg] at h
  simp only [bf,nthOp_eq] at h
  cases ho:ops[j]? with
  | none=>simp [ho] at h
  | some oj =>
   simp only [ho] at h
   cases hd:oj.dst with
   | none=>simp [hd] at h
   | some t =>
    simp only [hd] at h
    have hr:=m.slot t
    have hy:∀ b',L.get t = .d (.bool b')→yielded ops.toArray a.tmps j=some b':=by
     intro b' hb'
     rw [hb'] at hr
     generalize hv:a.tmps.getD t undef=v at hr
     cases hr
     have hv':a.tmps[t]?.getD undef=Value.bool b':=by rw [← Array.getD_eq_getD_getElem?];exact hv
     cases ht:a.tmps[t]? with
     | none=>rw [ht] at hv';cases hv'
     | some u=>rw [ht] at hv';simp only [Option.getD_some] at hv';subst hv';simp [yielded,ho,hd,ht]
    cases hs:L.get t with
    | tup ss =>
     cases ss with
     | cons _ _=>simp [hs] at h
     | nil =>
      simp only [hs,Option.some.injEq] at h
      subst h
      rw [hs] at hr
      obtain⟨vs,hv,hl⟩:=hr
      cases vs with
      | cons _ _=>exact hl.elim
      | nil =>
       have hn:yielded ops.toArray a.tmps j=none:=by
        have hv':a.tmps[t]?.getD undef=Value.tuple #[]:=by rw [← Array.getD_eq_getD_getElem?];exact hv
        cases ht:a.tmps[t]? with
        | none=>simp [yielded,ho,hd,ht]
        | some u=>rw [ht] at hv';simp only [Option.getD_some] at hv';subst hv';simp [yielded,ho,hd,ht]
       show (yielded ops.toArray a.tmps j == some want)=false
       rw [hn];rfl
    | d x =>
     cases x with
     | bool b' =>
      simp only [hs] at h
      simp only [hy b' hs]
      cases b' <;> cases want <;> simp_all
     | _=>simp [hs] at h
    | _=>simp [hs] at h
end
section
variable {Γ : Ctx} {k : Nat} {L : Sl} {H : Hp} {K : cq} {ops : List Oper} {rest : List Oper} {a : Act} {w : World} {e : Env}
theorem gl {op:Op} {ty:TypeId} {pos:String} {af:Array Edge} {g:Option (Nat × Bool)} {d:Option Nat} (hw:bf ops L g=some true)
  (h:∀ e a w,Models Γ k L H e a w→(Oper.mk d op ty pos af g).wp Γ.P a w (fun a' w'=>∃ (k':Nat) (L':Sl) (H':Hp) (e':Env),Models Γ k' L' H' e' a' w'∧DL Γ ops rest K k' L' H') (lift Γ (fg K))) :
  DL Γ ops (⟨d,op,ty,pos,af,g⟩::rest) K k L H:=by
 intro e a w m
 refine wpList_step fun K' hK'=>?_
 rw [if_pos (j6 m hw)]
 refine Oper.wp_mono ?_ (h e a w m)
 rintro a' w' ⟨k',L',H',e',m',hd⟩
 exact hK' _ _ (hd e' a' w' m')
theorem dl_skip {op:Op} {ty:TypeId} {pos:String} {af:Array Edge} {g:Option (Nat × Bool)} {d:Nat} (hw:bf ops L g=some false) (hd:Nat.blt d Γ.n=true)
  (h:DL Γ ops rest K k ((d,.tup [])::L) H):DL Γ ops (⟨some d,op,ty,pos,af,g⟩::rest) K k L H:=by
 intro e a w m
 refine wpList_step fun K' hK'=>?_
 rw [if_neg (by rw [j6 m hw];exact Bool.false_ne_true)]
 exact hK' _ _ (h e _ w (m.put (s:=.tup []) (Nat.le_of_ble_eq_true hd) ⟨[],rfl,trivial⟩))
theorem dl_op {op:Op} {ty:TypeId} {pos:String} {af:Array Edge} {g:Option (Nat × Bool)} {d:Option Nat} {k':Nat} {L':Sl} {H':Hp} (hw:bf ops L g=some true)
  (h:OpOk Γ ⟨d,op,ty,pos,af,g⟩ k L H k' L' H') (hk:DL Γ ops rest K k' L' H'):DL Γ ops (⟨d,op,ty,pos,af,g⟩::rest) K k L H:=by
 refine gl hw fun e a w m=>Oper.wp_mono ?_ (h e a w _ m)
 rintro a' w' ⟨e',m'⟩
 exact⟨k',L',H',e',m',hk⟩
theorem dl_ev {d:Nat} {op:Op} {ty:TypeId} {pos:String} {af:Array Edge} {g:Option (Nat × Bool)} {s:SV} (hw:bf ops L g=some true) (h:Ev Γ k L H op ty s) (hd:Nat.blt d Γ.n=true)
  (hk:DL Γ ops rest K k ((d,s)::L) H):DL Γ ops (⟨some d,op,ty,pos,af,g⟩::rest) K k L H:=by
 refine gl hw fun e a w m=>?_
 obtain⟨v,h1,h2⟩:=h e a w m
 unfold Oper.wp
 rw [h1 (some d) pos af g w (Below.refl _ _)]
 exact⟨k,_,H,e,m.put (Nat.le_of_ble_eq_true hd) h2,hk⟩
theorem dl_split {t:Nat} {b:Bool} (hb:L.get t = .d (.bool b)) (ht:b=true→DL Γ ops rest K k ((t,.d (.bool true))::L) H) (hf:b=false→DL Γ ops rest K k ((t,.d (.bool false))::L) H) :
  DL Γ ops rest K k L H:=by
 intro e a w m
 have key:∀ b',b=b'→Models Γ k ((t,.d (.bool b'))::L) H e a w:=fun b' hb' =>
  ⟨m.toHeap,m.defers,m.len,fun t'=>by
    rw [Sl.get_cons]
    split
    ·rename_i h;subst h;rw [← hb',← hb];exact m.slot t
    ·exact m.slot t'⟩
 cases b with
 | true=>exact ht rfl e a w (key true rfl)
 | false=>exact hf rfl e a w (key false rfl)
end
section
variable {Γ : Ctx} {k : Nat → Prop} {L : Sl} {H : Hp} {K : cq} {ops : List Oper} {rest : List Oper} {a : Act} {w : World} {e : Env}
theorem ev_move {x:Operand} {ty:TypeId} (hx:c9 x=true):Ev Γ k L H (.move x) ty (a8 L x):=by
 intro e a w m
 exact⟨a.eval x,fun _ _ _ _ w' _=>by simp [execOp],m.op x (ck hx)⟩
theorem ev_assign {x:Operand} {ty:TypeId} (hx:c9 x=true):Ev Γ k L H (.assign x) ty (a8 L x):=by
 intro e a w m
 exact⟨a.eval x,fun _ _ _ _ w' _=>by simp [execOp],m.op x (ck hx)⟩
theorem gx {op:BinOp} {t t' ty:TypeId} {x y:Operand} {i:IntKind} {n m':Int} {s:SV} {v:Value} (hx:a8 L x = .d (.int i n)) (hy:a8 L y = .d (.int i m'))
  (hr:∀ P w,(binOp op t (.int i n) (.int i m')).run P w = .ok v w) (hv:∀ X e w,Rel X e w s v):Ev Γ k L H (.binOp op t x y t') ty s:=by
 intro e a w m
 refine⟨v,fun _ _ _ _ w' _=>?_,hv _ _ _⟩
 simp only [execOp,evI m hx,evI m hy]
 have he:eqGuard op t x y (Value.int i n) (Value.int i m')=pure ():=by unfold eqGuard;split <;> rfl
 simp [he,hr]
section
variable {t t' ty : TypeId} {x y : Operand} {i : IntKind} {n m' : Int}
theorem ev_lss (hx:a8 L x = .d (.int i n)) (hy:a8 L y = .d (.int i m')):Ev Γ k L H (.binOp .lss t x y t') ty (.d (.bool (decide (n < m')))) :=
 gx hx hy (fun P w=>by simp [binOp,Op.intCmp]) fun _ _ _=>.bool
theorem ev_leq (hx:a8 L x = .d (.int i n)) (hy:a8 L y = .d (.int i m')):Ev Γ k L H (.binOp .leq t x y t') ty (.d (.bool (decide (n≤m')))) :=
 gx hx hy (fun P w=>by simp [binOp,Op.intCmp]) fun _ _ _=>.bool
theorem ev_gtr (hx:a8 L x = .d (.int i n)) (hy:a8 L y = .d (.int i m')):Ev Γ k L H (.binOp .gtr t x y t') ty (.d (.bool (decide (m' < n)))) :=
 gx hx hy (fun P w=>by simp [binOp,Op.intCmp]) fun _ _ _=>.bool
theorem ev_geq (hx:a8 L x = .d (.int i n)) (hy:a8 L y = .d (.int i m')):Ev Γ k L H (.binOp .geq t x y t') ty (.d (.bool (decide (m'≤n)))) :=
 gx hx hy (fun P w=>by simp [binOp,Op.intCmp]) fun _ _ _=>.bool
theorem ev_eql (hx:a8 L x = .d (.int i n)) (hy:a8 L y = .d (.int i m')):Ev Γ k L H (.binOp .eql t x y t') ty (.d (.bool (decide (n=m')))) :=
 gx hx hy (fun P w=>by simp [binOp,Op.intCmp];rfl) fun _ _ _=>.bool
theorem ev_neq (hx:a8 L x = .d (.int i n)) (hy:a8 L y = .d (.int i m')):Ev Γ k L H (.binOp .neq t x y t') ty (.d (.bool (decide (n≠m')))) :=
 gx hx hy (fun P w=>by simp [binOp,Op.intCmp];rfl) fun _ _ _=>.bool
theorem ev_add (hx:a8 L x = .d (.int .i64 n)) (hy:a8 L y = .d (.int .i64 m')) (hw:-9223372036854775808≤n + m'∧n + m'≤9223372036854775807):Ev Γ k L H (.binOp .add t x y t') ty (.d (.int .i64 (n + m'))) :=
 gx hx hy (fun P w=>by simp [binOp,Op.intArith];rfl) fun _ _ _=>by rw [IntWalk.i64_in _ hw];exact .int (WalkArith.wf_i64 hw)
end
section
variable {t t' ty : TypeId} {x y : Operand} {i : IntKind} {n m' : Int}
theorem ev_not {b:Bool} (hx:a8 L x = .d (.bool b)):Ev Γ k L H (.unOp .not t x) ty (.d (.bool (!b))):=by
 intro e a w m
 exact⟨.bool (!b),fun _ _ _ _ w' _=>by simp [execOp,evB m hx,Op.unary],.bool⟩
theorem ev_pick {c:Operand} {b:Bool} (hc:a8 L c = .d (.bool b)) (hx:b=true→c9 x=true) (hy:b=false→c9 y=true) :
  Ev Γ k L H (.pick c x y) ty (match b with|true=>a8 L x|false=>a8 L y):=by
 intro e a w m
 cases b with
 | true=>exact⟨a.eval x,fun _ _ _ _ w' _=>by simp [execOp,evB m hc,asBool],m.op x (ck (hx rfl))⟩
 | false=>exact⟨a.eval y,fun _ _ _ _ w' _=>by simp [execOp,evB m hc,asBool],m.op y (ck (hy rfl))⟩
theorem ev_eqs {s u:ByteArray} (hx:a8 L x = .d (.str s)) (hy:a8 L y = .d (.str u)):Ev Γ k L H (.binOp .eql t x y t') ty (.d (.bool (decide (s=u)))):=by
 intro e a w m
 refine⟨_,fun _ _ _ _ w' _=>?_,.bool⟩
 simp only [execOp,evS m hx,evS m hy]
 simp [eqGuard,binOp,Op.stringOp,str_beq]
theorem ev_nes {s u:ByteArray} (hx:a8 L x = .d (.str s)) (hy:a8 L y = .d (.str u)):Ev Γ k L H (.binOp .neq t x y t') ty (.d (.bool (decide (s≠u)))):=by
 intro e a w m
 refine⟨_,fun _ _ _ _ w' _=>?_,.bool⟩
 simp only [execOp,evS m hx,evS m hy]
 simp [eqGuard,binOp,Op.stringOp,str_beq]
theorem ev_len_str {s:ByteArray} (ht:Γ.sh t = .str) (hx:a8 L x = .d (.str s)) (hxo:c9 x=true):Ev Γ k L H (.call { callee:=.builtin .len,args:=#[x],argTypes:=#[t] }) ty (.d (.int .i64 s.size)):=by
 intro e a w m
 have hs:s.size≤maxLen:=by
  have hr:=m.op x (ck hxo)
  rw [hx] at hr
  generalize a.eval x=v at hr
  cases hr;assumption
 refine⟨.int .i64 s.size,fun _ _ _ _ w' _=>?_,.int (WalkArith.wf_i64 (by unfold maxLen at hs;omega))⟩
 simp [execOp,resolve,invoke,builtin,evS m hx,Builtin.len_,goInt,run_underlying (Ctx.str ht)]
theorem ev_index_str {s:ByteArray} {n:Int} (ht:Γ.sh t = .str) (hx:a8 L x = .d (.str s)) (hy:a8 L y = .d (.int .i64 n)) (h0:0≤n) (h1:n.toNat < s.size) :
  Ev Γ k L H (.index t x y) ty (.d (.int .u8 (s[n.toNat]'h1).toNat)):=by
 intro e a w m
 refine⟨.int .u8 (s[n.toNat]'h1).toNat,fun _ _ _ _ w' _=>?_,.int (WalkArith.wf_u8 (by have:=(s[n.toNat]'h1).toNat_lt;omega))⟩
 simp [execOp,Instr.index,evS m hx,evI m hy,asIntOf,run_underlying (Ctx.str ht),h0,h1]
end
end
end Go.Proofs.YtapciiffpnociaaGreat
namespace Go.Proofs.YtapciiffpnociaaGreat
open Go Go.RowKit
section
variable {Γ : Ctx} {k : Nat → Prop} {L : Sl} {H : Hp} {K : cq} {ops : List Oper} {rest : List Oper} {a : Act} {w : World} {e : Env} {t t' ty : TypeId} {x y : Operand}
theorem Addr.add_at (b off j:Nat):(⟨b,off,none⟩:Addr).add j=⟨b,off + j,none⟩:=by
 unfold Go.Addr.add
 split
 ·rename_i h;subst h;rfl
 ·rfl
theorem evT (m:Models Γ k L H e a w) {x:Operand} {s:SV} (h:a8 L x=s) (hs:∀ v,cSV v≠s):Rel (Γ.X e H) e w s (a.eval x):=by
 cases x with
 | tmp t=>rw [← h];exact m.slot t
 | const v=>exact absurd h (hs v)
 | global g=>rw [← h];trivial
 | func f=>rw [← h];exact⟨[],rfl,trivial⟩
theorem k7 (v:Value) (es:Nat) (xs:List (List D)):cSV v≠.d (.slice es xs):=by unfold cSV;split <;> simp
theorem cSV_pd (v:Value) (ds:List D):cSV v≠.pd ds:=by unfold cSV;split <;> simp
theorem cSV_loc (v:Value) (i o:Nat):cSV v≠.loc i o:=by unfold cSV;split <;> simp
theorem kg (v:Value) (i:Nat):cSV v≠.row i:=by unfold cSV;split <;> simp
theorem cSV_prow (v:Value) (i j s o:Nat):cSV v≠.prow i j s o:=by unfold cSV;split <;> simp
theorem cSV_agg (v:Value) (ss:List SV):cSV v≠.agg ss:=by unfold cSV;split <;> simp
theorem cSV_tup (v:Value) (ss:List SV):cSV v≠.tup ss:=by unfold cSV;split <;> simp
theorem RepC.slice_inv {X w v es xs} (h:RepC X w v (.slice es xs)):∃ ao cap,v = .slice ao xs.length cap∧xs.length≤cap∧cap≤maxLen∧(ao=none→xs=[]):=by
 cases h with
 | nil=>exact⟨none,0,rfl,by simp,Nat.zero_le _,fun _=>rfl⟩
 | zero=>exact⟨_,0,rfl,by simp,Nat.zero_le _,fun _=>rfl⟩
 | slice c hn hc hm=>subst hn;exact⟨_,_,rfl,hc,hm,fun h=>by cases h⟩
theorem ev_len_d {es:Nat} {xs:List (List D)} (ht:Γ.sh t = .slice t') (hx:a8 L x = .d (.slice es xs)):Ev Γ k L H (.call { callee:=.builtin .len,args:=#[x],argTypes:=#[t] }) ty (.d (.int .i64 xs.length)):=by
 intro e a w m
 obtain⟨ao,cap,hv,h1,h2,_⟩:=(evT m hx (k7 · _ _)).slice_inv
 refine⟨.int .i64 xs.length,fun _ _ _ _ w' _=>?_,.int (WalkArith.wf_i64 (by unfold maxLen at h2;omega))⟩
 simp [execOp,resolve,invoke,builtin,hv,Builtin.len_,goInt,run_underlying (Ctx.slice ht)]
theorem ev_len_nils (ht:Γ.sh t = .slice t') (hx:a8 L x = .nils):Ev Γ k L H (.call { callee:=.builtin .len,args:=#[x],argTypes:=#[t] }) ty (.d (.int .i64 0)):=by
 intro e a w m
 have hv:a.eval x = .slice none 0 0:=by
  have hok:opOk x:=by
   cases x with
   | const v=>simp only [a8] at hx;unfold cSV at hx;split at hx <;> simp_all [opOk,cOk]
   | _=>trivial
  have:=m.op x hok
  rw [hx] at this;exact this
 refine⟨.int .i64 0,fun _ _ _ _ w' _=>?_,.int (by decide)⟩
 simp [execOp,resolve,invoke,builtin,hv,Builtin.len_,goInt,run_underlying (Ctx.slice ht)]
theorem Hp.mem_of {id:Nat} {b:HB} (h:Hp.get H id=some b):(id,b)∈H:=Hp.get_mem H id b h
theorem ev_len_row {id es:Nat} {xs:List (List D)} {te:TypeId} (ht:Γ.sh t = .slice t') (hx:a8 L x = .row id) (hH:Hp.get H id=some (.row te es xs)) :
  Ev Γ k L H (.call { callee:=.builtin .len,args:=#[x],argTypes:=#[t] }) ty (.d (.int .i64 xs.length)):=by
 intro e a w m
 have hv:=(evT m hx (kg · _)).2.1
 obtain⟨vs,ho,_⟩:=(m.heap _ (Hp.mem_of hH)).2
 have hs:∃ ao cap,e.η id = .slice ao xs.length cap∧xs.length≤maxLen:=by
  rcases ho.2 with ⟨h1,h2⟩|⟨g,cap,cur,h1,_,_,h3,h4,_⟩
  ·exact⟨none,0,by rw [h1,h2],by rw [h2];exact Nat.zero_le _⟩
  ·exact⟨_,_,h1,Nat.le_trans h3 h4⟩
 obtain⟨ao,cap,hs,hm⟩:=hs
 rw [hs] at hv
 refine⟨.int .i64 xs.length,fun _ _ _ _ w' _=>?_,.int (WalkArith.wf_i64 (by unfold maxLen at hm;omega))⟩
 simp [execOp,resolve,invoke,builtin,hv,Builtin.len_,goInt,run_underlying (Ctx.slice ht)]
theorem RepC.at {X w v es} {xs:List (List D)} (h:RepC X w v (.slice es xs)) (i:Nat) (hi:i < xs.length):∃ b off n cap,v = .slice (some ⟨b,off,none⟩) n cap∧n=xs.length∧¬ X b∧b < w.heap.size ∧
  ∀ j (hj:j < xs[i].length),∃ u,w.cell? ⟨b,off + i * es + j,none⟩=some u∧RepC X w u xs[i][j]:=by
 cases h with
 | nil=>simp at hi
 | zero=>simp at hi
 | slice c hn hc hm hX hb he hcell hrep=>exact⟨_,_,_,_,rfl,hn,hX,hb,fun j hj=>⟨_,hcell i hi j hj,hrep i hi j hj⟩⟩
theorem dl {inf:TypeInfo} (h:Γ.P.info? t=some inf) (w:World):(sizeOf t).run Γ.P w = .ok inf.size w:=by
 simp [sizeOf,typeInfo,h]
theorem ev_index_d {es:Nat} {xs:List (List D)} {n:Int} (ht:Γ.sh t = .slice t') (hc:Γ.cells t' = es) (hkn:(Γ.sh t').known=true) (hx:a8 L x = .d (.slice es xs)) (hy:a8 L y = .d (.int .i64 n))
  (h0:0≤n) (h1:n.toNat < xs.length):Ev Γ k L H (.indexAddr t x y) ty (.pd (xs[n.toNat]'h1)):=by
 intro e a w m
 have ho:=Sh.known_ne hkn
 obtain⟨b,off,n',cap,hv,hn,hX,hb,hcell⟩:=(evT m hx (k7 · _ _)).at _ h1
 obtain⟨inf,z,hi,_,hs,_⟩:=Ctx.info ho
 refine⟨.pointer (some ⟨b,off + n.toNat * es,none⟩),fun _ _ _ _ w' _=>?_,⟨b,_,rfl,hb,hX,hcell⟩⟩
 have hlt:n < (n':Int):=by omega
 simp [execOp,Instr.indexAt,hv,evI m hy,asIntOf,run_underlying (Ctx.slice ht),h0,hlt,dl hi,hs,hc,Addr.add_at]
theorem ev_index_map {α:Type} {es:Nat} {l:List α} {f:α→List D} {n:Int} {j:Nat} (ht:Γ.sh t = .slice t') (hc:Γ.cells t' = es) (hkn:(Γ.sh t').known=true) (hx:a8 L x = .d (.slice es (l.map f))) (hy:a8 L y = .d (.int .i64 n))
  (hn:n=j) (h1:j < l.length):Ev Γ k L H (.indexAddr t x y) ty (.pd (f (l[j]'h1))):=by
 subst hn
 have:=ev_index_d (Γ:=Γ) (k:=k) (L:=L) (H:=H) (ty:=ty) (t:=t) (x:=x) (y:=y) ht hc hkn hx hy (by omega) (by simpa using h1)
 simpa using this
theorem ev_fieldAddr {s:TypeId} {f off fty sz:Nat} {l} {a0 a1:SV} (hs:Γ.sh s = .struct l) (hf:l[f]? = some (off,fty,sz)) (hz:Nat.beq sz 0=false)
  (hx:a8 L x=a0) (ha:(∃ ds,a0 = .pd ds∧a1 = .pd (ds.drop off))∨(∃ i o,a0 = .loc i o∧a1 = .loc i (o + off))∨(∃ i j es o,a0 = .prow i j es o∧a1 = .prow i j es (o + off))) :
  Ev Γ k L H (.fieldAddr s x f) ty a1:=by
 obtain⟨fs,hu,hl⟩:=Ctx.struct hs
 subst hl
 rw [List.getElem?_map] at hf
 cases hff:fs.toList[f]? with
 | none=>rw [hff] at hf;cases hf
 | some fd =>
  rw [hff] at hf
  simp only [Option.map_some,Option.some.injEq,Prod.mk.injEq] at hf
  obtain⟨h1,h2,h3⟩:=hf
  have hfa:fs[f]? = some fd:=by rw [← Array.getElem?_toList];exact hff
  have hinf:∃ inf,Γ.P.info? fd.type=some inf∧inf.size≠0:=by
   cases hi:Γ.P.info? fd.type with
   | none=>rw [hi] at h3;exact absurd h3.symm (Nat.ne_of_beq_eq_false hz)
   | some inf=>rw [hi] at h3;exact⟨inf,rfl,fun h=>Nat.ne_of_beq_eq_false hz (by rw [← h3,← h];rfl)⟩
  obtain⟨inf,hi,hne⟩:=hinf
  have run:∀ (b o:Nat) (A:Act) (dst:Option Tmp) pos after guard w',A.eval x = .pointer (some ⟨b,o,none⟩) →
    (execOp A.eval ⟨dst,.fieldAddr s x f,ty,pos,after,guard⟩).run Γ.P w' = .ok (.value (.pointer (some ⟨b,o + off,none⟩))) w':=by
   intro b o A dst pos after guard w' hA
   simp [execOp,Instr.fieldAt,hA,run_underlying hu,hfa,Instr.sureAddr,fieldPlace,dl hi,hne,h1,Addr.add_at]
  intro e A w m
  rcases ha with ⟨ds,rfl,rfl⟩|⟨i,o,rfl,rfl⟩|⟨i,j,es,o,rfl,rfl⟩
  ·obtain⟨b,o,hv,hb,hX,hcell⟩:=evT m hx (cSV_pd · _)
   refine⟨_,fun dst pos after guard w' _=>run b o A dst pos after guard w' hv,⟨b,_,rfl,hb,hX,fun j hj=>?_⟩⟩
   have hj':off + j < ds.length:=by simp at hj;omega
   obtain⟨u,g1,g2⟩:=hcell (off + j) hj'
   exact⟨u,by rw [Nat.add_assoc];exact g1,by simpa using g2⟩
  ·obtain⟨hid,hv⟩:=evT m hx (cSV_loc · _ _)
   exact⟨_,fun dst pos after guard w' _=>run _ o A dst pos after guard w' hv,⟨hid,rfl⟩⟩
  ·obtain⟨hid,g,n,cap,h5,hv⟩:=evT m hx (cSV_prow · _ _ _ _)
   exact⟨_,fun dst pos after guard w' _=>run _ _ A dst pos after guard w' hv,⟨hid,g,n,cap,h5,by rw [Nat.add_assoc]⟩⟩
theorem ev_field_pd {s:TypeId} {f off fty sz:Nat} {l} {ds:List D} (hs:Γ.sh s = .struct l) (hf:l[f]? = some (off,fty,sz)) (hz:Nat.beq sz 0=false) (hx:a8 L x = .pd ds):Ev Γ k L H (.fieldAddr s x f) ty (.pd (ds.drop off)) :=
 ev_fieldAddr hs hf hz hx (.inl ⟨ds,rfl,rfl⟩)
theorem ev_field_loc {s:TypeId} {f off fty sz i o:Nat} {l} (hs:Γ.sh s = .struct l) (hf:l[f]? = some (off,fty,sz)) (hz:Nat.beq sz 0=false) (hx:a8 L x = .loc i o):Ev Γ k L H (.fieldAddr s x f) ty (.loc i (o + off)) :=
 ev_fieldAddr hs hf hz hx (.inr (.inl ⟨i,o,rfl,rfl⟩))
theorem ev_field_prow {s:TypeId} {f off fty sz i j es o:Nat} {l} (hs:Γ.sh s = .struct l) (hf:l[f]? = some (off,fty,sz)) (hz:Nat.beq sz 0=false) (hx:a8 L x = .prow i j es o):Ev Γ k L H (.fieldAddr s x f) ty (.prow i j es (o + off)) :=
 ev_fieldAddr hs hf hz hx (.inr (.inr ⟨i,j,es,o,rfl,rfl⟩))
theorem run_load1 (ho:Γ.sh t≠.other) (hg:(Γ.sh t).isAgg=false) {A:Act} {p:Addr} {v:Value} {w':World} (hA:A.eval x = .pointer (some p)) (hc:w'.cell? p=some v) (dst:Option Tmp) (pos) (after) (guard) :
  (execOp A.eval ⟨dst,.load t x,ty,pos,after,guard⟩).run Γ.P w' = .ok (.value v) w':=by
 simp [execOp,Instr.loadAt,hA,Instr.sureAddr,loadVar,Ctx.agg ho,hg,hc]
theorem ix {w w':World} (hb:Below w.heap.size w w') {p:Addr} {v:Value} (h:w.cell? p=some v):w'.cell? p=some v:=by
 rw [hb.cell (World.block_lt_of_cell? w p h)];exact h
theorem ev_load_pd {d0:D} {ds:List D} (hkn:(Γ.sh t).known=true) (hg:(Γ.sh t).isAgg=false) (hx:a8 L x = .pd (d0::ds)):Ev Γ k L H (.load t x) ty (.d d0):=by
 intro e a w m
 have ho:=Sh.known_ne hkn
 obtain⟨b,off,hv,hb,hX,hcell⟩:=evT m hx (cSV_pd · _)
 obtain⟨u,g1,g2⟩:=hcell 0 (by simp)
 exact⟨u,fun _ _ _ _ w' hw=>run_load1 ho hg hv (ix hw g1) _ _ _ _,g2⟩
theorem HRel.blk_cell {X e w} {id:Nat} {te:TypeId} {cs:List SV} (h:HRel X e w (id,.blk te cs)) {o:Nat} {s:SV} (hc:cs[o]? = some s):∃ v,w.cell? ⟨e.β id,o,none⟩=some v∧Rel X e w s v:=by
 obtain⟨vs,h1,h2,_⟩:=h
 obtain⟨v,g1,g2⟩:=RelL.get cs vs h2 o s hc
 exact⟨v,by rw [cell_of_row w _ o _ te (0,0) h1];simpa using g1,g2⟩
theorem ev_load_loc {i o:Nat} {te:TypeId} {cs:List SV} {s:SV} (hkn:(Γ.sh t).known=true) (hg:(Γ.sh t).isAgg=false) (hx:a8 L x = .loc i o) (hH:Hp.get H i=some (.blk te cs)) (hc:cs[o]? = some s) :
  Ev Γ k L H (.load t x) ty s:=by
 intro e a w m
 have ho:=Sh.known_ne hkn
 obtain⟨_,hv⟩:=evT m hx (cSV_loc · _ _)
 obtain⟨v,g1,g2⟩:=HRel.blk_cell (m.heap _ (Hp.mem_of hH)).2 hc
 exact⟨v,fun _ _ _ _ w' hw=>run_load1 ho hg hv (ix hw g1) _ _ _ _,g2⟩
theorem ev_nilCheck {s:SV} (hx:a8 L x=s) (hs:(∃ ds,s = .pd ds)∨(∃ i o,s = .loc i o)∨(∃ i j es o,s = .prow i j es o)):Ev Γ k L H (.nilCheck x) ty s:=by
 intro e a w m
 have hv:∃ p,a.eval x = .pointer (some p)∧Rel (Γ.X e H) e w s (a.eval x):=by
  rcases hs with ⟨ds,rfl⟩|⟨i,o,rfl⟩|⟨i,j,es,o,rfl⟩
  ·have hr:=evT m hx (cSV_pd · _);obtain⟨b,off,hv,_⟩:=hr;exact⟨_,hv,evT m hx (cSV_pd · _)⟩
  ·have hr:=evT m hx (cSV_loc · _ _);exact⟨_,hr.2,hr⟩
  ·have hr:=evT m hx (cSV_prow · _ _ _ _);obtain⟨_,g,n,cap,_,hv⟩:=hr;exact⟨_,hv,evT m hx (cSV_prow · _ _ _ _)⟩
 obtain⟨p,hv,hr⟩:=hv
 exact⟨a.eval x,fun _ _ _ _ w' _=>by simp [execOp,hv],hr⟩
theorem cSV_ptr (v:Value) (ds:List D):cSV v≠.d (.ptr ds):=by unfold cSV;split <;> simp
theorem ev_nilPtr {ds:List D} (hx:a8 L x = .d (.ptr ds)):Ev Γ k L H (.nilCheck x) ty (.pd ds):=by
 intro e a w m
 have hr:RepC (Γ.X e H) w (a.eval x) (.ptr ds):=evT m hx (cSV_ptr · _)
 obtain⟨v,hv⟩:∃ v,v=a.eval x:=⟨_,rfl⟩
 rw [← hv] at hr
 cases hr with
 | @ptr b off ds c h1 h2 h3 h4 =>
  exact⟨a.eval x,fun _ _ _ _ w' _=>by simp [execOp,← hv],b,off,hv.symm,h2,h1,fun j hj=>⟨c j,h3 j hj,h4 j hj⟩⟩
theorem ev_extract {i:Nat} {ss:List SV} {s:SV} (hx:a8 L x = .tup ss) (hi:ss[i]? = some s):Ev Γ k L H (.extract x i) ty s:=by
 intro e a w m
 obtain⟨vs,hv,hr⟩:=evT m hx (cSV_tup · _)
 obtain⟨v,g1,g2⟩:=RelL.get ss vs hr i s hi
 exact⟨v,fun _ _ _ _ w' _=>by simp [execOp,Instr.extract,hv,g1],g2⟩
theorem RelL.drop {X e w}:∀ (ss:List SV) (vs:List Value),RelL X e w ss vs→∀ n,RelL X e w (ss.drop n) (vs.drop n)
 | _,_,h,0=>h
 | [],[],_,_ + 1=>trivial
 | [],_::_,h,_=>h.elim
 | _::_,[],h,_=>h.elim
 | _::ss,_::vs,⟨_,h⟩,n + 1=>RelL.drop ss vs h n
theorem RelL.take {X e w}:∀ (ss:List SV) (vs:List Value),RelL X e w ss vs→∀ n,RelL X e w (ss.take n) (vs.take n)
 | _,_,_,0=>by simp [RelL]
 | [],[],_,_ + 1=>trivial
 | [],_::_,h,_=>h.elim
 | _::_,[],h,_=>h.elim
 | _::ss,_::vs,⟨h1,h2⟩,n + 1=>⟨h1,RelL.take ss vs h2 n⟩
theorem RelL.append {X e w}:∀ (ss:List SV) (vs:List Value) (ss':List SV) (vs':List Value),RelL X e w ss vs→RelL X e w ss' vs'→RelL X e w (ss++ss') (vs++vs')
 | [],[],_,_,_,h=>h
 | [],_::_,_,_,h,_=>h.elim
 | _::_,[],_,_,h,_=>h.elim
 | _::ss,_::vs,ss',vs',⟨h1,h2⟩,h=>⟨h1,RelL.append ss vs ss' vs' h2 h⟩
theorem HRel.blk_cells {X e w} {id:Nat} {te:TypeId} {cs:List SV} (h:HRel X e w (id,.blk te cs)) (o n:Nat) (hn:o + n≤cs.length) :
  ∃ vs:List Value,vs.length=n∧(∀ j v,vs[j]? = some v→w.cell? ((⟨e.β id,o,none⟩:Addr).add j)=some v)∧RelL X e w ((cs.drop o).take n) vs∧∀ v∈vs,v.oneCell' = true:=by
 obtain⟨vs,h1,h2,h3⟩:=h
 have hl:=RelL.length _ _ h2
 refine⟨(vs.drop o).take n,by simp;omega,fun j v hj=>?_,RelL.take _ _ (RelL.drop _ _ h2 o) n,fun v hv=>h3 v (List.mem_of_mem_drop (List.mem_of_mem_take hv))⟩
 rw [Addr.add_at,cell_of_row w _ _ _ te (0,0) h1]
 rw [List.getElem?_take] at hj
 split at hj
 ·simpa using hj
 ·cases hj
theorem run_load_agg (ho:Γ.sh t≠.other) (hg:(Γ.sh t).isAgg=true) {p:Addr} {vs:List Value} {w':World} (hn:vs.length=Γ.cells t) (hc:∀ j v,vs[j]? = some v→w'.cell? (p.add j)=some v) :
  (loadVar t p).run Γ.P w' = .ok (.agg vs.toArray) w':=by
 obtain⟨inf,z,hi,_,hs,_⟩:=Ctx.info ho
 have:=run_loadCells_list (P:=Γ.P) (w:=w') p vs hc
 rw [hn,← hs] at this
 simp [loadVar,Ctx.agg ho,hg,dl hi,this]
theorem ev_load_agg_loc {i o:Nat} {te:TypeId} {cs:List SV} {l} (ht:Γ.sh t = .struct l) (hx:a8 L x = .loc i o) (hH:Hp.get H i=some (.blk te cs)) (hn:Nat.ble (o + Γ.cells t) cs.length=true) :
  Ev Γ k L H (.load t x) ty (.agg ((cs.drop o).take (Γ.cells t))):=by
 intro e a w m
 obtain⟨_,hv⟩:=evT m hx (cSV_loc · _ _)
 obtain⟨vs,g1,g2,g3,_⟩:=HRel.blk_cells (m.heap _ (Hp.mem_of hH)).2 o (Γ.cells t) (Nat.le_of_ble_eq_true hn)
 have ho:Γ.sh t≠.other:=by rw [ht];intro h;cases h
 refine⟨.agg vs.toArray,fun _ _ _ _ w' hw=>?_,⟨vs,rfl,g3⟩⟩
 have hr:=run_load_agg (Γ:=Γ) (t:=t) (w':=w') (p:=⟨e.β i,o,none⟩) ho (by rw [ht];rfl) g1 (fun j v hj=>ix hw (g2 j v hj))
 simp [execOp,Instr.loadAt,hv,Instr.sureAddr,hr]
theorem ev_load_agg_pd {ds:List D} {l} (ht:Γ.sh t = .struct l) (hx:a8 L x = .pd ds) (hnb:Nat.ble (Γ.cells t) ds.length=true):Ev Γ k L H (.load t x) ty (.agg ((ds.take (Γ.cells t)).map .d)):=by
 intro e a w m
 have hn:=Nat.le_of_ble_eq_true hnb
 obtain⟨b,off,hv,hb,hX,hcell⟩:=evT m hx (cSV_pd · _)
 have ho:Γ.sh t≠.other:=by rw [ht];intro h;cases h
 have key:∀ n,n≤ds.length→∃ vs:List Value,vs.length=n∧(∀ j v,vs[j]? = some v→w.cell? ((⟨b,off,none⟩:Addr).add j)=some v)∧RelL (Γ.X e H) e w ((ds.take n).map .d) vs:=by
  intro n
  induction n with
  | zero=>intro _;exact⟨[],rfl,by simp,by simp [RelL]⟩
  | succ n ih =>
   intro hle
   obtain⟨vs,h1,h2,h3⟩:=ih (by omega)
   obtain⟨u,g1,g2⟩:=hcell n (by omega)
   refine⟨vs++[u],by simp [h1],fun j v hj=>?_,?_⟩
   ·by_cases hlt:j < vs.length
    ·rw [List.getElem?_append_left hlt] at hj;exact h2 j v hj
    ·rw [List.getElem?_append_right (by omega)] at hj
     have:j=n:=by
      rcases Nat.lt_or_ge (j - vs.length) 1 with h|h
      ·omega
      ·rw [List.getElem?_eq_none (by simpa using h)] at hj;cases hj
     subst this
     rw [Addr.add_at]
     simp [h1] at hj
     rw [← hj];exact g1
   ·rw [List.take_succ_eq_append_getElem (by omega),List.map_append]
    exact RelL.append _ _ _ _ h3 ⟨g2,trivial⟩
 obtain⟨vs,g1,g2,g3⟩:=key _ hn
 refine⟨.agg vs.toArray,fun _ _ _ _ w' hw=>?_,⟨vs,rfl,g3⟩⟩
 have hr:=run_load_agg (Γ:=Γ) (t:=t) (w':=w') (p:=⟨b,off,none⟩) ho (by rw [ht];rfl) g1 (fun j v hj=>ix hw (g2 j v hj))
 simp [execOp,Instr.loadAt,hv,Instr.sureAddr,hr]
end
end Go.Proofs.YtapciiffpnociaaGreat
