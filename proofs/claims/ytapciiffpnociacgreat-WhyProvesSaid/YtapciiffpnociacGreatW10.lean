/- Several texts in one: ScoP ScoE GxNil StrA RelD ShS GxRow GxLaw. Condition: none. -/
import Derived.Test.YtapciiffpnociacGreatW08
import Derived.Test.YtapciiffpnociacGreatW09
import Derived.Lib.SliceRun
import Derived.Shelf.SlSortCmp.NoneTotal
import Derived.Ground.SlsfProg
import Derived.Test.YtapciiffpnociacGreatProg
import Derived.Test.YtapciiffpnociacGreatW07
import Derived.ProofKit
import Derived.SizedLaws
import Derived.Carry
import Derived.ChangeSame
import Derived.JoinedCond
namespace Go.Proofs.YtapciiffpnociacGreat
structure Trm where
 var:Int
 n:Int
structure Ltl where
 kind:Int
 op:Int
 pred:Int
 terms:List Trm
structure Rul where
 pred:Int
 terms:List Trm
 fold:Int
 body:List Ltl
 vars:Int
structure Prg where
 arity:List Int
 names:List ByteArray
 rules:List Rul
def ce {α:Type} (f:α→Int):List α→Int
 | []=>0
 | x::l=>if f x≠0 then f x else ce f l
theorem firstL_step {α:Type} {f:α→Int} {l:List α} {i:Nat} (hi:i < l.length):ce f (l.drop i)=if f l[i]≠0 then f l[i] else ce f (l.drop (i + 1)):=by
 rw [List.drop_eq_getElem_cons hi];rfl
theorem firstL_end {α:Type} {f:α→Int} {l:List α} {i:Nat} (hi:l.length≤i):ce f (l.drop i)=0:=by
 rw [List.drop_of_length_le hi];rfl
def firstI (f:Nat→Int):Nat→Nat→Int
 | _,0=>0
 | i,k + 1=>if f i≠0 then f i else firstI f (i + 1) k
theorem firstI_step {f:Nat→Int} {n i:Nat} (h:i < n):firstI f i (n - i)=if f i≠0 then f i else firstI f (i + 1) (n - (i + 1)):=by
 rw [show n - i=(n - (i + 1)) + 1 by omega];rfl
theorem firstI_end {f:Nat→Int} {n i:Nat} (h:n≤i):firstI f i (n - i)=0:=by
 rw [show n - i=0 by omega];rfl
def termE (vars:Int) (t:Trm):Int:=if inR t.var (-1) (vars - 1)=false then 5 else if numB t.n=false∨(0≤t.var∧t.n≠0) then 3 else 0
def termsE (vars:Int) (l:List Trm):Int:=ce (termE vars) l
def opB (kind n:Int):Bool:=if kind=3 then inR n 1 4 else if kind=4 then inR n 5 7 else decide (n=0)
def litE (arity:List Int) (vars:Int) (l:Ltl):Int :=
 if inR l.kind 1 4=false then 7
 else if opB l.kind l.op=false then 3
 else if l.kind=1∨l.kind=2 then
  if inR l.pred 0 ((arity.length:Int) - 1)=false then 5
  else if (l.terms.length:Int)≠arity.getD l.pred.toNat 0 then 1
  else termsE vars l.terms
 else if l.pred≠0∨(l.terms.length:Int)≠l.kind - 1 then 1
 else termsE vars l.terms
def isT (bs:List Bool) (t:Trm):Bool:=decide (t.var < 0) || bs.getD t.var.toNat false
def setT (bs:List Bool) (t:Trm):List Bool:=if t.var < 0 then bs else bs.set t.var.toNat true
def cd (bs:List Bool) (l:Ltl):Bool:=decide (l.kind=1) || (decide (l.kind=4) && (l.terms.take 2).all (isT bs))
def litTs (l:Ltl):List Trm:=if l.kind=1 then l.terms else l.terms.drop 2
def bLit (bs:List Bool) (l:Ltl):List Bool:=if cd bs l then (litTs l).foldl setT bs else bs
def bRound (body:List Ltl) (bs:List Bool):List Bool:=body.foldl bLit bs
def bIter (body:List Ltl):Nat→List Bool→List Bool
 | 0,bs=>bs
 | n + 1,bs=>bIter body n (bRound body bs)
def boundL (r:Rul):List Bool:=bIter r.body (r.body.length + 1) (List.replicate r.vars.toNat false)
def safeB (r:Rul):Bool:=(boundL r).all id
def ruleE (arity:List Int) (r:Rul):Int :=
 if inR r.pred 0 ((arity.length:Int) - 1)=false then 5
 else if (r.terms.length:Int)≠arity.getD r.pred.toNat 0 then 1
 else if inR r.vars 0 8=false then 3
 else if termsE r.vars r.terms≠0 then termsE r.vars r.terms
 else if inR r.fold 0 4=false then 7
 else if r.fold≠0∧(r.terms.length=0∨r.body.length=0) then 1
 else if 4 < r.body.length then 2
 else if ce (litE arity r.vars) r.body≠0 then ce (litE arity r.vars) r.body
 else if safeB r=false then 4
 else 0
def nameE (nameB:ByteArray→Bool) (p:Prg) (i:Nat):Int :=
 if inR (p.arity.getD i 0) 0 3=false then 3
 else if nameB (p.names.getD i ⟨#[]⟩)=false then 1
 else if (p.names.take i).any (fun s=>decide (s=p.names.getD i ⟨#[]⟩)) then 6
 else 0
def progE (nameB:ByteArray→Bool) (p:Prg):Int :=
 if 10 < p.arity.length∨12 < p.rules.length then 2
 else if p.names.length≠p.arity.length then 1
 else if firstI (nameE nameB p) 0 p.names.length≠0 then firstI (nameE nameB p) 0 p.names.length
 else ce (ruleE p.arity) p.rules
theorem setT_len (bs:List Bool) (t:Trm):(setT bs t).length=bs.length:=by unfold setT;split <;> simp
theorem setTs_len:∀ (l:List Trm) (bs:List Bool),(l.foldl setT bs).length=bs.length
 | [],_=>rfl
 | t::l,bs=>by rw [List.foldl_cons,setTs_len l,setT_len]
theorem bLit_len (bs:List Bool) (l:Ltl):(bLit bs l).length=bs.length:=by unfold bLit;split;exact setTs_len _ _;rfl
theorem bRound_len:∀ (body:List Ltl) (bs:List Bool),(bRound body bs).length=bs.length
 | [],_=>rfl
 | l::body,bs=>by
  have:=bRound_len body (bLit bs l)
  rw [bLit_len] at this
  exact this
theorem bIter_len (body:List Ltl):∀ (n:Nat) (bs:List Bool),(bIter body n bs).length=bs.length
 | 0,_=>rfl
 | n + 1,bs=>by rw [bIter,bIter_len body n,bRound_len]
def leB (a b:List Bool):Prop:=a.length=b.length∧∀ i,a.getD i false=true→b.getD i false=true
theorem leB.refl (a:List Bool):leB a a:=⟨rfl,fun _ h=>h⟩
theorem leB.trans {a b c:List Bool} (h:leB a b) (g:leB b c):leB a c:=⟨h.1.trans g.1,fun i hi=>g.2 i (h.2 i hi)⟩
theorem setT_le (bs:List Bool) (t:Trm):leB bs (setT bs t):=by
 refine⟨(setT_len _ _).symm,fun i h=>?_⟩
 unfold setT
 split
 ·exact h
 ·simp only [List.getD,List.getElem?_set] at h ⊢
  split
  ·rename_i hi
   rw [hi]
   by_cases hl:i < bs.length
   ·simp [hl]
   ·rw [List.getElem?_eq_none (by omega)] at h;cases h
  ·exact h
theorem setTs_le:∀ (l:List Trm) (bs:List Bool),leB bs (l.foldl setT bs)
 | [],bs=>leB.refl bs
 | t::l,bs=>(setT_le bs t).trans (setTs_le l _)
theorem bLit_le (bs:List Bool) (l:Ltl):leB bs (bLit bs l):=by unfold bLit;split;exact setTs_le _ _;exact leB.refl _
theorem bRound_le:∀ (body:List Ltl) (bs:List Bool),leB bs (bRound body bs)
 | [],bs=>leB.refl bs
 | l::body,bs=>(bLit_le bs l).trans (bRound_le body _)
theorem isT_mono {a b:List Bool} (h:leB a b) {t:Trm} (ht:isT a t=true):isT b t=true:=by
 unfold isT at ht ⊢
 rw [Bool.or_eq_true] at ht ⊢
 exact ht.imp id (h.2 _)
theorem fires_mono {a b:List Bool} (h:leB a b) {l:Ltl} (hl:cd a l=true):cd b l=true:=by
 unfold cd at hl ⊢
 simp only [Bool.or_eq_true,Bool.and_eq_true,List.all_eq_true] at hl ⊢
 exact hl.imp id fun⟨g1,g2⟩=>⟨g1,fun t ht=>isT_mono h (g2 t ht)⟩
theorem setT_same {bs:List Bool} {t:Trm} (h:isT bs t=true):setT bs t=bs:=by
 unfold isT at h
 unfold setT
 split
 ·rfl
 ·rename_i hn
  rw [decide_eq_false hn,Bool.false_or] at h
  simp only [List.getD] at h
  cases hg:bs[t.var.toNat]? with
  | none=>rw [hg] at h;cases h
  | some b =>
   rw [hg] at h
   simp only [Option.getD_some] at h
   subst h
   have hlt:=(List.getElem?_eq_some_iff.1 hg).1
   refine List.ext_getElem? fun i=>?_
   rw [List.getElem?_set]
   split
   ·rename_i hi;subst hi;exact hg.symm
   ·rfl
theorem setTs_same:∀ {l:List Trm} {bs:List Bool},(∀ t∈l,isT bs t=true)→l.foldl setT bs=bs
 | [],_,_=>rfl
 | t::l,bs,h=>by
  rw [List.foldl_cons,setT_same (h t (List.mem_cons_self ..))]
  exact setTs_same fun x hx=>h x (List.mem_cons_of_mem _ hx)
def okT (v:Nat) (t:Trm):Prop:=t.var < (v:Int)
theorem setT_is {bs:List Bool} {t:Trm} (h:okT bs.length t):isT (setT bs t) t=true:=by
 unfold isT setT
 unfold okT at h
 split
 ·rename_i hn;rw [decide_eq_true hn];rfl
 ·rename_i hn
  rw [decide_eq_false hn,Bool.false_or]
  simp only [List.getD,List.getElem?_set]
  have:t.var.toNat < bs.length:=by omega
  simp [this]
theorem setTs_is:∀ {l:List Trm} {bs:List Bool},(∀ t∈l,okT bs.length t)→∀ t∈l,isT (l.foldl setT bs) t=true
 | [],_,_,t,ht=>by simp at ht
 | x::l,bs,h,t,ht=>by
  rw [List.foldl_cons]
  rcases List.mem_cons.1 ht with rfl|ht
  ·exact isT_mono (setTs_le l _) (setT_is (h t (List.mem_cons_self ..)))
  ·exact setTs_is (bs:=setT bs x) (fun y hy=>by rw [setT_len];exact h y (List.mem_cons_of_mem _ hy)) t ht
theorem bLit_same {bs:List Bool} {l:Ltl} (h:cd bs l=true→∀ t∈litTs l,isT bs t=true):bLit bs l=bs:=by
 unfold bLit
 split
 ·rename_i hf;exact setTs_same (h hf)
 ·rfl
theorem bRound_same:∀ {body:List Ltl} {bs:List Bool},(∀ l∈body,cd bs l=true→∀ t∈litTs l,isT bs t=true)→bRound body bs=bs
 | [],_,_=>rfl
 | l::body,bs,h=>by
  show bRound body (bLit bs l)=bs
  rw [bLit_same (h l (List.mem_cons_self ..))]
  exact bRound_same fun x hx=>h x (List.mem_cons_of_mem _ hx)
theorem bRound_done:∀ {body:List Ltl} {bs:List Bool},(∀ l∈body,∀ t∈litTs l,okT bs.length t)→∀ l∈body,cd bs l=true→∀ t∈litTs l,isT (bRound body bs) t=true
 | [],_,_,l,hl,_,_,_=>by simp at hl
 | x::body,bs,hok,l,hl,hf,t,ht=>by
  show isT (bRound body (bLit bs x)) t=true
  rcases List.mem_cons.1 hl with rfl|hl
  ·refine isT_mono (bRound_le body _) ?_
   unfold bLit
   rw [if_pos hf]
   exact setTs_is (hok l (List.mem_cons_self ..)) t ht
  ·exact bRound_done (bs:=bLit bs x) (fun y hy z hz=>by rw [bLit_len];exact hok y (List.mem_cons_of_mem _ hy) z hz) l hl (fires_mono (bLit_le bs x) hf) t ht
def nFire (body:List Ltl) (bs:List Bool):Nat:=(body.filter (cd bs)).length
theorem nFire_mono {a b:List Bool} (h:leB a b):∀ (body:List Ltl),nFire body a≤nFire body b
 | []=>Nat.le_refl _
 | l::body=>by
  have ih:=nFire_mono h body
  unfold nFire at ih ⊢
  rw [List.filter_cons,List.filter_cons]
  cases ha:cd a l with
  | true=>rw [fires_mono h ha];simpa using ih
  | false =>
   cases hb:cd b l with
   | true=>simp;omega
   | false=>simpa using ih
theorem nFire_same {a b:List Bool} (h:leB a b):∀ {body:List Ltl},nFire body b≤nFire body a→∀ l∈body,cd b l=true→cd a l=true
 | [],_,l,hl,_=>by simp at hl
 | x::body,hn,l,hl,hf=>by
  have ih:=nFire_mono h body
  have ihs:=@nFire_same a b h body
  unfold nFire at hn ih ihs
  rw [List.filter_cons,List.filter_cons] at hn
  rcases List.mem_cons.1 hl with rfl|hl
  ·cases ha:cd a l with
   | true=>rfl
   | false=>rw [hf,ha] at hn;simp at hn;omega
  ·refine ihs ?_ l hl hf
   cases ha:cd a x with
   | true=>rw [ha,fires_mono h ha] at hn;simpa using hn
   | false =>
    cases hb:cd b x with
    | true=>rw [ha,hb] at hn;simp at hn;omega
    | false=>rw [ha,hb] at hn;simpa using hn
theorem bIter_succ (body:List Ltl):∀ (n:Nat) (bs:List Bool),bIter body (n + 1) bs=bRound body (bIter body n bs)
 | 0,_=>rfl
 | n + 1,bs=>by rw [bIter,bIter_succ body n];rfl
theorem bIter_rest {body:List Ltl} {bs:List Bool} (hok:∀ l∈body,∀ t∈litTs l,okT bs.length t):∀ n,bRound body (bIter body n bs)=bIter body n bs∨n + 1≤nFire body (bIter body n bs)
 | 0=>by
  by_cases h:nFire body bs=0
  ·left
   refine bRound_same fun l hl hf=>?_
   have:l∈body.filter (cd bs):=List.mem_filter.2 ⟨hl,hf⟩
   unfold nFire at h
   rw [List.eq_nil_of_length_eq_zero h] at this
   simp at this
  ·right;show 1≤nFire body bs;omega
 | n + 1=>by
  rcases bIter_rest hok n with h|h
  ·left;rw [bIter_succ,h,h]
  ·have hle:=bRound_le body (bIter body n bs)
   have hm:=nFire_mono hle body
   by_cases hn:nFire body (bRound body (bIter body n bs))≤nFire body (bIter body n bs)
   ·left
    rw [bIter_succ]
    refine bRound_same fun l hl hf=>?_
    exact bRound_done (fun x hx t ht=>by rw [bIter_len];exact hok x hx t ht) l hl (nFire_same hle hn l hl hf)
   ·right;rw [bIter_succ];omega
theorem bRound_rest {body:List Ltl} {bs:List Bool} (hok:∀ l∈body,∀ t∈litTs l,okT bs.length t):bRound body (bIter body body.length bs)=bIter body body.length bs:=by
 rcases bIter_rest hok body.length with h|h
 ·exact h
 ·have:=List.length_filter_le (cd (bIter body body.length bs)) body
  unfold nFire at h
  omega
theorem bIter_fix {body:List Ltl} {bs:List Bool} (h:bRound body bs=bs):∀ n,bIter body n bs=bs
 | 0=>rfl
 | n + 1=>by rw [bIter,h,bIter_fix h n]
theorem bIter_add (body:List Ltl):∀ (m n:Nat) (bs:List Bool),bIter body (m + n) bs=bIter body n (bIter body m bs)
 | 0,n,bs=>by rw [Nat.zero_add];rfl
 | m + 1,n,bs=>by rw [show m + 1 + n=(m + n) + 1 by omega,bIter,bIter,bIter_add body m n]
theorem rest_is {r:Rul} (hok:∀ l∈r.body,∀ t∈litTs l,okT r.vars.toNat t) {m:Nat} (h:bRound r.body (bIter r.body m (List.replicate r.vars.toNat false))=bIter r.body m (List.replicate r.vars.toNat false)):bIter r.body m (List.replicate r.vars.toNat false)=boundL r:=by
 have h2:=bRound_rest (body:=r.body) (bs:=List.replicate r.vars.toNat false) (by rw [List.length_replicate];exact hok)
 unfold boundL
 rw [bIter_succ,h2]
 rcases Nat.le_total m r.body.length with hm|hm
 ·obtain⟨d,hd⟩:=Nat.exists_eq_add_of_le hm
  rw [hd,bIter_add,bIter_fix h]
 ·obtain⟨d,hd⟩:=Nat.exists_eq_add_of_le hm
  rw [hd,bIter_add,bIter_fix h2]
open Go Go.RowKit
attribute [local irreducible] DW DS DL DQ Ev FnOk FnP thenD b7 DT
def cu (b:Bool):List D:=[.bool b]
def encT (s:ByteArray):List D:=[.str s]
def bm (t:Trm):List D:=[.int .i64 t.var,.int .i64 t.n]
def bp (l:Ltl):List D:=[.int .i64 l.kind,.int .i64 l.op,.int .i64 l.pred,.slice 2 (l.terms.map bm)]
def co (r:Rul):List D:=[.int .i64 r.pred,.slice 2 (r.terms.map bm),.int .i64 r.fold,.slice 4 (r.body.map bp),.int .i64 r.vars]
abbrev elTrm (t:Trm):SV:=.agg [.d (.int .i64 t.var),.d (.int .i64 t.n)]
abbrev elLtl (l:Ltl):SV:=.agg [.d (.int .i64 l.kind),.d (.int .i64 l.op),.d (.int .i64 l.pred),.d (.slice 2 (l.terms.map bm))]
abbrev elRul (r:Rul):SV:=.agg [.d (.int .i64 r.pred),.d (.slice 2 (r.terms.map bm)),.d (.int .i64 r.fold),.d (.slice 4 (r.body.map bp)),.d (.int .i64 r.vars)]
abbrev elPrg (p:Prg):SV:=.agg [.d (.slice 1 (p.arity.map bf)),.d (.slice 1 (p.names.map encT)),.d (.slice 5 (p.rules.map co))]
set_option maxHeartbeats 8000000 in
theorem swithin_fn (n a b:Int):Fn 112 [.d (.int .i64 n),.d (.int .i64 a),.d (.int .i64 b)] (fun r=>r = .d (.bool (inR n a b))):=by
 refine au _ Tryz.func112 rfl rfl (by kernel_rfl) ?_
 intro O w0 E0 β0
 unfold inR
 repeat' (first|refine z0 ?_|refine z12 ?_|apply ag|apply ae|refine z16 ?_|apply ak|apply aa|((fail_if_success (apply a8;exact rfl));apply a6;exact rfl;exact rfl;exact rfl;all_goals intro hg))
 all_goals exact db rfl (by simp_all <;> omega)
set_option maxHeartbeats 8000000 in
theorem snumber_fn (n:Int):Fn 115 [.d (.int .i64 n)] (fun r=>r = .d (.bool (numB n))):=by
 refine au _ Tryz.func115 rfl rfl (by kernel_rfl) ?_
 intro O w0 E0 β0
 unfold numB
 repeat' (first|refine z0 ?_|apply ag|apply ae|refine z16 ?_|apply ak|apply aa|refine z21 ?_ (hc:=by apply swithin_fn)|fail)
 exact db rfl rfl
set_option maxHeartbeats 8000000 in
theorem op_fn (kind n:Int):Fn 184 [.d (.int .i64 kind),.d (.int .i64 n)] (fun r=>r = .d (.bool (opB kind n))):=by
 refine au _ Tryz.func184 rfl rfl (by kernel_rfl) ?_
 intro O w0 E0 β0
 unfold opB
 repeat' (first|refine z0 ?_|apply ag|apply ae|refine z16 ?_|apply ah|apply ai|apply ak|apply aa|apply av|apply aw|apply bq|refine z21 ?_ (hc:=by apply swithin_fn)|(refine z23 ?_ ?_ <;> intro hg)|fail)
 all_goals exact db rfl (by simp_all <;> omega)
set_option maxHeartbeats 8000000 in
theorem terms_fn (l:List Trm) (vars:Int) (h0:0≤vars) (h8:vars≤8):Fn 156 [.d (.slice 2 (l.map bm)),.d (.int .i64 vars)] (fun r=>r = .d (.int .i64 (termsE vars l))):=by
 refine au _ Tryz.func156 rfl rfl (by kernel_rfl) ?_
 intro O w0 E0 β0
 have la:(l.map bm).length=l.length:=List.length_map _
 unfold termsE
 repeat' (first|refine z0 ?_|apply ag|apply ae|refine z16 ?_|apply ah|apply aa)
 refine dw_len (t:=7) rfl (fun hk=>?_)
 refine bh (ι:=Nat) (fun i=>⟨0,[(1,.d (.int .i64 vars)),(4,.d (.int .i64 0)),(7,.d (.slice 2 (l.map bm))),(8,.d (.int .i64 (l.map bm).length)),(9,.d (.int .i64 i))],[]⟩)
  (fun i=>i≤l.length∧ce (termE vars) l=ce (termE vars) (l.drop i)) (fun i=>l.length - i) 0 ⟨Nat.zero_le _,rfl⟩ (aj id ⟨rfl,rfl,rfl,rfl,rfl,trivial⟩ trivial rfl rfl rfl rfl rfl rfl) ?_
 rintro i ⟨g1,g2⟩
 by_cases hi:i < l.length
 ·rw [firstL_step hi,show termE vars l[i]=if inR l[i].var (-1) (vars - 1)=false then 5 else if numB l[i].n=false∨(0≤l[i].var∧l[i].n≠0) then 3 else 0 from rfl] at g2
  repeat' (first|refine z0 ?_|refine z12 ?_|apply ag|apply ae|refine z16 ?_|apply ah|apply ai|apply aq|apply ak|refine z18 ?_|refine z19 ?_|apply aa|apply ap|apply av|apply aw|apply bq|refine z17 ?_|refine z21 ?_ (hc:=by apply swithin_fn)|refine z21 ?_ (hc:=by apply snumber_fn)|refine z1 ?_|refine z3 ?_|(refine z23 ?_ ?_ <;> intro hg)|(apply bu;exact rfl;all_goals intro hg)|((fail_if_success (apply a8;exact rfl));apply a6;exact rfl;exact rfl;exact rfl;all_goals intro hg)|((fail_if_success (apply a8;exact rfl));apply ds_guardB;exact rfl;exact rfl;exact rfl;all_goals intro hg))
  all_goals first
   | exact absurd hg (by omega)
   | exact cb rfl (by rw [g2];simp_all <;> omega)
   | exact⟨i + 1,⟨by omega,by rw [g2];simp_all <;> omega⟩,aj id ⟨rfl,rfl,rfl,rfl,rfl,trivial⟩ trivial rfl rfl rfl rfl rfl rfl,by show l.length - (i + 1) < l.length - i;omega⟩
 ·rw [firstL_end (by omega)] at g2
  repeat' (first|refine z0 ?_|refine z12 ?_|apply ag|apply ae|refine z16 ?_|apply ah|apply ai|apply aq|apply ak|refine z18 ?_|refine z19 ?_|apply aa|apply ap|apply av|apply aw|apply bq|refine z17 ?_|refine z21 ?_ (hc:=by apply swithin_fn)|refine z21 ?_ (hc:=by apply snumber_fn)|refine z1 ?_|refine z3 ?_|(refine z23 ?_ ?_ <;> intro hg)|(apply bu;exact rfl;all_goals intro hg)|((fail_if_success (apply a8;exact rfl));apply a6;exact rfl;exact rfl;exact rfl;all_goals intro hg)|((fail_if_success (apply a8;exact rfl));apply ds_guardB;exact rfl;exact rfl;exact rfl;all_goals intro hg))
  all_goals first
   | exact absurd hg (by omega)
   | exact cb rfl g2.symm
end Go.Proofs.YtapciiffpnociacGreat
namespace Go.Proofs.YtapciiffpnociacGreat
open Go Go.RowKit
section
variable {Γ : Ctx} {k : Nat} {L : Sl} {H : Hp} {K : c6} {ops : List Oper} {rest : List Oper} {t t' ty : TypeId} {x y : Operand}
theorem ds_bs0 {d te:TypeId} {pos:String} {af:Array Edge} {g:Option (Nat × Bool)} {es:Nat} (ht:(bg Γ.τ t).sh = .slice te) (hkn:(bg Γ.τ te).sh.known=true) (hes:(bg Γ.τ te).cells=es) (hpos:Nat.blt 0 es=true) (hz:zeroOk (bg Γ.τ te).zero=true) (hzl:Nat.beq (bg Γ.τ te).zero.length (bg Γ.τ te).cells=true) (hd:Nat.blt d Γ.n=true) (hw:bk ops L g=some true)
  (hk:DS false Γ ops rest K (k + 1) ((d,.row k)::L) ((k,.row te es [])::H)):DS false Γ ops (⟨some d,.buildSlice t 0 #[],ty,pos,af,g⟩::rest) K k L H :=
 dl_op hw ((op_bs0 (lo_not k) ht hkn hes hpos hz hzl hd).cast (with1_lo k)) hk
theorem ds_eqnil {d te:TypeId} {pos:String} {af:Array Edge} {g:Option (Nat × Bool)} {es:Nat} {xs:List (List D)} (hx:bi L x = .d (.slice es xs)) (hy:bi L y = .nils) (ht:(bg Γ.τ t).sh = .slice te) (hd:Nat.blt d Γ.n=true) (hw:bk ops L g=some true)
  (h1:xs=[]→DS false Γ ops rest K k ((d,.d (.bool true))::L) H) (h2:DS false Γ ops rest K k ((d,.d (.bool false))::L) H):DS false Γ ops (⟨some d,.binOp .eql t x y t',ty,pos,af,g⟩::rest) K k L H:=by
 refine dl_run hw fun e a w m=>?_
 obtain⟨ao,cap,hv,_,_,hnone⟩:=(evT m hx (cSV_slice · _ _)).slice_inv
 have hvy:a.eval y = .slice none 0 0:=by
  have hok:opOk y:=by
   cases y with
   | const v=>simp only [bi] at hy;unfold cSV at hy;split at hy <;> simp_all [opOk,cOk]
   | _=>trivial
  have:=m.op y hok
  rw [hy] at this;exact this
 have hrun:(execOp a.eval ⟨some d,.binOp .eql t x y t',ty,pos,af,g⟩).run Γ.P w = .ok (.value (.bool ao.isNone)) w:=by
  simp [execOp,hv,hvy,eqGuard,Lib.run_eql_slice_nil w t te ao xs.length cap 0 0 (Ctx.slice ht)]
 unfold Oper.wp
 rw [hrun]
 cases ao with
 | none=>exact⟨k,_,H,e,m.put (s:=.d (.bool true)) (v:=.bool true) (Nat.le_of_ble_eq_true hd) .bool,h1 (hnone rfl)⟩
 | some ad=>exact⟨k,_,H,e,m.put (s:=.d (.bool false)) (v:=.bool false) (Nat.le_of_ble_eq_true hd) .bool,h2⟩
end
attribute [local irreducible] DW DS DL DQ Ev FnOk FnP thenD b7 DT
set_option maxHeartbeats 8000000 in
theorem cloneI_fn (l:List (Int)) (hl:l.length≤17592186044416):Fn 81 [.d (.slice 1 (l.map bf))] (fun r=>r = .d (.slice 1 (l.map bf))):=by
 refine au _ Tryz.func81 rfl rfl (by kernel_rfl) ?_
 intro O w0 E0 β0
 have la:(l.map bf).length=l.length:=List.length_map _
 repeat' (first|refine z0 ?_|apply ag|apply ae|refine z16 ?_|apply aa)
 refine ds_eqnil rfl rfl rfl rfl rfl (fun h=>?_) ?_
 ·have h0:l=[]:=List.map_eq_nil_iff.1 h
  subst h0
  repeat' (first|refine z0 ?_|apply ag|apply ae|refine z16 ?_|refine z18 ?_|apply aa)
  refine bl (dc 2 1 rfl) ?_
  repeat' (first|apply ak|apply av)
  exact⟨.inl rfl,_,rfl,rfl,rfl⟩
 ·repeat' (first|(apply ds_bs0;exact rfl;exact rfl;exact rfl;exact rfl;exact rfl;exact rfl;exact rfl;exact rfl)|(first|refine z0 ?_|apply ag|apply ae|refine z16 ?_|apply ai|refine z19 ?_|apply aa|refine z2 ?_|fail))
  refine bl (cg 2 rfl rfl rfl) ?_
  repeat' (apply ak)
  exact⟨.inl rfl,_,rfl,rfl,rfl⟩
set_option maxHeartbeats 8000000 in
theorem rsame_fn (a b:Fct):Fn 135 [elFct a,elFct b] (fun r=>r = .d (.bool (decide (c9 a b=0)))):=by
 refine au _ Tryz.func135 rfl rfl (by kernel_rfl) ?_
 intro O w0 E0 β0
 have w:=orderF_fn a b
 repeat' (first|refine z0 ?_|apply ag|apply ae|refine z16 ?_|apply ak|apply aa|refine z21 ?_ (hc:=by apply w)|refine z1 ?_|fail)
 exact db rfl rfl
set_option maxHeartbeats 8000000 in
theorem setAny_fn (a:Fct):Fn 92 [elFct a] (fun r=>r = .d (.bool true)):=by
 refine au _ Tryz.func92 rfl rfl (by kernel_rfl) ?_
 intro O w0 E0 β0
 repeat' (first|refine z0 ?_|apply ag|apply ae|refine z16 ?_|apply ak|apply aa|refine z1 ?_|fail)
 exact db rfl rfl
set_option maxHeartbeats 8000000 in
theorem own_fn (a:Fct) (h:a.args.length≤17592186044416):Fn 117 [elFct a] (fun r=>r=elFct a):=by
 refine au _ Tryz.func117 rfl rfl (by kernel_rfl) ?_
 intro O w0 E0 β0
 have w:=cloneI_fn a.args h
 repeat' (first|apply ag|refine z5 ?_|refine z6 ?_|refine z10 ?_|apply ae|refine z16 ?_|refine z20 ?_|apply ak|apply aa|refine z22 ?_ (hc:=by apply w)|refine z1 ?_|fail)
 exact⟨.inl rfl,_,rfl,rfl,rfl⟩
end Go.Proofs.YtapciiffpnociacGreat
namespace Go.Proofs
open Go.Shelf
def Tryz.sortFacts_ren:Go.Shelf.Ren:=⟨fun|6=>133|15=>132|14=>174|28=>172|29=>173|20=>192|21=>193|22=>194|23=>195|24=>196|25=>197|26=>198|27=>199|46=>207|47=>188|48=>189|49=>208|50=>209|57=>211|n=>n,fun|22=>27|24=>48|25=>79|3=>3|39=>177|0=>0|53=>211|55=>213|4=>4|46=>205|45=>204|50=>148|5=>5|9=>9|66=>227|70=>231|76=>240|77=>218|n=>n,fun|n=>n⟩
theorem Tryz.sortFacts:Go.Proofs.SlLaysF0.n6 Tryz.prog Tryz.sortFacts_ren:={
 mixed:=by kernel_rfl
 f6:=⟨Tryz.f133.name,by decide,Tryz.func133.trans (congrArg some (by kernel_rfl))⟩
 f14:=⟨Tryz.f174.name,by decide,Tryz.func174.trans (congrArg some (by kernel_rfl))⟩
 f15:=Tryz.func132.trans (congrArg some (by kernel_rfl))
 f20:=⟨Tryz.f192.name,by decide,Tryz.func192.trans (congrArg some (by kernel_rfl))⟩
 f21:=⟨Tryz.f193.name,by decide,Tryz.func193.trans (congrArg some (by kernel_rfl))⟩
 f22:=⟨Tryz.f194.name,by decide,Tryz.func194.trans (congrArg some (by kernel_rfl))⟩
 f23:=⟨Tryz.f195.name,by decide,Tryz.func195.trans (congrArg some (by kernel_rfl))⟩
 f24:=⟨Tryz.f196.name,by decide,Tryz.func196.trans (congrArg some (by kernel_rfl))⟩
 f25:=⟨Tryz.f197.name,by decide,Tryz.func197.trans (congrArg some (by kernel_rfl))⟩
 f26:=⟨Tryz.f198.name,by decide,Tryz.func198.trans (congrArg some (by kernel_rfl))⟩
 f27:=⟨Tryz.f199.name,by decide,Tryz.func199.trans (congrArg some (by kernel_rfl))⟩
 f28:=Tryz.func172.trans (congrArg some (by kernel_rfl))
 f29:=Tryz.func173.trans (congrArg some (by kernel_rfl))
 f46:=⟨Tryz.f207.name,by decide,Tryz.func207.trans (congrArg some (by kernel_rfl))⟩
 f47:=Tryz.func188.trans (congrArg some (by kernel_rfl))
 f48:=Tryz.func189.trans (congrArg some (by kernel_rfl))
 f49:=⟨Tryz.f208.name,by decide,Tryz.func208.trans (congrArg some (by kernel_rfl))⟩
 f50:=⟨Tryz.f209.name,by decide,Tryz.func209.trans (congrArg some (by kernel_rfl))⟩
 f57:=⟨Tryz.f211.name,by decide,Tryz.func211.trans (congrArg some (by kernel_rfl))⟩
 t0:=Tryz.underlying0
 a0:=Tryz.isAgg0
 z0:=Tryz.sizeOf0
 v0:=Tryz.zeroValue0
 t3:=Tryz.underlying3
 a3:=Tryz.isAgg3
 z3:=Tryz.sizeOf3
 v3:=Tryz.zeroValue3
 t4:=Tryz.underlying4
 a4:=Tryz.isAgg4
 z4:=Tryz.sizeOf4
 v4:=Tryz.zeroValue4
 t5:=Tryz.underlying5
 a5:=Tryz.isAgg5
 z5:=Tryz.sizeOf5
 v5:=Tryz.zeroValue5
 t9:=Tryz.underlying9
 a9:=Tryz.isAgg9
 z9:=Tryz.sizeOf9
 v9:=Tryz.zeroValue9
 t22:=Tryz.underlying27
 a22:=Tryz.isAgg27
 z22:=Tryz.sizeOf27
 v22:=Tryz.zeroValue27
 t25:=Tryz.underlying79
 a25:=Tryz.isAgg79
 z25:=Tryz.sizeOf79
 v25:=Tryz.zeroValue79
 t39:=Tryz.underlying177
 a39:=Tryz.isAgg177
 z39:=Tryz.sizeOf177
 v39:=Tryz.zeroValue177
 t45:=Tryz.underlying204
 a45:=Tryz.isAgg204
 z45:=Tryz.sizeOf204
 v45:=Tryz.zeroValue204
 t46:=Tryz.underlying205
 a46:=Tryz.isAgg205
 z46:=Tryz.sizeOf205
 v46:=Tryz.zeroValue205
 t50:=Tryz.underlying148
 a50:=Tryz.isAgg148
 z50:=Tryz.sizeOf148
 v50:=Tryz.zeroValue148
 t53:=Tryz.underlying211
 a53:=Tryz.isAgg211
 z53:=Tryz.sizeOf211
 v53:=Tryz.zeroValue211
 t55:=Tryz.underlying213
 a55:=Tryz.isAgg213
 z55:=Tryz.sizeOf213
 v55:=Tryz.zeroValue213
 t66:=Tryz.underlying227
 a66:=Tryz.isAgg227
 z66:=Tryz.sizeOf227
 v66:=Tryz.zeroValue227
 t70:=Tryz.underlying231
 a70:=Tryz.isAgg231
 z70:=Tryz.sizeOf231
 v70:=Tryz.zeroValue231
 t76:=Tryz.underlying240
 a76:=Tryz.isAgg240
 z76:=Tryz.sizeOf240
 v76:=Tryz.zeroValue240
 t77:=Tryz.underlying218
 a77:=Tryz.isAgg218
 z77:=Tryz.sizeOf218
 v77:=Tryz.zeroValue218 }
def Tryz.sortWays_ren:Go.Shelf.Ren:=⟨fun|6=>87|15=>132|14=>131|28=>172|29=>173|20=>164|21=>165|22=>166|23=>167|24=>168|25=>169|26=>170|27=>171|46=>187|47=>188|48=>189|49=>190|50=>191|57=>206|n=>n,fun|22=>28|24=>22|25=>136|3=>3|39=>177|0=>0|53=>211|55=>213|4=>4|46=>205|45=>204|50=>148|5=>5|9=>9|66=>227|70=>231|76=>240|77=>218|n=>n,fun|n=>n⟩
theorem Tryz.sortWays:Go.Proofs.SlLaysF.n6 Tryz.prog Tryz.sortWays_ren:={
 mixed:=by kernel_rfl
 f6:=⟨Tryz.f87.name,by decide,Tryz.func87.trans (congrArg some (by kernel_rfl))⟩
 f14:=⟨Tryz.f131.name,by decide,Tryz.func131.trans (congrArg some (by kernel_rfl))⟩
 f15:=Tryz.func132.trans (congrArg some (by kernel_rfl))
 f20:=⟨Tryz.f164.name,by decide,Tryz.func164.trans (congrArg some (by kernel_rfl))⟩
 f21:=⟨Tryz.f165.name,by decide,Tryz.func165.trans (congrArg some (by kernel_rfl))⟩
 f22:=⟨Tryz.f166.name,by decide,Tryz.func166.trans (congrArg some (by kernel_rfl))⟩
 f23:=⟨Tryz.f167.name,by decide,Tryz.func167.trans (congrArg some (by kernel_rfl))⟩
 f24:=⟨Tryz.f168.name,by decide,Tryz.func168.trans (congrArg some (by kernel_rfl))⟩
 f25:=⟨Tryz.f169.name,by decide,Tryz.func169.trans (congrArg some (by kernel_rfl))⟩
 f26:=⟨Tryz.f170.name,by decide,Tryz.func170.trans (congrArg some (by kernel_rfl))⟩
 f27:=⟨Tryz.f171.name,by decide,Tryz.func171.trans (congrArg some (by kernel_rfl))⟩
 f28:=Tryz.func172.trans (congrArg some (by kernel_rfl))
 f29:=Tryz.func173.trans (congrArg some (by kernel_rfl))
 f46:=⟨Tryz.f187.name,by decide,Tryz.func187.trans (congrArg some (by kernel_rfl))⟩
 f47:=Tryz.func188.trans (congrArg some (by kernel_rfl))
 f48:=Tryz.func189.trans (congrArg some (by kernel_rfl))
 f49:=⟨Tryz.f190.name,by decide,Tryz.func190.trans (congrArg some (by kernel_rfl))⟩
 f50:=⟨Tryz.f191.name,by decide,Tryz.func191.trans (congrArg some (by kernel_rfl))⟩
 f57:=⟨Tryz.f206.name,by decide,Tryz.func206.trans (congrArg some (by kernel_rfl))⟩
 t0:=Tryz.underlying0
 a0:=Tryz.isAgg0
 z0:=Tryz.sizeOf0
 v0:=Tryz.zeroValue0
 t3:=Tryz.underlying3
 a3:=Tryz.isAgg3
 z3:=Tryz.sizeOf3
 v3:=Tryz.zeroValue3
 t4:=Tryz.underlying4
 a4:=Tryz.isAgg4
 z4:=Tryz.sizeOf4
 v4:=Tryz.zeroValue4
 t5:=Tryz.underlying5
 a5:=Tryz.isAgg5
 z5:=Tryz.sizeOf5
 v5:=Tryz.zeroValue5
 t9:=Tryz.underlying9
 a9:=Tryz.isAgg9
 z9:=Tryz.sizeOf9
 v9:=Tryz.zeroValue9
 t22:=Tryz.underlying28
 a22:=Tryz.isAgg28
 z22:=Tryz.sizeOf28
 v22:=Tryz.zeroValue28
 a24:=Tryz.isAgg22
 z24:=Tryz.sizeOf22
 t25:=Tryz.underlying136
 a25:=Tryz.isAgg136
 z25:=Tryz.sizeOf136
 v25:=Tryz.zeroValue136
 t39:=Tryz.underlying177
 a39:=Tryz.isAgg177
 z39:=Tryz.sizeOf177
 v39:=Tryz.zeroValue177
 t45:=Tryz.underlying204
 a45:=Tryz.isAgg204
 z45:=Tryz.sizeOf204
 v45:=Tryz.zeroValue204
 t46:=Tryz.underlying205
 a46:=Tryz.isAgg205
 z46:=Tryz.sizeOf205
 v46:=Tryz.zeroValue205
 t50:=Tryz.underlying148
 a50:=Tryz.isAgg148
 z50:=Tryz.sizeOf148
 v50:=Tryz.zeroValue148
 t53:=Tryz.underlying211
 a53:=Tryz.isAgg211
 z53:=Tryz.sizeOf211
 v53:=Tryz.zeroValue211
 t55:=Tryz.underlying213
 a55:=Tryz.isAgg213
 z55:=Tryz.sizeOf213
 v55:=Tryz.zeroValue213
 t66:=Tryz.underlying227
 a66:=Tryz.isAgg227
 z66:=Tryz.sizeOf227
 v66:=Tryz.zeroValue227
 t70:=Tryz.underlying231
 a70:=Tryz.isAgg231
 z70:=Tryz.sizeOf231
 v70:=Tryz.zeroValue231
 t76:=Tryz.underlying240
 a76:=Tryz.isAgg240
 z76:=Tryz.sizeOf240
 v76:=Tryz.zeroValue240
 t77:=Tryz.underlying218
 a77:=Tryz.isAgg218
 z77:=Tryz.sizeOf218
 v77:=Tryz.zeroValue218 }
end Go.Proofs
namespace Go.Proofs.YtapciiffpnociacGreat
open Go Go.RowKit
inductive RT where
 | bool
 | int (k:IntKind)
 | str
 | slice (cells bytes:Nat) (e:RT)
 | struct (fs:List RT)
mutual
def RT.size:RT→Nat
 | .struct fs=>RT.sizeL fs
 | .bool=>1
 | .int _=>1
 | .str=>1
 | .slice _ _ _=>1
def RT.sizeL:List RT→Nat
 | []=>0
 | r::rs=>r.size + RT.sizeL rs
end
mutual
def rtB (P:Program):RT→TypeId→Bool
 | .bool,t=>match P.underlying t with|some .bool=>true|_=>false
 | .int k,t=>match P.underlying t with|some (.int k')=>sameK k k'|_=>false
 | .str,t=>match P.underlying t with|some .string=>true|_=>false
 | .slice c b e,t=>match P.underlying t with
  | some (.slice te)=>Nat.beq (P.cellsOf te) c && (Nat.beq (P.bytesOf te) b && (Nat.blt 0 c && (Nat.beq e.size c && rtB P e te)))
  | _=>false
 | .struct fs,t=>match P.underlying t with
  | some (.struct fl)=>rtL P fs fl.toList 0 && Nat.beq (P.cellsOf t) (RT.sizeL fs)
  | _=>false
def rtL (P:Program):List RT→List Field→Nat→Bool
 | [],[],_=>true
 | r::rs,f::fl,o=>Nat.beq f.offset o && (Nat.beq (P.cellsOf f.type) r.size && (rtB P r f.type && rtL P rs fl (o + r.size)))
 | _,_,_=>false
end
mutual
def TyDR (R:Nat):RT→List D→Prop
 | .bool,xs=>∃ b,xs=[.bool b]
 | .int k,xs=>∃ n,(Lit.int k n).wf=true∧xs=[.int k n]
 | .str,xs=>∃ s:ByteArray,s.size≤R∧xs=[.str s]
 | .slice c b e,xs=>∃ l:List (List D),l.length * b≤R∧l.length≤maxLen∧xs=[.slice c l]∧∀ x∈l,TyDR R e x
 | .struct fs,xs=>TyFR R fs xs
def TyFR (R:Nat):List RT→List D→Prop
 | [],xs=>xs=[]
 | r::rs,xs=>∃ a b,xs=a++b∧TyDR R r a∧TyFR R rs b
end
abbrev TyD:=TyDR reachBytes
section
variable {H : Type} {enc : TypeId × Value → H} {P : Program} {w : World} {R : Nat}
theorem cells?_spec {base:Nat} {a:Addr} {n:Nat} {vs:List Value} (h:w.cells? base a n=some vs):vs.length=n∧∀ j,j < n→∃ v,vs[j]? = some v∧w.cell? (a.add j)=some v:=by
 unfold World.cells? at h
 split at h
 ·have key:∀ (l:List Nat) (vs:List Value),(l.mapM fun i=>w.cell? (a.add i))=some vs→vs.length=l.length∧∀ (j i:Nat),l[j]? = some i→∃ v,vs[j]? = some v∧w.cell? (a.add i)=some v:=by
   intro l
   induction l with
   | nil=>intro vs h;simp at h;subst h;exact⟨rfl,fun j i hj=>by simp at hj⟩
   | cons x l ih =>
    intro vs h
    rw [List.mapM_cons] at h
    cases hx:w.cell? (a.add x) with
    | none=>simp [hx] at h
    | some v =>
     cases hl:(l.mapM fun i=>w.cell? (a.add i)) with
     | none=>simp [hx,hl] at h
     | some us =>
      simp [hx,hl] at h
      subst h
      obtain⟨h1,h2⟩:=ih us hl
      refine⟨by simp [h1],fun j i hj=>?_⟩
      cases j with
      | zero=>simp at hj;subst hj;exact⟨v,rfl,hx⟩
      | succ j=>simpa using h2 j i (by simpa using hj)
  obtain⟨h1,h2⟩:=key _ _ h
  exact⟨by simpa using h1,fun j hj=>h2 j j (by simp [hj])⟩
 ·cases h
theorem cell?_addr {a:Addr} {v:Value} (h:w.cell? a=some v):a.spot=none∧a.block < w.heap.size:=by
 unfold World.cell? at h
 split at h
 ·rename_i hb
  split at h
  ·cases h
  ·rename_i hs
   exact⟨by simpa using hs,(Array.getElem?_eq_some_iff.1 hb).1⟩
 ·cases h
theorem addr_00 (a:Addr):(a.add 0).add 0=a:=by simp [Go.Addr.add]
def RepL (w:World) (cs:List Value) (xs:List D):Prop:=cs.length=xs.length∧∀ (j:Nat) (u:Value),cs[j]? = some u→∃ x,xs[j]? = some x∧RepC (fun _=>False) w u x
theorem RepL.append {cs cs':List Value} {xs xs':List D} (h:RepL w cs xs) (h':RepL w cs' xs'):RepL w (cs++cs') (xs++xs'):=by
 obtain⟨h1,h2⟩:=h
 obtain⟨g1,g2⟩:=h'
 refine⟨by simp [h1,g1],fun j u hj=>?_⟩
 by_cases hlt:j < cs.length
 ·rw [List.getElem?_append_left hlt] at hj
  obtain⟨x,e1,e2⟩:=h2 j u hj
  exact⟨x,by rw [List.getElem?_append_left (by omega)];exact e1,e2⟩
 ·rw [List.getElem?_append_right (by omega)] at hj
  obtain⟨x,e1,e2⟩:=g2 _ u hj
  exact⟨x,by rw [List.getElem?_append_right (by omega),← h1];exact e1,e2⟩
theorem weightsAll_mem {e:TypeId}:∀ {l:List (DataW H)} {d:DataW H},d∈l→∀ n∈d.weights P e,n∈DataW.weightsAll P e l
 | [],_,h,_,_=>by simp at h
 | x::l,d,h,n,hn=>by
  simp only [DataW.weightsAll,List.mem_append]
  rcases List.mem_cons.1 h with rfl|h
  ·exact .inl hn
  ·exact .inr (weightsAll_mem h n hn)
mutual
theorem open_rt:∀ (r:RT) (t:TypeId) (fuel:Nat) (cs:List Value) (x:DataW H × List MemPlace),rtB P r t=true→DataW.trod enc P w 0 (fun _=>true) true fuel t cs=some x→(∀ n∈x.1.weights P t,n≤R) →
  ∃ xs,TyDR R r xs∧RepL w cs xs
 | .bool,t,fuel,cs,x,hb,h,_=>by
  have ht:P.underlying t=some .bool:=by
   unfold rtB at hb;split at hb <;> first|assumption|cases hb
  obtain⟨b,rfl,rfl⟩:=DataW.trod_bool ht h
  refine⟨[.bool b],⟨b,rfl⟩,rfl,fun j u hj=>?_⟩
  cases j with
  | zero=>simp at hj;subst hj;exact⟨_,rfl,.bool⟩
  | succ j=>simp at hj
 | .int k,t,fuel,cs,x,hb,h,_=>by
  have ht:P.underlying t=some (.int k):=by
   unfold rtB at hb
   split at hb
   ·rename_i k' hk;rw [hk,sameK_spec hb]
   ·cases hb
  obtain⟨n,rfl,rfl,hw⟩:=DataW.trod_int ht h
  refine⟨[.int k n],⟨n,hw,rfl⟩,rfl,fun j u hj=>?_⟩
  cases j with
  | zero=>simp at hj;subst hj;exact⟨_,rfl,.int hw⟩
  | succ j=>simp at hj
 | .str,t,fuel,cs,x,hb,h,hw=>by
  have ht:P.underlying t=some .string:=by
   unfold rtB at hb;split at hb <;> first|assumption|cases hb
  obtain⟨s,rfl,rfl,hs⟩:=DataW.trod_string ht h
  have hr:s.size≤R:=by
   have:=hw s.data.toList.length (by simp [DataW.weights])
   simpa using this
  refine⟨[.str s],⟨s,hr,rfl⟩,rfl,fun j u hj=>?_⟩
  cases j with
  | zero=>simp at hj;subst hj;exact⟨_,rfl,.str hs⟩
  | succ j=>simp at hj
 | .slice c b e,t,fuel,cs,x,hb,h,hw=>by
  obtain⟨te,ht,hc,hby,hpos,hes,hre⟩:∃ te,P.underlying t=some (.slice te)∧P.cellsOf te=c∧P.bytesOf te=b∧0 < c∧e.size=c∧rtB P e te=true:=by
   unfold rtB at hb
   split at hb
   ·rename_i te ht
    simp only [Bool.and_eq_true] at hb
    exact⟨te,ht,Nat.eq_of_beq_eq_true hb.1,Nat.eq_of_beq_eq_true hb.2.1,Nat.le_of_ble_eq_true hb.2.2.1,Nat.eq_of_beq_eq_true hb.2.2.2.1,hb.2.2.2.2⟩
   ·cases hb
  rcases DataW.trod_slice ht h with ⟨rfl,rfl⟩|⟨a,len,cap,elems,rest,n,_,rfl,rfl,_,hlc,hcm,hlen,hel,hsp,_⟩
  ·refine⟨[.slice c []],⟨[],by simp,by simp,rfl,by simp⟩,rfl,fun j u hj=>?_⟩
   cases j with
   | zero=>simp at hj;subst hj;exact⟨_,rfl,.nil⟩
   | succ j=>simp at hj
  ·obtain⟨hrl,hrest⟩:=hsp rfl
   have hcell0:∀ i,i < cap→∃ ci y,w.cells? 0 (a.add (i * c)) c=some ci∧DataW.trod enc P w 0 (fun _=>true) true n te ci=some y∧(∀ hi:i < len,elems[i]? = some y):=by
    intro i hi
    by_cases hil:i < len
    ·have h1:=hel i hil
     have h2:elems[i]? = some (elems[i]'(by omega)):=List.getElem?_eq_getElem (by omega)
     rw [hc,h2,Option.bind_eq_some_iff] at h1
     obtain⟨ci,g1,g2⟩:=h1
     exact⟨ci,_,g1,g2,fun _=>h2⟩
    ·have h1:=hrest (i - len) (by omega)
     have h2:rest[i - len]? = some (rest[i - len]'(by omega)):=List.getElem?_eq_getElem (by omega)
     rw [show len + (i - len)=i by omega,hc,h2,Option.bind_eq_some_iff] at h1
     obtain⟨ci,g1,g2⟩:=h1
     exact⟨ci,_,g1,g2,fun h=>absurd h hil⟩
   have hlist:∀ m,m≤len→∃ l:List (List D),l.length=m∧(∀ x∈l,TyDR R e x)∧∀ i (hi:i < m),∃ ci xi,w.cells? 0 (a.add (i * c)) c=some ci∧l[i]? = some xi∧RepL w ci xi:=by
    intro m
    induction m with
    | zero=>intro _;exact⟨[],rfl,by simp,fun i hi=>by omega⟩
    | succ m ih =>
     intro hm
     obtain⟨l,l1,l2,l3⟩:=ih (by omega)
     obtain⟨ci,y,g1,g2,g3⟩:=hcell0 m (by omega)
     have hy:=g3 (by omega)
     have hmem:y.1∈elems.map (·.1):=List.mem_map.2 ⟨y,List.mem_of_getElem? hy,rfl⟩
     obtain⟨xi,t1,t2⟩:=open_rt e te n ci y hre g2 fun k hk=>hw k (by
      simp only [DataW.weights,ht,List.mem_cons,List.mem_append]
      exact .inr (.inl (weightsAll_mem hmem k hk)))
     refine⟨l++[xi],by simp [l1],fun x hx=>?_,fun i hi=>?_⟩
     ·rcases List.mem_append.1 hx with hx|hx
      ·exact l2 x hx
      ·simp at hx;subst hx;exact t1
     ·by_cases him:i < m
      ·obtain⟨ci',xi',q1,q2,q3⟩:=l3 i him
       exact⟨ci',xi',q1,by rw [List.getElem?_append_left (by omega)];exact q2,q3⟩
      ·have:i=m:=by omega
       subst this
       exact⟨ci,xi,g1,by rw [List.getElem?_append_right (by omega),l1];simp,t2⟩
   obtain⟨l,l1,l2,l3⟩:=hlist len (Nat.le_refl _)
   have hwt:l.length * b≤R:=by
    have:=hw ((elems.length + rest.length) * P.bytesOf te) (by
     simp only [DataW.weights,ht,List.length_map,List.mem_cons,true_or])
    rw [hby] at this
    refine Nat.le_trans (Nat.mul_le_mul_right b ?_) this
    omega
   refine⟨[.slice c l],⟨l,hwt,by omega,rfl,l2⟩,rfl,fun j u hj=>?_⟩
   cases j with
   | succ j=>simp at hj
   | zero =>
    simp at hj
    subst hj
    refine⟨_,rfl,?_⟩
    by_cases hcap:cap=0
    ·have h0:len=0:=by omega
     subst hcap;subst h0
     have:l=[]:=List.eq_nil_of_length_eq_zero l1
     subst this
     exact .zero
    ·obtain⟨c0,y0,g1,_,_⟩:=hcell0 0 (by omega)
     obtain⟨v0,_,hv0⟩:=(cells?_spec g1).2 0 hpos
     rw [Nat.zero_mul,addr_00] at hv0
     obtain⟨s5,s2⟩:=cell?_addr hv0
     obtain⟨ab,ao,asp⟩:=a
     simp only at s5 s2
     subst s5
     have hl3:∀ i (hi:i < l.length),(l[i]'hi).length=c∧∀ j (hj:j < (l[i]'hi).length),∃ v,w.cell? ⟨ab,ao + i * c + j,none⟩=some v∧RepC (fun _=>False) w v ((l[i]'hi)[j]'hj):=by
      intro i hi
      obtain⟨ci,xi,q1,q2,q3,q4⟩:=l3 i (by omega)
      have hxi:l[i]'hi=xi:=by rw [List.getElem?_eq_getElem hi] at q2;exact Option.some.inj q2
      subst hxi
      obtain⟨r1,r2⟩:=cells?_spec q1
      refine⟨by omega,fun j hj=>?_⟩
      obtain⟨v,v1,v2⟩:=r2 j (by omega)
      obtain⟨xx,x1,x2⟩:=q4 j v v1
      rw [Addr.add_at,Addr.add_at] at v2
      have hxx:(l[i]'hi)[j]'hj=xx:=by rw [List.getElem?_eq_getElem hj] at x1;exact Option.some.inj x1
      exact⟨v,v2,hxx▸x2⟩
     refine .slice (fun i j=>(w.cell? ⟨ab,ao + i * c + j,none⟩).getD undef) l1.symm hlc hcm (fun h=>h) s2 (fun i hi=>(hl3 i hi).1) (fun i hi j hj=>?_) (fun i hi j hj=>?_)
     ·obtain⟨v,v1,_⟩:=(hl3 i hi).2 j hj
      rw [v1];rfl
     ·obtain⟨v,v1,v2⟩:=(hl3 i hi).2 j hj
      rw [v1];exact v2
 | .struct fs,t,fuel,cs,x,hb,h,hw=>by
  obtain⟨fl,ht,hf,hc⟩:∃ fl,P.underlying t=some (.struct fl)∧rtL P fs fl.toList 0=true∧P.cellsOf t=RT.sizeL fs:=by
   unfold rtB at hb
   split at hb
   ·rename_i fl ht
    simp only [Bool.and_eq_true] at hb
    exact⟨fl,ht,hb.1,Nat.eq_of_beq_eq_true hb.2⟩
   ·cases hb
  obtain⟨xs,n,_,rfl,hcl,hxl,hx⟩:=DataW.trod_struct ht h
  obtain⟨ys,y1,y2⟩:=open_rts fs fl.toList 0 n cs xs hf (fun i f hi=>hx i f (by simpa using hi)) (by simpa using hxl) (by rw [hcl,hc];omega) (fun k hk=>hw k (by
   simp only [DataW.weights,ht];exact hk))
  exact⟨ys,y1,by simpa using y2⟩
theorem open_rts:∀ (rs:List RT) (fl:List Field) (o n:Nat) (cs:List Value) (xs:List (DataW H × List MemPlace)),rtL P rs fl o=true →
  (∀ (i:Nat) (f:Field),fl[i]? = some f→DataW.trod enc P w 0 (fun _=>true) true n f.type ((cs.drop f.offset).take (P.cellsOf f.type))=xs[i]?)→xs.length=fl.length→cs.length=o + RT.sizeL rs →
  (∀ k∈DataW.weightsEach P (fl.map (·.type)) (xs.map (·.1)),k≤R)→∃ ys,TyFR R rs ys∧RepL w (cs.drop o) ys
 | [],fl,o,n,cs,xs,hb,_,_,hl,_=>by
  refine⟨[],rfl,?_,fun j u hj=>?_⟩
  ·simp [RT.sizeL] at hl ⊢;omega
  ·rw [List.drop_eq_nil_of_le (by simp [RT.sizeL] at hl;omega)] at hj;simp at hj
 | r::rs,[],o,n,cs,xs,hb,_,_,_,_=>by simp [rtL] at hb
 | r::rs,f::fl,o,n,cs,xs,hb,hx,hxl,hl,hw=>by
  simp only [rtL,Bool.and_eq_true] at hb
  obtain⟨b1,b2,b3,b4⟩:=hb
  have b1:=Nat.eq_of_beq_eq_true b1
  have b2:=Nat.eq_of_beq_eq_true b2
  cases xs with
  | nil=>simp at hxl
  | cons y ys =>
   have h0:=hx 0 f rfl
   simp only [List.getElem?_cons_zero] at h0
   rw [b1,b2] at h0
   simp only [RT.sizeL] at hl
   obtain⟨az,a1,a2⟩:=open_rt r f.type n _ y b3 h0 fun k hk=>hw k (by
    simp only [List.map_cons,DataW.weightsEach,List.mem_append]
    exact .inl hk)
   obtain⟨bs,c1,c2⟩:=open_rts rs fl (o + r.size) n cs ys b4 (fun i g hi=>by simpa using hx (i + 1) g (by simpa using hi)) (by simpa using hxl) (by omega) (fun k hk=>hw k (by
    simp only [List.map_cons,DataW.weightsEach,List.mem_append]
    exact .inr hk))
   refine⟨az++bs,⟨az,bs,rfl,a1,c1⟩,?_⟩
   have:=a2.append c2
   have hd:(cs.drop o).take r.size++cs.drop (o + r.size)=cs.drop o:=by
    rw [← List.drop_drop]
    exact List.take_append_drop _ _
   rw [hd] at this
   exact this
end
end
end Go.Proofs.YtapciiffpnociacGreat
namespace Go.Proofs.YtapciiffpnociacGreat
open Go Go.RowKit Go.ChangeShapes Go.WideShapes
def RT.arg:RT→List D→SV
 | .struct _,xs=>.agg (xs.map .d)
 | _,[x]=>.d x
 | _,_=>.junk
def ArgsDR (R:Nat):List RT→List SV→Prop
 | [],az=>az=[]
 | r::rs,az=>∃ xs l,az=r.arg xs::l∧TyDR R r xs∧ArgsDR R rs l
abbrev ArgsD:=ArgsDR reachBytes
def rtsB (P:Program):List RT→List TypeId→Bool
 | [],[]=>true
 | r::rs,t::ts=>rtB P r t && rtsB P rs ts
 | _,_=>false
section
variable {H : Type} {enc : TypeId × Value → H} {P : Program} {R : Nat}
theorem repL_agg {W:World} {e:Env}:∀ (cs:List Value) (xs:List D),RepL W cs xs→RelL (fun _=>False) e W (xs.map .d) cs
 | [],[],_=>trivial
 | [],_::_,h=>by have:=h.1;simp at this
 | _::_,[],h=>by have:=h.1;simp at this
 | c::cs,x::xs,h=>by
  obtain⟨h1,h2⟩:=h
  refine⟨?_,repL_agg cs xs ⟨by simpa using h1,fun j u hj=>by simpa using h2 (j + 1) u (by simpa using hj)⟩⟩
  obtain⟨y,hy,hr⟩:=h2 0 c rfl
  simp at hy
  subst hy
  exact hr
theorem repL_one {W:World} {e:Env} {v:Value} {x:D} (h:RepL W [v] [x]):Rel (fun _=>False) e W (.d x) v:=by
 obtain⟨y,hy,hr⟩:=h.2 0 v rfl
 simp at hy
 subst hy
 exact hr
theorem rtB_bool {t:TypeId} (h:rtB P .bool t=true):P.underlying t=some .bool:=by
 unfold rtB at h;split at h <;> first|assumption|cases h
theorem rtB_str {t:TypeId} (h:rtB P .str t=true):P.underlying t=some .string:=by
 unfold rtB at h;split at h <;> first|assumption|cases h
theorem rtB_int {t:TypeId} {k:IntKind} (h:rtB P (.int k) t=true):P.underlying t=some (.int k):=by
 unfold rtB at h
 split at h
 ·rename_i k' hk;rw [hk,sameK_spec h]
 ·cases h
theorem rtB_slice {t:TypeId} {c b:Nat} {e:RT} (h:rtB P (.slice c b e) t=true):∃ te,P.underlying t=some (.slice te):=by
 unfold rtB at h
 split at h
 ·rename_i te ht;exact⟨te,ht⟩
 ·cases h
theorem rtB_struct {t:TypeId} {fs:List RT} (h:rtB P (.struct fs) t=true):∃ fl,P.underlying t=some (.struct fl):=by
 unfold rtB at h
 split at h
 ·rename_i te ht;exact⟨te,ht⟩
 ·cases h
theorem arg_open {W:World} {e:Env} {base:Nat}:∀ (r:RT) (t:TypeId) (v:Value) (d:DataW H) (ps:List MemPlace),rtB P r t=true→DataW.Trod enc P W 0 (fun _=>true) true t v d ps→Value.okWide P W .any base t v →
  (∀ n∈d.weights P t,n≤R)→∃ xs,TyDR R r xs∧Rel (fun _=>False) e W (r.arg xs) v:=by
 intro r t v d ps hb ⟨fuel,hd⟩ hok hw
 obtain⟨xs,h1,h2⟩:=open_rt r t fuel v.cells.toList (d,ps) hb hd hw
 refine⟨xs,h1,?_⟩
 cases r with
 | bool =>
  obtain⟨b,rfl⟩:=okWide_bool (rtB_bool hb) hok
  obtain⟨b',rfl⟩:=h1
  exact repL_one h2
 | int k =>
  obtain⟨b,rfl⟩:=okWide_int (rtB_int hb) hok
  obtain⟨b',_,rfl⟩:=h1
  exact repL_one h2
 | str =>
  obtain⟨b,rfl⟩:=okWide_string (rtB_str hb) hok
  obtain⟨b',_,rfl⟩:=h1
  exact repL_one h2
 | slice c b el =>
  obtain⟨te,ht⟩:=rtB_slice hb
  obtain⟨a,n,cap,rfl⟩:=okWide_slice ht hok
  obtain⟨l,_,_,rfl,_⟩:=h1
  exact repL_one h2
 | struct fs =>
  obtain⟨fl,ht⟩:=rtB_struct hb
  obtain⟨cs,rfl,_⟩:=okWide_struct ht hok
  exact⟨cs.toList,by simp,repL_agg _ _ h2⟩
theorem args_open {W:World} {e:Env} {base:Nat}:∀ (rs:List RT) (ts:List TypeId) (vs:List Value) (ds:List (DataW H)) (ps:List MemPlace),rtsB P rs ts=true→DataW.TrodAll enc P W 0 (fun _=>true) true ts vs ds ps →
  (∀ (j:Nat) t v,ts[j]? = some t→vs[j]? = some v→Value.okWide P W .any base t v)→(∀ n∈DataW.weightsEach P ts ds,n≤R)→∃ az,ArgsDR R rs az∧RelL (fun _=>False) e W az vs
 | [],[],vs,ds,ps,_,h,_,_=>by
  obtain⟨rfl,rfl,rfl⟩:=trodAll_nil h
  exact⟨[],rfl,trivial⟩
 | [],_::_,_,_,_,hb,_,_,_=>by simp [rtsB] at hb
 | _::_,[],_,_,_,hb,_,_,_=>by simp [rtsB] at hb
 | r::rs,t::ts,vs,ds,ps,hb,h,hok,hw=>by
  obtain⟨v,vs',d,ds',p,q,rfl,rfl,rfl,h1,h2⟩:=trodAll_cons h
  simp only [rtsB,Bool.and_eq_true] at hb
  simp only [DataW.weightsEach,List.mem_append] at hw
  obtain⟨xs,g1,g2⟩:=arg_open (e:=e) r t v d p hb.1 h1 (hok 0 t v rfl rfl) fun n hn=>hw n (.inl hn)
  obtain⟨az,g3,g4⟩:=args_open (e:=e) rs ts vs' ds' q hb.2 h2 (fun j t v ht hv=>hok (j + 1) t v (by simpa using ht) (by simpa using hv)) fun n hn=>hw n (.inr hn)
  exact⟨r.arg xs::az,⟨xs,az,rfl,g1,g3⟩,g2,g4⟩
def readB (P:Program) (ts:List TypeId):Bool:=ts.all fun t=>P.readableRec t && Nat.blt t P.types.size
theorem args_again {W W':World} {spare:Nat→Bool} (hl:laidOutB P=true) (hb:Below W.heap.size W W'):∀ (ts:List TypeId) (vs:List Value) (ds:List (DataW H)) (ps:List MemPlace),readB P ts=true →
  DataW.TrodAll enc P W 0 (fun _=>true) true ts vs ds ps→(∀ p∈ps,p.block < W.heap.size)→(∀ p∈ps,spare p.block=true)→DataW.TrodAll enc P W' 0 spare true ts vs ds ps
 | [],vs,ds,ps,_,h,_,_=>by
  obtain⟨rfl,rfl,rfl⟩:=trodAll_nil h
  rfl
 | t::ts,vs,ds,ps,hr,h,hlt,hsp=>by
  obtain⟨v,vs',d,ds',p,q,rfl,rfl,rfl,h1,h2⟩:=trodAll_cons h
  simp only [readB,List.all_cons,Bool.and_eq_true] at hr
  refine⟨p,q,?_,args_again hl hb ts vs' ds' q (by simpa [readB] using hr.2) h2 (fun x hx=>hlt x (List.mem_append_right _ hx)) (fun x hx=>hsp x (List.mem_append_right _ hx)),rfl⟩
  exact WideElems.Trod_stays hl hr.1.1 (Nat.le_of_ble_eq_true hr.1.2) h1 (fun x hx=>hb.same (hlt x (List.mem_append_left _ hx))) fun x hx=>hsp x (List.mem_append_left _ hx)
theorem law_post {f:Func} {s:ChangeSpec} {apart fresh handsOn:Bool} {W W':World} {args:Array Value} {ds gs:List (DataW H)} {before:List MemPlace} {tb:TypeId}
  (hv:s.vars=[]) (hW:DataW.Whole enc P f.params.toList s.vars apart W args.toList ds gs before) (hfn:gs=[]→s.fn H (ds++gs) = { results:=[.lit (.bool true)],args:=ds })
  (hres:f.resultTypes = #[tb]) (htb:P.underlying tb=some .bool) (hl:laidOutB P=true) (hr:readB P f.params.toList=true) (hb:Below W.heap.size W W') :
  s.post enc P f apart fresh handsOn false W args (.bool true) W':=by
 have hW0:=hW
 have hlt:=fun p hp=>hW.lt p hp
 obtain⟨p,q,hA,hV,rfl,hfz,hnd⟩:=hW
 rw [hv] at hV
 obtain⟨rfl,rfl⟩:=trodVars_none hV
 have hfn:=hfn rfl
 refine⟨ds,[],p++[],[],p,[],hW0,?_,?_,?_,hb.frame _,fun h=>by cases h⟩
 ·rw [hres,hfn]
  exact trodAll_mk1 (shut_bool htb true)
 ·rw [hfn]
  exact args_again hl hb _ _ _ _ hr hA (fun x hx=>hlt x (List.mem_append_left _ hx)) fun x hx=>by simpa using hlt x (List.mem_append_left _ hx)
 ·rw [hv,hfn]
  rfl
theorem ctxX_nil {τ τok} {e:Env} {W:World} {n J β0}:∀ b,Ctx.X ⟨P,τ,τok,fun _=>False,W,fun b=>b∈a7 e [],n,J,β0,none,noPan,true,false⟩ e [] b→False:=by
 rintro b (h|h)
 ·exact h
 ·simp [a7] at h
theorem law_calls {τ:List (Nat × TI)} {τok:TabOk P τ} {f:FuncId} {rs:List RT} {ts:List TypeId} {args:Array Value} {ds:List (DataW H)} {ps:List MemPlace} {W:World} {base:Nat}
  (hc:∀ az,ArgsDR R rs az→FnP false P τ τok f az (fun r=>r = .d (.bool true))) (hb:rtsB P rs ts=true) (hA:DataW.TrodAll enc P W 0 (fun _=>true) true ts args.toList ds ps)
  (hok:∀ (j:Nat) t v,ts[j]? = some t→args.toList[j]? = some v→Value.okWide P W .any base t v) (hw:∀ n∈DataW.weightsEach P ts ds,n≤R) :
  Calls P f args W fun en W'=>en = .returned (.bool true)∧Below W.heap.size W W':=by
 let e:Env:=⟨fun _=>0,fun _=>undef,lo 0⟩
 obtain⟨az,h1,h2⟩:=args_open (e:=e) rs ts args.toList ds ps hb hA hok hw
 have hk:=(hc az h1).2 (fun _=>False) e W args.toList ?_ ?_
 ·rw [Array.toArray_toList] at hk
  refine Calls.mono hk ?_
  rintro en W' ⟨k',r,H',e',v,⟨rfl,_,rfl⟩,rfl,hH,hr⟩
  have hr':RepC _ W' v (.bool true):=hr
  cases hr'
  exact⟨rfl,⟨hH.os,hH.tape,hH.output,hH.size,fun b hb=>hH.block b hb (by simp [a7])⟩⟩
 ·exact { top:=fun _=>Iff.rfl,heap:=(fun p hp=>nomatch hp),ids:=.nil,nodup:=.nil,mine:=(fun b hb=>nomatch hb),os:=rfl,tape:=rfl,output:=rfl,drawn:=(fun _=>Nat.le_refl _),size:=Nat.le_refl _,block:=(fun _ _ _=>rfl),obound:=(fun _ h=>h.elim),jle:=(fun _ h=>nomatch h),anchor:=(fun _ h=>nomatch h) }
 ·exact RelL.keep (Nat.le_refl _) (fun _ _ _=>rfl) (fun b _ hy=>ctxX_nil b hy) _ _ h2
theorem law_lifted {C:Checked} {τ:List (Nat × TI)} {τok:TabOk C.prog τ} {os:Os} (started:os.Started) {f:FuncId} {fn:Func} {s:ChangeSpec} {conds:List PathCond} {apart fresh handsOn:Bool} {rs:List RT} {tb:TypeId}
  (own:ownKnob C.prog.godebug=none) (noInit:C.prog.inits.idxOf? f=none) (hfn:C.prog.funcs[f]? = some fn)
  (witness:∃ (w:World) (tape:Tape) (i:Input),w.os=os∧(w.forCall tape i).Shaped C.prog∧i.vars=[]∧Input.okWide C.prog (w.forCall tape i) .any w.heap.size f i ∧
   s.pre6 enc C.prog fn conds apart (w.forCall tape i).memory i.args∧({}:Assume).holds C.prog (lone (Frame.enter C.prog f i.args .normal) [] (w.forCall tape i)))
  (hv:s.vars=[]) (hvt:s.plain.varTypes C.prog=[]) (hs:∀ (ds:List (DataW H)),ds.length=fn.params.toList.length→s.fn H ds = { results:=[.lit (.bool true)],args:=ds })
  (hres:fn.resultTypes = #[tb]) (htb:C.prog.underlying tb=some .bool) (hl:laidOutB C.prog=true) (hr:readB C.prog fn.params.toList=true) (hb:rtsB C.prog rs fn.params.toList=true)
  (hc:∀ az,ArgsD rs az→FnP false C.prog τ τok f az (fun r=>r = .d (.bool true))) :
  ReturnsInHanded {} C os f .any (s.pre6 enc C.prog fn conds apart) (s.post enc C.prog fn apart fresh handsOn false):=by
 refine returnsInHanded_of_change_sized own started noInit hfn witness ?_
 intro W base args ds gs before hval hW _ hwt _
 obtain⟨p,q,hA,hV,hpq,hfz,hnd⟩:=id hW
 rw [hv] at hV
 obtain⟨rfl,rfl⟩:=trodVars_none hV
 rw [hvt,List.append_nil,List.append_nil] at hwt
 have hlen:∀ (ts:List TypeId) (vs:List Value) (ds:List (DataW H)) (ps:List MemPlace),DataW.TrodAll enc C.prog W 0 (fun _=>true) true ts vs ds ps→ds.length=ts.length:=by
  intro ts
  induction ts with
  | nil=>intro vs ds ps h;obtain⟨rfl,rfl,rfl⟩:=trodAll_nil h;rfl
  | cons t ts ih =>
   intro vs ds ps h
   obtain⟨v,vs',d,ds',p,q,rfl,rfl,rfl,h1,h2⟩:=trodAll_cons h
   simp [ih _ _ _ h2]
 refine (law_calls hc hb hA (fun j t v ht hv=>hval j t v (by simpa using ht) (by simpa using hv)) (fun n hn=>by simpa using List.all_eq_true.1 hwt n hn)).mono ?_
 rintro en W' ⟨rfl,hbl⟩
 exact⟨_,rfl,law_post hv hW (fun _=>by rw [List.append_nil];exact hs ds (hlen _ _ _ _ hA)) hres htb hl hr hbl⟩
end
end Go.Proofs.YtapciiffpnociacGreat
