/- Several texts in one: ScoP SamP DagQ Tab GxOps GxMem. Condition: none. -/
import Derived.Test.YtapciiffpnociadGreatT01
import Derived.Test.YtapciiffpnociadGreatProg
import Derived.KernelRfl
import Derived.WalkSpells
import Derived.Orders
open Array renaming getD_eq_getD_getElem?→Da
open Bool renaming eq_iff_iff→E8,false_or→B9,or_eq_true→Dz
open List renaming filter_cons→B7,foldl_cons→Bf,getD→A6,getElem?_eq_none→A8,getElem?_set→Ef,mem_cons_of_mem→Ag,mem_cons_self→Ac,replicate→Ap
open Nat renaming add_assoc→F5,beq→Aw,exists_eq_add_of_le→F6,le_of_ble_eq_true→Ab,ne_of_beq_eq_false→B0,zero_le→Ak
open Option renaming getD_some→B6
namespace Go.Proofs.YtapciiffpnociadGreat
section
structure Trm where
 var:Int
 n:Int
structure Ltl where
 kind:Int
 op:Int
 pred:Int
 terms:List Trm
structure Rul where
 pred:Int
 terms:List Trm
 fold:Int
 body:List Ltl
 vars:Int
structure Prg where
 arity:List Int
 names:List ByteArray
 rules:List Rul
def bm {α:Type} (f:α->Int):List α->Int
 | []=>0
 | x::l=>if f x≠0 then f x else bm f l
theorem ga {α:Type} {f:α->Int} {l:List α} {i:Nat} (hi:i<l.length):bm f (l.drop i)=if f l[i]≠0 then f l[i] else bm f (l.drop (i+1)):=by
 rw [List.drop_eq_getElem_cons hi];rfl
theorem ir {α:Type} {f:α->Int} {l:List α} {i:Nat} (hi:l.length<=i):bm f (l.drop i)=0:=by
 rw [List.drop_of_length_le hi];rfl
def jw (f:Nat->Int):Nat->Nat->Int
 | _,0=>0
 | i,k+1=>if f i≠0 then f i else jw f (i+1) k
theorem firstI_step {f:Nat->Int} {n i:Nat} (h:i<n):jw f i (n-i)=if f i≠0 then f i else jw f (i+1) (n-(i+1)):=by
 rw [show n-i=(n-(i+1))+1 by omega];rfl
theorem firstI_end {f:Nat->Int} {n i:Nat} (h:n<=i):jw f i (n-i)=0:=by
 rw [show n-i=0 by omega];rfl
def vb (vars:Int) (t:Trm):Int:=if inR t.var (-1) (vars-1)=false then 5 else if numB t.n=false∨(0<=t.var/\t.n≠0) then 3 else 0
def nr (vars:Int) (l:List Trm):Int:=bm (vb vars) l
def opB (kind n:Int):Bool:=if kind=3 then inR n 1 4 else if kind=4 then inR n 5 7 else decide (n=0)
def kz (arity:List Int) (vars:Int) (l:Ltl):Int :=
 if inR l.kind 1 4=false then 7
 else if opB l.kind l.op=false then 3
 else if l.kind=1∨l.kind=2 then
  if inR l.pred 0 ((arity.length:Int)-1)=false then 5
  else if (l.terms.length:Int)≠arity.getD l.pred.toNat 0 then 1
  else nr vars l.terms
 else if l.pred≠0∨(l.terms.length:Int)≠l.kind-1 then 1
 else nr vars l.terms
def isT (bs:List Bool) (t:Trm):Bool:=decide (t.var<0) || bs.getD t.var.toNat false
def ji (bs:List Bool) (t:Trm):List Bool:=if t.var<0 then bs else bs.set t.var.toNat true
def co (bs:List Bool) (l:Ltl):Bool:=decide (l.kind=1) || (decide (l.kind=4) && (l.terms.take 2).all (isT bs))
def d8 (l:Ltl):List Trm:=if l.kind=1 then l.terms else l.terms.drop 2
def l4 (bs:List Bool) (l:Ltl):List Bool:=if co bs l then (d8 l).foldl ji bs else bs
def iv (body:List Ltl) (bs:List Bool):List Bool:=body.foldl l4 bs
def fk (body:List Ltl):Nat->List Bool->List Bool
 | 0,bs=>bs
 | n+1,bs=>fk body n (iv body bs)
def u6 (r:Rul):List Bool:=fk r.body (r.body.length+1) (Ap r.vars.toNat false)
def rk (r:Rul):Bool:=(u6 r).all id
def nk (arity:List Int) (r:Rul):Int :=
 if inR r.pred 0 ((arity.length:Int)-1)=false then 5
 else if (r.terms.length:Int)≠arity.getD r.pred.toNat 0 then 1
 else if inR r.vars 0 8=false then 3
 else if nr r.vars r.terms≠0 then nr r.vars r.terms
 else if inR r.fold 0 4=false then 7
 else if r.fold≠0/\(r.terms.length=0∨r.body.length=0) then 1
 else if 4<r.body.length then 2
 else if bm (kz arity r.vars) r.body≠0 then bm (kz arity r.vars) r.body
 else if rk r=false then 4
 else 0
def qr (nameB:ByteArray->Bool) (p:Prg) (i:Nat):Int :=
 if inR (p.arity.getD i 0) 0 3=false then 3
 else if nameB (p.names.getD i ⟨#[]⟩)=false then 1
 else if (p.names.take i).any (λs=>decide (s=p.names.getD i ⟨#[]⟩)) then 6
 else 0
def dc (nameB:ByteArray->Bool) (p:Prg):Int :=
 if 10<p.arity.length∨12<p.rules.length then 2
 else if p.names.length≠p.arity.length then 1
 else if jw (qr nameB p) 0 p.names.length≠0 then jw (qr nameB p) 0 p.names.length
 else bm (nk p.arity) p.rules
theorem v7 (bs:List Bool) (t:Trm):(ji bs t).length=bs.length:=by unfold ji;split<;>simp
theorem setTs_len:∀ (l:List Trm) (bs:List Bool),(l.foldl ji bs).length=bs.length
 | [],_=>rfl
 | t::l,bs=>by rw [Bf,setTs_len l,v7]
theorem bLit_len (bs:List Bool) (l:Ltl):(l4 bs l).length=bs.length:=by unfold l4;split;exact setTs_len _ _;rfl
theorem bRound_len:∀ (body:List Ltl) (bs:List Bool),(iv body bs).length=bs.length
 | [],_=>rfl
 | l::body,bs=>by
  have:=bRound_len body (l4 bs l)
  rw [bLit_len] at this
  exact this
theorem tf (body:List Ltl):∀ (n:Nat) (bs:List Bool),(fk body n bs).length=bs.length
 | 0,_=>rfl
 | n+1,bs=>by rw [fk,tf body n,bRound_len]
def leB (a b:List Bool):Prop:=a.length=b.length/\∀ i,a.getD i false=true->b.getD i false=true
theorem leB.refl (a:List Bool):leB a a:=⟨rfl,λ_ h=>h⟩
theorem leB.trans {a b c:List Bool} (h:leB a b) (g:leB b c):leB a c:=⟨h.1.trans g.1,λi hi=>g.2 i (h.2 i hi)⟩
theorem setT_le (bs:List Bool) (t:Trm):leB bs (ji bs t):=by
 refine⟨(v7 _ _).symm,λi h=>?_⟩
 unfold ji;split
 ·exact h
 ·simp only [A6,Ef] at h ⊢;split
  ·rename_i hi;rw [hi];by_cases hl:i<bs.length
   ·simp [hl]
   ·rw [A8 (by omega)] at h;cases h
  ·exact h
theorem k9:∀ (l:List Trm) (bs:List Bool),leB bs (l.foldl ji bs)
 | [],bs=>leB.refl bs
 | t::l,bs=>(setT_le bs t).trans (k9 l _)
theorem bLit_le (bs:List Bool) (l:Ltl):leB bs (l4 bs l):=by unfold l4;split;exact k9 _ _;exact leB.refl _
theorem tc:∀ (body:List Ltl) (bs:List Bool),leB bs (iv body bs)
 | [],bs=>leB.refl bs
 | l::body,bs=>(bLit_le bs l).trans (tc body _)
theorem s0 {a b:List Bool} (h:leB a b) {t:Trm} (ht:isT a t=true):isT b t=true:=by
 unfold isT at ht ⊢;rw [Dz] at ht ⊢;exact ht.imp id (h.2 _)
theorem ux {a b:List Bool} (h:leB a b) {l:Ltl} (hl:co a l=true):co b l=true:=by
 unfold co at hl ⊢;simp only [Dz,Bool.and_eq_true,List.all_eq_true] at hl ⊢;exact hl.imp id fun⟨g1,g2⟩=>⟨g1,λt ht=>s0 h (g2 t ht)⟩
theorem pz {bs:List Bool} {t:Trm} (h:isT bs t=true):ji bs t=bs:=by
 unfold isT at h;unfold ji;split
 ·rfl
 ·rename_i hn;rw [decide_eq_false hn,B9] at h;simp only [A6] at h;cases hg:bs[t.var.toNat]? with
  | none=>rw [hg] at h;cases h
  | some b =>
   rw [hg] at h;simp only [B6] at h;subst h;have hlt:=(List.getElem?_eq_some_iff.1 hg).1;refine List.ext_getElem? λi=>?_
   rw [Ef];split
   ·rename_i hi;subst hi;exact hg.symm
   ·rfl
theorem setTs_same:∀ {l:List Trm} {bs:List Bool},(∀ t∈l,isT bs t=true)->l.foldl ji bs=bs
 | [],_,_=>rfl
 | t::l,bs,h=>by
  rw [Bf,pz (h t (Ac ..))]
  exact setTs_same λx hx=>h x (Ag _ hx)
def okT (v:Nat) (t:Trm):Prop:=t.var<(v:Int)
theorem setT_is {bs:List Bool} {t:Trm} (h:okT bs.length t):isT (ji bs t) t=true:=by
 unfold isT ji;unfold okT at h;split
 ·rename_i hn;rw [decide_eq_true hn];rfl
 ·rename_i hn;rw [decide_eq_false hn,B9];simp only [A6,Ef];have:t.var.toNat<bs.length:=by omega
  simp [this]
theorem m6:∀ {l:List Trm} {bs:List Bool},(∀ t∈l,okT bs.length t)->∀ t∈l,isT (l.foldl ji bs) t=true
 | [],_,_,t,ht=>by simp at ht
 | x::l,bs,h,t,ht=>by
  rw [Bf]
  rcases List.mem_cons.1 ht with rfl|ht
  ·exact s0 (k9 l _) (setT_is (h t (Ac ..)))
  ·exact m6 (bs:=ji bs x) (λy hy=>by rw [v7];exact h y (Ag _ hy)) t ht
theorem bLit_same {bs:List Bool} {l:Ltl} (h:co bs l=true->∀ t∈d8 l,isT bs t=true):l4 bs l=bs:=by
 unfold l4;split
 ·rename_i hf;exact setTs_same (h hf)
 ·rfl
theorem yc:∀ {body:List Ltl} {bs:List Bool},(∀ l∈body,co bs l=true->∀ t∈d8 l,isT bs t=true)->iv body bs=bs
 | [],_,_=>rfl
 | l::body,bs,h=>by
  show iv body (l4 bs l)=bs
  rw [bLit_same (h l (Ac ..))]
  exact yc λx hx=>h x (Ag _ hx)
theorem yd:∀ {body:List Ltl} {bs:List Bool},(∀ l∈body,∀ t∈d8 l,okT bs.length t)->∀ l∈body,co bs l=true->∀ t∈d8 l,isT (iv body bs) t=true
 | [],_,_,l,hl,_,_,_=>by simp at hl
 | x::body,bs,hok,l,hl,hf,t,ht=>by
  show isT (iv body (l4 bs x)) t=true
  rcases List.mem_cons.1 hl with rfl|hl
  ·refine s0 (tc body _) ?_
   unfold l4
   rw [if_pos hf]
   exact m6 (hok l (Ac ..)) t ht
  ·exact yd (bs:=l4 bs x) (λy hy z hz=>by rw [bLit_len];exact hok y (Ag _ hy) z hz) l hl (ux (bLit_le bs x) hf) t ht
def su (body:List Ltl) (bs:List Bool):Nat:=(body.filter (co bs)).length
theorem nFire_mono {a b:List Bool} (h:leB a b):∀ (body:List Ltl),su body a<=su body b
 | []=>Nat.le_refl _
 | l::body=>by
  have ih:=nFire_mono h body
  unfold su at ih ⊢
  rw [B7,B7]
  cases ha:co a l with
  | true=>rw [ux h ha];simpa using ih
  | false =>
   cases hb:co b l with
   | true=>simp;omega
   | false=>simpa using ih
theorem nFire_same {a b:List Bool} (h:leB a b):∀ {body:List Ltl},su body b<=su body a->∀ l∈body,co b l=true->co a l=true
 | [],_,l,hl,_=>by simp at hl
 | x::body,hn,l,hl,hf=>by
  have ih:=nFire_mono h body
  have ihs:=@nFire_same a b h body
  unfold su at hn ih ihs
  rw [B7,B7] at hn
  rcases List.mem_cons.1 hl with rfl|hl
  ·cases ha:co a l with
   | true=>rfl
   | false=>rw [hf,ha] at hn;simp at hn;omega
  ·refine ihs ?_ l hl hf
   cases ha:co a x with
   | true=>rw [ha,ux h ha] at hn;simpa using hn
   | false =>
    cases hb:co b x with
    | true=>rw [ha,hb] at hn;simp at hn;omega
    | false=>rw [ha,hb] at hn;simpa using hn
theorem mf (body:List Ltl):∀ (n:Nat) (bs:List Bool),fk body (n+1) bs=iv body (fk body n bs)
 | 0,_=>rfl
 | n+1,bs=>by rw [fk,mf body n];rfl
theorem bIter_rest {body:List Ltl} {bs:List Bool} (hok:∀ l∈body,∀ t∈d8 l,okT bs.length t):∀ n,iv body (fk body n bs)=fk body n bs∨n+1<=su body (fk body n bs)
 | 0=>by
  by_cases h:su body bs=0
  ·left
   refine yc λl hl hf=>?_
   have:l∈body.filter (co bs):=List.mem_filter.2 ⟨hl,hf⟩
   unfold su at h
   rw [List.eq_nil_of_length_eq_zero h] at this
   simp at this
  ·right;show 1<=su body bs;omega
 | n+1=>by
  rcases bIter_rest hok n with h|h
  ·left;rw [mf,h,h]
  ·have hle:=tc body (fk body n bs)
   have hm:=nFire_mono hle body
   by_cases hn:su body (iv body (fk body n bs))<=su body (fk body n bs)
   ·left
    rw [mf]
    refine yc λl hl hf=>?_
    exact yd (λx hx t ht=>by rw [tf];exact hok x hx t ht) l hl (nFire_same hle hn l hl hf)
   ·right;rw [mf];omega
theorem bRound_rest {body:List Ltl} {bs:List Bool} (hok:∀ l∈body,∀ t∈d8 l,okT bs.length t):iv body (fk body body.length bs)=fk body body.length bs:=by
 rcases bIter_rest hok body.length with h|h
 ·exact h
 ·have:=List.length_filter_le (co (fk body body.length bs)) body
  unfold su at h;omega
theorem zf {body:List Ltl} {bs:List Bool} (h:iv body bs=bs):∀ n,fk body n bs=bs
 | 0=>rfl
 | n+1=>by rw [fk,h,zf h n]
theorem zg (body:List Ltl):∀ (m n:Nat) (bs:List Bool),fk body (m+n) bs=fk body n (fk body m bs)
 | 0,n,bs=>by rw [Nat.zero_add];rfl
 | m+1,n,bs=>by rw [show m+1+n=(m+n)+1 by omega,fk,fk,zg body m n]
theorem rest_is {r:Rul} (hok:∀ l∈r.body,∀ t∈d8 l,okT r.vars.toNat t) {m:Nat} (h:iv r.body (fk r.body m (Ap r.vars.toNat false))=fk r.body m (Ap r.vars.toNat false)):fk r.body m (Ap r.vars.toNat false)=u6 r:=by
 have h2:=bRound_rest (body:=r.body) (bs:=Ap r.vars.toNat false) (by rw [List.length_replicate];exact hok);unfold u6;rw [mf,h2];rcases Nat.le_total m r.body.length with hm|hm
 ·obtain⟨d,hd⟩:=F6 hm;rw [hd,zg,zf h]
 ·obtain⟨d,hd⟩:=F6 hm;rw [hd,zg,zf h2]
theorem fsame_iff (x y:Fct):Fct.same x y=true↔x=y:=by
 unfold Fct.same;rw [decide_eq_true_eq];exact⟨qq,λh=>by rw [h];exact mo y⟩
theorem hasU_congr {a b:List Upd} (h:∀ u,u∈a↔u∈b) (i:UId):hasU a i=hasU b i:=by
 rw [E8,hasU_iff,hasU_iff];exact exists_congr λu=>and_congr_left λ_=>h u
theorem hasU_app (a b:List Upd) (i:UId):hasU (a++b) i=(hasU a i || hasU b i):=by unfold hasU;rw [List.any_append]
structure RplPre (r:Rpl):Prop where
 sh:StrU r.has
 sw:StrU r.waits
 apart:∀ u∈r.has,∀ v∈r.waits,u.id≠v.id
abbrev Rpl.both (r:Rpl):List Upd:=r.has++r.waits
theorem RplOk.in_has {A:List Upd} {r:Rpl} (h:RplOk A r) {i:UId} (hd:Der A i):hasU r.has i=true:=by
 obtain⟨u,hu,he,_⟩:=hd.has;rcases (h.all u).1 hu with h1|h1
 ·exact hasU_iff.2 ⟨u,h1,he⟩
 ·exact absurd (he▸hd) (h.wait u h1)
theorem RplOk.ready {A:List Upd} {r:Rpl} (h:RplOk A r) {u:Upd} (hu:u∈r.has):readyU r.has u=true:=by
 obtain⟨v,hv,he,hd⟩:=(h.had u hu).has;have huv:=h.uniq ((h.all u).2 (.inl hu)) hv he.symm;subst huv;exact readyU_iff.2 λi hi=>h.in_has (hd i hi)
theorem RplOk.der {A:List Upd} {r:Rpl} (h:RplOk A r) {i:UId} (hd:Der A i):Der r.has i:=by
 induction hd with
 | mk u hu h1 ih =>
  rcases (h.all u).1 hu with h2|h2
  ·exact .mk u h2 ih
  ·exact absurd (Der.mk u hu h1) (h.wait u h2)
theorem RplOk.not_ready {A:List Upd} {r:Rpl} (h:RplOk A r) {u:Upd} (hu:u∈r.waits):readyU r.has u=false:=by
 cases hb:readyU r.has u with
 | false=>rfl
 | true=>exact absurd (Der.mk u ((h.all u).2 (.inr hu)) λi hi=>had_der h.had (readyU_iff.1 hb i hi)) (h.wait u hu)
theorem RplOk.pre {A:List Upd} {r:Rpl} (h:RplOk A r):RplPre r:=⟨h.sh,h.sw,h.apart⟩
theorem RplOk.self {A:List Upd} {r:Rpl} (h:RplOk A r):RplOk r.both r:=h.congr λu=>(h.all u).trans List.mem_append.symm
theorem RplGo.ends {A:List Upd}:∀ {r:Rpl},RplGo A r->∃ s,RplOk A s:=by
 have key:∀ (n:Nat) (r:Rpl),r.waits.length<=n->RplGo A r->∃ s,RplOk A s:=by
  intro n;induction n with
  | zero =>
   intro r hl h;refine⟨r,h.done λu hu=>?_⟩
   have:=List.length_pos_of_mem hu
   omega
  | succ n ih =>
   intro r hl h;by_cases hx:∃ u∈r.waits,readyU r.has u=true
   ·obtain⟨u,hu,hr⟩:=hx;refine ih _ ?_ (h.move hu hr);have:(r.waits.filter λv=>!(v.id.same u.id)).length<r.waits.length:=by
     have:=cnt_lt (has:=r.waits) (c:=λv=>!(v.id.same u.id)) (d:=λ_=>true) (λ_ _ _=>rfl) ⟨u,hu,by rw [UId.same_refl];rfl,rfl⟩
     unfold cntR at this;rw [List.filter_eq_self.2 λ_ _=>rfl] at this;exact this
    dsimp only;omega
   ·refine⟨r,h.done λu hu=>?_⟩
    cases hb:readyU r.has u with
    | false=>rfl
    | true=>exact absurd ⟨u,hu,hb⟩ hx
 exact fun {r} h=>key _ r (Nat.le_refl _) h
theorem RplOk.add {A:List Upd} {r:Rpl} (h:RplOk A r) {u:Upd} (hu:hasU A u.id=false):RplGo (u::A) ⟨r.has,po r.waits u⟩/\∃ s,RplOk (u::A) s:=by
 have h1:hasU r.has u.id=false/\hasU r.waits u.id=false:=by
  rw [hasU_congr (b:=r.both) λu=>(h.all u).trans List.mem_append.symm,hasU_app,Bool.or_eq_false_iff] at hu;exact hu
 have:=h.more h1.1 h1.2
 exact⟨this,this.ends⟩
def tellA (A:List Upd):List Upd->Option (List Upd)
 | []=>some A
 | u::l=>if hasU A u.id then tellA A l else if 200<=A.length then none else tellA (u::A) l
open Go
def tab:List (Nat×TI):=[
 (2,⟨.int .i64,1,8,[.int .i64 0],false⟩),
 (3,⟨.int .i64,1,8,[.int .i64 0],false⟩),
 (4,⟨.bool,1,1,[.bool false],false⟩),
 (5,⟨.int .u8,1,1,[.int .u8 0],false⟩),
 (6,⟨.int .u8,1,1,[.int .u8 0],false⟩),
 (7,⟨.struct [(0,2,1),(1,3,1),(2,4,1),(3,6,1)],4,24,[.int .i64 0,.int .i64 0,.bool false,.int .u8 0],true⟩),
 (8,⟨.struct [(0,2,1),(1,3,1),(2,4,1),(3,6,1)],4,24,[.int .i64 0,.int .i64 0,.bool false,.int .u8 0],true⟩),
 (9,⟨.str,1,16,[.string ⟨#[]⟩],false⟩),
 (10,⟨.str,1,16,[.string ⟨#[]⟩],false⟩),
 (11,⟨.str,1,16,[.string ⟨#[]⟩],false⟩),
 (12,⟨.int .u64,1,8,[.int .u64 0],false⟩),
 (13,⟨.struct [(0,9,1),(1,12,1)],2,24,[.string ⟨#[]⟩,.int .u64 0],false⟩),
 (14,⟨.struct [(0,9,1),(1,12,1)],2,24,[.string ⟨#[]⟩,.int .u64 0],false⟩),
 (15,⟨.ptr 334,1,8,[.pointer none],false⟩),
 (16,⟨.ptr 337,1,8,[.pointer none],false⟩),
 (17,⟨.ptr 346,1,8,[.pointer none],false⟩),
 (18,⟨.struct [(0,17,1)],1,8,[.pointer none],false⟩),
 (19,⟨.struct [(0,17,1)],1,8,[.pointer none],false⟩),
 (21,⟨.int .i32,1,4,[.int .i32 0],false⟩),
 (22,⟨.slice 3,1,24,[.slice none 0 0],false⟩),
 (23,⟨.slice 9,1,24,[.slice none 0 0],false⟩),
 (24,⟨.slice 64,1,24,[.slice none 0 0],false⟩),
 (25,⟨.struct [(0,22,1),(1,23,1),(2,24,1)],3,72,[.slice none 0 0,.slice none 0 0,.slice none 0 0],true⟩),
 (26,⟨.struct [(0,22,1),(1,23,1),(2,24,1)],3,72,[.slice none 0 0,.slice none 0 0,.slice none 0 0],true⟩),
 (27,⟨.slice 37,1,24,[.slice none 0 0],false⟩),
 (28,⟨.slice 39,1,24,[.slice none 0 0],false⟩),
 (30,⟨.int .i64,1,8,[.int .i64 0],false⟩),
 (36,⟨.struct [(0,3,1),(1,22,1)],2,32,[.int .i64 0,.slice none 0 0],true⟩),
 (37,⟨.struct [(0,3,1),(1,22,1)],2,32,[.int .i64 0,.slice none 0 0],true⟩),
 (38,⟨.struct [(0,37,2),(2,3,1),(3,22,1)],4,64,[.int .i64 0,.slice none 0 0,.int .i64 0,.slice none 0 0],true⟩),
 (39,⟨.struct [(0,37,2),(2,3,1),(3,22,1)],4,64,[.int .i64 0,.slice none 0 0,.int .i64 0,.slice none 0 0],true⟩),
 (44,⟨.slice 22,1,24,[.slice none 0 0],false⟩),
 (48,⟨.struct [(0,27,1),(1,27,1)],2,48,[.slice none 0 0,.slice none 0 0],true⟩),
 (49,⟨.struct [(0,27,1),(1,27,1)],2,48,[.slice none 0 0,.slice none 0 0],true⟩),
 (59,⟨.slice 27,1,24,[.slice none 0 0],false⟩),
 (61,⟨.slice 66,1,24,[.slice none 0 0],false⟩),
 (62,⟨.slice 68,1,24,[.slice none 0 0],false⟩),
 (63,⟨.struct [(0,3,1),(1,61,1),(2,3,1),(3,62,1),(4,3,1)],5,72,[.int .i64 0,.slice none 0 0,.int .i64 0,.slice none 0 0,.int .i64 0],true⟩),
 (64,⟨.struct [(0,3,1),(1,61,1),(2,3,1),(3,62,1),(4,3,1)],5,72,[.int .i64 0,.slice none 0 0,.int .i64 0,.slice none 0 0,.int .i64 0],true⟩),
 (65,⟨.struct [(0,3,1),(1,3,1)],2,16,[.int .i64 0,.int .i64 0],true⟩),
 (66,⟨.struct [(0,3,1),(1,3,1)],2,16,[.int .i64 0,.int .i64 0],true⟩),
 (67,⟨.struct [(0,3,1),(1,3,1),(2,3,1),(3,61,1)],4,48,[.int .i64 0,.int .i64 0,.int .i64 0,.slice none 0 0],true⟩),
 (68,⟨.struct [(0,3,1),(1,3,1),(2,3,1),(3,61,1)],4,48,[.int .i64 0,.int .i64 0,.int .i64 0,.slice none 0 0],true⟩),
 (70,⟨.slice 82,1,24,[.slice none 0 0],false⟩),
 (71,⟨.struct [(0,70,1),(1,70,1)],2,48,[.slice none 0 0,.slice none 0 0],true⟩),
 (72,⟨.struct [(0,70,1),(1,70,1)],2,48,[.slice none 0 0,.slice none 0 0],true⟩),
 (74,⟨.slice 49,1,24,[.slice none 0 0],false⟩),
 (78,⟨.struct [(0,3,1),(1,3,1)],2,16,[.int .i64 0,.int .i64 0],true⟩),
 (79,⟨.struct [(0,3,1),(1,3,1)],2,16,[.int .i64 0,.int .i64 0],true⟩),
 (80,⟨.slice 79,1,24,[.slice none 0 0],false⟩),
 (81,⟨.struct [(0,79,2),(2,80,1),(3,27,1),(4,80,1)],5,88,[.int .i64 0,.int .i64 0,.slice none 0 0,.slice none 0 0,.slice none 0 0],true⟩),
 (82,⟨.struct [(0,79,2),(2,80,1),(3,27,1),(4,80,1)],5,88,[.int .i64 0,.int .i64 0,.slice none 0 0,.slice none 0 0,.slice none 0 0],true⟩),
 (95,⟨.slice 4,1,24,[.slice none 0 0],false⟩),
 (96,⟨.ptr 98,1,8,[.pointer none],false⟩),
 (97,⟨.struct [(0,26,3),(3,27,1),(4,27,1)],5,120,[.slice none 0 0,.slice none 0 0,.slice none 0 0,.slice none 0 0,.slice none 0 0],true⟩),
 (98,⟨.struct [(0,26,3),(3,27,1),(4,27,1)],5,120,[.slice none 0 0,.slice none 0 0,.slice none 0 0,.slice none 0 0,.slice none 0 0],true⟩),
 (100,⟨.slice 187,1,24,[.slice none 0 0],false⟩),
 (125,⟨.ptr 127,1,8,[.pointer none],false⟩),
 (126,⟨.struct [(0,26,3),(3,100,1),(4,28,1)],5,120,[.slice none 0 0,.slice none 0 0,.slice none 0 0,.slice none 0 0,.slice none 0 0],true⟩),
 (127,⟨.struct [(0,26,3),(3,100,1),(4,28,1)],5,120,[.slice none 0 0,.slice none 0 0,.slice none 0 0,.slice none 0 0,.slice none 0 0],true⟩),
 (132,⟨.ptr 136,1,8,[.pointer none],false⟩),
 (135,⟨.struct [(0,72,2),(2,26,3),(5,27,1)],6,144,[.slice none 0 0,.slice none 0 0,.slice none 0 0,.slice none 0 0,.slice none 0 0,.slice none 0 0],true⟩),
 (136,⟨.struct [(0,72,2),(2,26,3),(5,27,1)],6,144,[.slice none 0 0,.slice none 0 0,.slice none 0 0,.slice none 0 0,.slice none 0 0,.slice none 0 0],true⟩),
 (166,⟨.ptr 168,1,8,[.pointer none],false⟩),
 (167,⟨.struct [(0,64,5),(5,27,1),(6,22,1),(7,95,1),(8,3,1),(9,44,1)],10,176,[.int .i64 0,.slice none 0 0,.int .i64 0,.slice none 0 0,.int .i64 0,.slice none 0 0,.slice none 0 0,.slice none 0 0,.int .i64 0,.slice none 0 0],true⟩),
 (168,⟨.struct [(0,64,5),(5,27,1),(6,22,1),(7,95,1),(8,3,1),(9,44,1)],10,176,[.int .i64 0,.slice none 0 0,.int .i64 0,.slice none 0 0,.int .i64 0,.slice none 0 0,.slice none 0 0,.slice none 0 0,.int .i64 0,.slice none 0 0],true⟩),
 (172,⟨.slice 174,1,24,[.slice none 0 0],false⟩),
 (174,⟨.ptr 176,1,8,[.pointer none],false⟩),
 (175,⟨.struct [(0,22,1),(1,22,1)],2,48,[.slice none 0 0,.slice none 0 0],true⟩),
 (176,⟨.struct [(0,22,1),(1,22,1)],2,48,[.slice none 0 0,.slice none 0 0],true⟩),
 (187,⟨.struct [(0,37,2),(2,3,1),(3,22,1)],4,64,[.int .i64 0,.slice none 0 0,.int .i64 0,.slice none 0 0],true⟩),
 (196,⟨.ptr 72,1,8,[.pointer none],false⟩),
 (204,⟨.ptr 206,1,8,[.pointer none],false⟩),
 (205,⟨.struct [(0,26,3),(3,27,1),(4,100,1)],5,120,[.slice none 0 0,.slice none 0 0,.slice none 0 0,.slice none 0 0,.slice none 0 0],true⟩),
 (206,⟨.struct [(0,26,3),(3,27,1),(4,100,1)],5,120,[.slice none 0 0,.slice none 0 0,.slice none 0 0,.slice none 0 0,.slice none 0 0],true⟩),
 (213,⟨.struct [(0,64,5),(5,27,1),(6,44,1),(7,4,1)],8,128,[.int .i64 0,.slice none 0 0,.int .i64 0,.slice none 0 0,.int .i64 0,.slice none 0 0,.slice none 0 0,.bool false],true⟩),
 (214,⟨.struct [(0,64,5),(5,27,1),(6,44,1),(7,4,1)],8,128,[.int .i64 0,.slice none 0 0,.int .i64 0,.slice none 0 0,.int .i64 0,.slice none 0 0,.slice none 0 0,.bool false],true⟩),
 (223,⟨.int .u64,1,8,[.int .u64 0],false⟩),
 (252,⟨.ptr 214,1,8,[.pointer none],false⟩),
 (256,⟨.slice 62,1,24,[.slice none 0 0],false⟩),
 (260,⟨.int .i64,1,8,[.int .i64 0],false⟩),
 (267,⟨.int .u32,1,4,[.int .u32 0],false⟩),
 (269,⟨.int .u64,1,8,[.int .u64 0],false⟩),
 (275,⟨.slice 70,1,24,[.slice none 0 0],false⟩),
 (277,⟨.map 79 3,1,8,[.map none],false⟩),
 (295,⟨.int .u64,1,8,[.int .u64 0],false⟩),
 (299,⟨.ptr 3,1,8,[.pointer none],false⟩),
 (304,⟨.ptr 306,1,8,[.pointer none],false⟩),
 (305,⟨.struct [(0,70,1),(1,277,1)],2,32,[.slice none 0 0,.map none],true⟩),
 (306,⟨.struct [(0,70,1),(1,277,1)],2,32,[.slice none 0 0,.map none],true⟩),
 (310,⟨.ptr 295,1,8,[.pointer none],false⟩),
 (313,⟨.slice 80,1,24,[.slice none 0 0],false⟩),
 (315,⟨.slice 319,1,24,[.slice none 0 0],false⟩),
 (318,⟨.struct [(0,3,1),(1,3,1),(2,9,1)],3,32,[.int .i64 0,.int .i64 0,.string ⟨#[]⟩],true⟩),
 (319,⟨.struct [(0,3,1),(1,3,1),(2,9,1)],3,32,[.int .i64 0,.int .i64 0,.string ⟨#[]⟩],true⟩),
 (321,⟨.ptr 323,1,8,[.pointer none],false⟩),
 (322,⟨.struct [(0,9,1),(1,3,1)],2,24,[.string ⟨#[]⟩,.int .i64 0],true⟩),
 (323,⟨.struct [(0,9,1),(1,3,1)],2,24,[.string ⟨#[]⟩,.int .i64 0],true⟩),
 (333,⟨.struct [(0,17,1),(1,17,1),(2,17,1),(3,9,1)],4,40,[.pointer none,.pointer none,.pointer none,.string ⟨#[]⟩],false⟩),
 (334,⟨.struct [(0,17,1),(1,17,1),(2,17,1),(3,9,1)],4,40,[.pointer none,.pointer none,.pointer none,.string ⟨#[]⟩],false⟩),
 (336,⟨.struct [(0,335,0)],0,0,[],false⟩),
 (337,⟨.struct [(0,335,0)],0,0,[],false⟩),
 (339,⟨.int .u8,1,1,[.int .u8 0],false⟩),
 (340,⟨.int .u8,1,1,[.int .u8 0],false⟩),
 (342,⟨.ptr 5,1,8,[.pointer none],false⟩),
 (343,⟨.int .i32,1,4,[.int .i32 0],false⟩),
 (344,⟨.int .i32,1,4,[.int .i32 0],false⟩),
 (345,⟨.struct [(0,12,1),(1,12,1),(2,267,1),(3,339,1),(4,5,1),(5,5,1),(6,340,1),(7,341,1),(8,342,1),(9,343,1),(10,344,1)],11,48,[.int .u64 0,.int .u64 0,.int .u32 0,.int .u8 0,.int .u8 0,.int .u8 0,.int .u8 0,.nilFunc,.pointer none,.int .i32 0,.int .i32 0],false⟩),
 (346,⟨.struct [(0,12,1),(1,12,1),(2,267,1),(3,339,1),(4,5,1),(5,5,1),(6,340,1),(7,341,1),(8,342,1),(9,343,1),(10,344,1)],11,48,[.int .u64 0,.int .u64 0,.int .u32 0,.int .u8 0,.int .u8 0,.int .u8 0,.int .u8 0,.nilFunc,.pointer none,.int .i32 0,.int .i32 0],false⟩)]
theorem b9:dz Tryz.prog tab:=by
 unfold dz;kernel_rfl
end
section
open Go Go.RowKit
theorem str_beq (s u:ByteArray):(s.toList == u.toList)=decide (s=u):=by
 rw [ByteArray.toList_eq,ByteArray.toList_eq,E8];simp only [beq_iff_eq,decide_eq_true_eq];exact⟨λh=>by cases s;cases u;congr 1;exact Array.toList_inj.1 h,λh=>by rw [h]⟩
def Ctx.sh (Γ:Ctx) (t:TypeId):Sh:=(aj Γ.τ t).sh
def Ctx.cells (Γ:Ctx) (t:TypeId):Nat:=(aj Γ.τ t).cells
theorem Ctx.ti {Γ:Ctx} {t:TypeId} (h:Γ.sh t≠.other):tiOf Γ.P t=some (aj Γ.τ t):=tiGet_ok Γ.τok t h
theorem ie {P:Program} {t:TypeId} {i:TI} (h:tiOf P t=some i):∃ u inf z,P.underlying t=some u/\P.info? t=some inf/\inf.zero=some z/\i.sh=m5 P u/\inf.size=i.cells/\inf.bytes=i.bytes/\z.cells.toList=i.zero/\i.eqs=flatEqB P t:=by
 unfold tiOf at h;split at h
 ·rename_i u inf h1 h2;split at h
  ·rename_i z hz;cases h;exact⟨u,inf,z,h1,h2,hz,rfl,rfl,rfl,rfl,rfl⟩
  ·cases h
 ·cases h
theorem Ctx.str {Γ:Ctx} {t:TypeId} (h:Γ.sh t = .str):Γ.P.underlying t=some .string:=by
 obtain⟨u,inf,z,h1,_,_,h4,_⟩:=ie (Γ.ti (by rw [h];intro h;cases h));rw [h1];have:m5 Γ.P u = .str:=h4▸h
 cases u<;>simp [m5] at this ⊢
theorem Ctx.slice {Γ:Ctx} {t e:TypeId} (h:Γ.sh t = .slice e):Γ.P.underlying t=some (.slice e):=by
 obtain⟨u,inf,z,h1,_,_,h4,_⟩:=ie (Γ.ti (by rw [h];intro h;cases h));rw [h1];have:m5 Γ.P u = .slice e:=h4▸h
 cases u<;>simp [m5] at this ⊢
 exact this
theorem Ctx.info {Γ:Ctx} {t:TypeId} (h:Γ.sh t≠.other):∃ inf z,Γ.P.info? t=some inf/\inf.zero=some z/\inf.size=Γ.cells t/\inf.bytes=(aj Γ.τ t).bytes/\z.cells.toList=(aj Γ.τ t).zero:=by
 obtain⟨u,inf,z,h1,h2,h3,h4,h5,h6,h7,_⟩:=ie (Γ.ti h);exact⟨inf,z,h2,h3,h5,h6,h7⟩
theorem Ctx.struct {Γ:Ctx} {t:TypeId} {l} (h:Γ.sh t = .struct l):∃ fs,Γ.P.underlying t=some (.struct fs)/\l=fs.toList.map λf=>(f.offset,f.type,((Γ.P.info? f.type).map (·.size)).getD 0):=by
 obtain⟨u,inf,z,h1,_,_,h4,_⟩:=ie (Γ.ti (by rw [h];intro h;cases h));have:m5 Γ.P u = .struct l:=h4▸h
 cases u<;>simp [m5] at this
 rename_i fs;exact⟨fs,h1,this.symm⟩
def Sh.known:Sh->Bool|.other=>false|_=>true
theorem Sh.known_ne {s:Sh} (h:s.known=true):s≠.other:=by intro e;subst e;cases h
def Sh.isAgg:Sh->Bool|.struct _=>true|_=>false
theorem Ctx.agg {Γ:Ctx} {t:TypeId} (h:Γ.sh t≠.other):∀ w,(Go.isAgg t).run Γ.P w = .ok (Γ.sh t).isAgg w:=by
 intro w;obtain⟨u,inf,z,h1,_,_,h4,_⟩:=ie (Γ.ti h);have h5:m5 Γ.P u=Γ.sh t:=h4.symm;rw [<- h5] at h ⊢;cases u<;>simp [Go.isAgg,run_underlying h1,m5,Sh.isAgg] at h ⊢
def cOkB:Value->Bool
 | .int k n=>(Lit.int k n).wf
 | .string s=>Nat.ble s.size maxLen
 | _=>true
def dh:Operand->Bool
 | .const v=>cOkB v
 | _=>true
theorem ce {x:Operand} (h:dh x=true):opOk x:=by
 cases x with
 | const v =>
  cases v with
  | int k n=>exact h
  | string s=>exact Ab h
  | _=>trivial
 | _=>trivial
section
variable {Γ : Ctx} {k : Nat -> Prop} {L : Sl} {H : Hp} {K : cy} {ops : List Oper} {rest : List Oper} {a : Act} {w : World} {e : Env}
theorem evI (m:Models Γ k L H e a w) {x:Operand} {i:IntKind} {n:Int} (h:ap L x = .d (.int i n)):a.eval x = .int i n:=by
 cases x with
 | tmp t =>
  have hr:=m.slot t;simp only [ap] at h;rw [h] at hr;show a.tmps.getD t undef=_;generalize a.tmps.getD t undef=v at hr;cases hr;rfl
 | const v =>
  simp only [ap] at h;unfold cSV at h;split at h<;>cases h
  rfl
 | global g=>cases h
 | func f=>cases h
theorem evIw (m:Models Γ k L H e a w) {x:Operand} {i:IntKind} {n:Int} (hx:dh x=true) (h:ap L x = .d (.int i n)):(Lit.int i n).wf=true:=by
 have hr:=m.op x (ce hx);rw [h] at hr;generalize a.eval x=v at hr;cases hr;assumption
theorem evB (m:Models Γ k L H e a w) {x:Operand} {b:Bool} (h:ap L x = .d (.bool b)):a.eval x = .bool b:=by
 cases x with
 | tmp t =>
  have hr:=m.slot t;simp only [ap] at h;rw [h] at hr;show a.tmps.getD t undef=_;generalize a.tmps.getD t undef=v at hr;cases hr;rfl
 | const v =>
  simp only [ap] at h;unfold cSV at h;split at h<;>cases h
  rfl
 | global g=>cases h
 | func f=>cases h
theorem evS (m:Models Γ k L H e a w) {x:Operand} {s:ByteArray} (h:ap L x = .d (.str s)):a.eval x = .string s:=by
 cases x with
 | tmp t =>
  have hr:=m.slot t;simp only [ap] at h;rw [h] at hr;show a.tmps.getD t undef=_;generalize a.tmps.getD t undef=v at hr;cases hr;rfl
 | const v =>
  simp only [ap] at h;unfold cSV at h;split at h<;>cases h
  rfl
 | global g=>cases h
 | func f=>cases h
def Ev (Γ:Ctx) (k:Nat->Prop) (L:Sl) (H:Hp) (op:Op) (ty:TypeId) (s:SV):Prop :=
 ∀ e a w,Models Γ k L H e a w->∃ v,(∀ (dst:Option Tmp) pos after guard w',Below w.heap.size w w'->(execOp a.eval ⟨dst,op,ty,pos,after,guard⟩).run Γ.P w' = .ok (.value v) w')/\Rel (Γ.X e H) e w s v
def OpOk (Γ:Ctx) (o:Oper) (k:Nat->Prop) (L:Sl) (H:Hp) (k':Nat->Prop) (L':Sl) (H':Hp):Prop :=
 ∀ e a w Q,Models Γ k L H e a w->o.wp Γ.P a w (λa' w'=>∃ e',Models Γ k' L' H' e' a' w') Q
theorem op_ev {d:Nat} {op:Op} {ty:TypeId} {pos:String} {af:Array Edge} {g:Option (Nat×Bool)} {s:SV} (h:Ev Γ k L H op ty s) (hd:Nat.blt d Γ.n=true) :
  OpOk Γ ⟨some d,op,ty,pos,af,g⟩ k L H k ((d,s)::L) H:=by
 intro e a w Q m;obtain⟨v,h1,h2⟩:=h e a w m;unfold Oper.wp;rw [h1 (some d) pos af g w (Below.refl _ _)];exact⟨e,m.put (Ab hd) h2⟩
def nl:List Oper->Nat->Option Oper
 | [],_=>none
 | o::_,0=>some o
 | _::l,n+1=>nl l n
theorem xf:∀ (l:List Oper) (n:Nat),nl l n=l[n]?
 | [],_=>by simp [nl]
 | o::_,0=>by simp [nl]
 | _::l,n+1=>by simp [nl,xf l n]
def au (ops:List Oper) (L:Sl):Option (Nat×Bool)->Option Bool
 | none=>some true
 | some (j,want)=>match nl ops j with
  | some o=>match o.dst with
   | some t=>match L.get t with
    | .d (.bool true)=>some want
    | .d (.bool false)=>some (!want)
    | .tup []=>some false
    | _=>none
   | none=>none
  | none=>none
theorem k8 {o:Oper} {b:Bool} (m:Models Γ k L H e a w) (h:au ops L o.guard=some b):Region.wanted o (yielded ops.toArray a.tmps)=b:=by
 unfold Region.wanted;cases hg:o.guard with
 | none=>rw [hg] at h;simpa [au] using h
 | some q =>
  obtain⟨j,want⟩:=q;rw [hg] at h;simp only [au,xf] at h;cases ho:ops[j]? with
  | none=>simp [ho] at h
  | some oj =>
   simp only [ho] at h;cases hd:oj.dst with
   | none=>simp [hd] at h
   | some t =>
    simp only [hd] at h;have hr:=m.slot t;have hy:∀ b',L.get t = .d (.bool b')->yielded ops.toArray a.tmps j=some b':=by
     intro b' hb';rw [hb'] at hr;generalize hv:a.tmps.getD t undef=v at hr;cases hr;have hv':a.tmps[t]?.getD undef=Value.bool b':=by rw [<- Da];exact hv
     cases ht:a.tmps[t]? with
     | none=>rw [ht] at hv';cases hv'
     | some u=>rw [ht] at hv';simp only [B6] at hv';subst hv';simp [yielded,ho,hd,ht]
    cases hs:L.get t with
    | tup ss =>
     cases ss with
     | cons _ _=>simp [hs] at h
     | nil =>
      simp only [hs,Option.some.injEq] at h;subst h;rw [hs] at hr;obtain⟨vs,hv,hl⟩:=hr;cases vs with
      | cons _ _=>exact hl.elim
      | nil =>
       have hn:yielded ops.toArray a.tmps j=none:=by
        have hv':a.tmps[t]?.getD undef=Value.tuple #[]:=by rw [<- Da];exact hv
        cases ht:a.tmps[t]? with
        | none=>simp [yielded,ho,hd,ht]
        | some u=>rw [ht] at hv';simp only [B6] at hv';subst hv';simp [yielded,ho,hd,ht]
       show (yielded ops.toArray a.tmps j == some want)=false;rw [hn];rfl
    | d x =>
     cases x with
     | bool b' =>
      simp only [hs] at h;simp only [hy b' hs];cases b'<;>cases want<;>simp_all
     | _=>simp [hs] at h
    | _=>simp [hs] at h
end
section
variable {Γ : Ctx} {k : Nat} {L : Sl} {H : Hp} {K : cy} {ops : List Oper} {rest : List Oper} {a : Act} {w : World} {e : Env}
theorem gp {op:Op} {ty:TypeId} {pos:String} {af:Array Edge} {g:Option (Nat×Bool)} {d:Option Nat} (hw:au ops L g=some true)
  (h:∀ e a w,Models Γ k L H e a w->(Oper.mk d op ty pos af g).wp Γ.P a w (λa' w'=>∃ (k':Nat) (L':Sl) (H':Hp) (e':Env),Models Γ k' L' H' e' a' w'/\DL Γ ops rest K k' L' H') (vh Γ (fh K))) :
  DL Γ ops (⟨d,op,ty,pos,af,g⟩::rest) K k L H:=by
 intro e a w m;refine wpList_step λK' hK'=>?_
 rw [if_pos (k8 m hw)];refine Oper.wp_mono ?_ (h e a w m);rintro a' w' ⟨k',L',H',e',m',hd⟩;exact hK' _ _ (hd e' a' w' m')
theorem dl_skip {op:Op} {ty:TypeId} {pos:String} {af:Array Edge} {g:Option (Nat×Bool)} {d:Nat} (hw:au ops L g=some false) (hd:Nat.blt d Γ.n=true)
  (h:DL Γ ops rest K k ((d,.tup [])::L) H):DL Γ ops (⟨some d,op,ty,pos,af,g⟩::rest) K k L H:=by
 intro e a w m;refine wpList_step λK' hK'=>?_
 rw [if_neg (by rw [k8 m hw];exact Bool.false_ne_true)];exact hK' _ _ (h e _ w (m.put (s:=.tup []) (Ab hd) ⟨[],rfl,trivial⟩))
theorem z6 {op:Op} {ty:TypeId} {pos:String} {af:Array Edge} {g:Option (Nat×Bool)} {d:Option Nat} {k':Nat} {L':Sl} {H':Hp} (hw:au ops L g=some true)
  (h:OpOk Γ ⟨d,op,ty,pos,af,g⟩ k L H k' L' H') (hk:DL Γ ops rest K k' L' H'):DL Γ ops (⟨d,op,ty,pos,af,g⟩::rest) K k L H:=by
 refine gp hw λe a w m=>Oper.wp_mono ?_ (h e a w _ m)
 rintro a' w' ⟨e',m'⟩;exact⟨k',L',H',e',m',hk⟩
theorem dl_ev {d:Nat} {op:Op} {ty:TypeId} {pos:String} {af:Array Edge} {g:Option (Nat×Bool)} {s:SV} (hw:au ops L g=some true) (h:Ev Γ k L H op ty s) (hd:Nat.blt d Γ.n=true)
  (hk:DL Γ ops rest K k ((d,s)::L) H):DL Γ ops (⟨some d,op,ty,pos,af,g⟩::rest) K k L H:=by
 refine gp hw λe a w m=>?_
 obtain⟨v,h1,h2⟩:=h e a w m;unfold Oper.wp;rw [h1 (some d) pos af g w (Below.refl _ _)];exact⟨k,_,H,e,m.put (Ab hd) h2,hk⟩
theorem dl_split {t:Nat} {b:Bool} (hb:L.get t = .d (.bool b)) (ht:b=true->DL Γ ops rest K k ((t,.d (.bool true))::L) H) (hf:b=false->DL Γ ops rest K k ((t,.d (.bool false))::L) H) :
  DL Γ ops rest K k L H:=by
 intro e a w m;have key:∀ b',b=b'->Models Γ k ((t,.d (.bool b'))::L) H e a w:=λb' hb' =>
  ⟨m.toHeap,m.defers,m.len,λt'=>by
    rw [Sl.get_cons];split
    ·rename_i h;subst h;rw [<- hb',<- hb];exact m.slot t
    ·exact m.slot t'⟩
 cases b with
 | true=>exact ht rfl e a w (key true rfl)
 | false=>exact hf rfl e a w (key false rfl)
end
section
variable {Γ : Ctx} {k : Nat -> Prop} {L : Sl} {H : Hp} {K : cy} {ops : List Oper} {rest : List Oper} {a : Act} {w : World} {e : Env}
theorem ev_move {x:Operand} {ty:TypeId} (hx:dh x=true):Ev Γ k L H (.move x) ty (ap L x):=by
 intro e a w m;exact⟨a.eval x,λ_ _ _ _ w' _=>by simp [execOp],m.op x (ce hx)⟩
theorem ev_assign {x:Operand} {ty:TypeId} (hx:dh x=true):Ev Γ k L H (.assign x) ty (ap L x):=by
 intro e a w m;exact⟨a.eval x,λ_ _ _ _ w' _=>by simp [execOp],m.op x (ce hx)⟩
theorem iu {op:BinOp} {t t' ty:TypeId} {x y:Operand} {i:IntKind} {n m':Int} {s:SV} {v:Value} (hx:ap L x = .d (.int i n)) (hy:ap L y = .d (.int i m'))
  (hr:∀ P w,(binOp op t (.int i n) (.int i m')).run P w = .ok v w) (hv:∀ X e w,Rel X e w s v):Ev Γ k L H (.binOp op t x y t') ty s:=by
 intro e a w m;refine⟨v,λ_ _ _ _ w' _=>?_,hv _ _ _⟩
 simp only [execOp,evI m hx,evI m hy];have he:eqGuard op t x y (Value.int i n) (Value.int i m')=pure ():=by unfold eqGuard;split<;>rfl
 simp [he,hr]
section
variable {t t' ty : TypeId} {x y : Operand} {i : IntKind} {n m' : Int}
theorem ev_lss (hx:ap L x = .d (.int i n)) (hy:ap L y = .d (.int i m')):Ev Γ k L H (.binOp .lss t x y t') ty (.d (.bool (decide (n<m')))) :=
 iu hx hy (λP w=>by simp [binOp,Op.intCmp]) λ_ _ _=>.bool
theorem ev_leq (hx:ap L x = .d (.int i n)) (hy:ap L y = .d (.int i m')):Ev Γ k L H (.binOp .leq t x y t') ty (.d (.bool (decide (n<=m')))) :=
 iu hx hy (λP w=>by simp [binOp,Op.intCmp]) λ_ _ _=>.bool
theorem ev_gtr (hx:ap L x = .d (.int i n)) (hy:ap L y = .d (.int i m')):Ev Γ k L H (.binOp .gtr t x y t') ty (.d (.bool (decide (m'<n)))) :=
 iu hx hy (λP w=>by simp [binOp,Op.intCmp]) λ_ _ _=>.bool
theorem ev_geq (hx:ap L x = .d (.int i n)) (hy:ap L y = .d (.int i m')):Ev Γ k L H (.binOp .geq t x y t') ty (.d (.bool (decide (m'<=n)))) :=
 iu hx hy (λP w=>by simp [binOp,Op.intCmp]) λ_ _ _=>.bool
theorem ev_eql (hx:ap L x = .d (.int i n)) (hy:ap L y = .d (.int i m')):Ev Γ k L H (.binOp .eql t x y t') ty (.d (.bool (decide (n=m')))) :=
 iu hx hy (λP w=>by simp [binOp,Op.intCmp];rfl) λ_ _ _=>.bool
theorem ev_neq (hx:ap L x = .d (.int i n)) (hy:ap L y = .d (.int i m')):Ev Γ k L H (.binOp .neq t x y t') ty (.d (.bool (decide (n≠m')))) :=
 iu hx hy (λP w=>by simp [binOp,Op.intCmp];rfl) λ_ _ _=>.bool
theorem ev_add (hx:ap L x = .d (.int .i64 n)) (hy:ap L y = .d (.int .i64 m')) (hw:-9223372036854775808<=n+m'/\n+m'<=9223372036854775807):Ev Γ k L H (.binOp .add t x y t') ty (.d (.int .i64 (n+m'))) :=
 iu hx hy (λP w=>by simp [binOp,Op.intArith];rfl) λ_ _ _=>by rw [IntWalk.i64_in _ hw];exact .int (WalkArith.wf_i64 hw)
end
section
variable {t t' ty : TypeId} {x y : Operand} {i : IntKind} {n m' : Int}
theorem ev_not {b:Bool} (hx:ap L x = .d (.bool b)):Ev Γ k L H (.unOp .not t x) ty (.d (.bool (!b))):=by
 intro e a w m;exact⟨.bool (!b),λ_ _ _ _ w' _=>by simp [execOp,evB m hx,Op.unary],.bool⟩
theorem ev_pick {c:Operand} {b:Bool} (hc:ap L c = .d (.bool b)) (hx:b=true->dh x=true) (hy:b=false->dh y=true) :
  Ev Γ k L H (.pick c x y) ty (match b with|true=>ap L x|false=>ap L y):=by
 intro e a w m;cases b with
 | true=>exact⟨a.eval x,λ_ _ _ _ w' _=>by simp [execOp,evB m hc,asBool],m.op x (ce (hx rfl))⟩
 | false=>exact⟨a.eval y,λ_ _ _ _ w' _=>by simp [execOp,evB m hc,asBool],m.op y (ce (hy rfl))⟩
theorem ev_eqs {s u:ByteArray} (hx:ap L x = .d (.str s)) (hy:ap L y = .d (.str u)):Ev Γ k L H (.binOp .eql t x y t') ty (.d (.bool (decide (s=u)))):=by
 intro e a w m;refine⟨_,λ_ _ _ _ w' _=>?_,.bool⟩
 simp only [execOp,evS m hx,evS m hy];simp [eqGuard,binOp,Op.stringOp,str_beq]
theorem ev_nes {s u:ByteArray} (hx:ap L x = .d (.str s)) (hy:ap L y = .d (.str u)):Ev Γ k L H (.binOp .neq t x y t') ty (.d (.bool (decide (s≠u)))):=by
 intro e a w m;refine⟨_,λ_ _ _ _ w' _=>?_,.bool⟩
 simp only [execOp,evS m hx,evS m hy];simp [eqGuard,binOp,Op.stringOp,str_beq]
theorem ev_len_str {s:ByteArray} (ht:Γ.sh t = .str) (hx:ap L x = .d (.str s)) (hxo:dh x=true):Ev Γ k L H (.call { callee:=.builtin .len,args:=#[x],argTypes:=#[t] }) ty (.d (.int .i64 s.size)):=by
 intro e a w m;have hs:s.size<=maxLen:=by
  have hr:=m.op x (ce hxo);rw [hx] at hr;generalize a.eval x=v at hr;cases hr;assumption
 refine⟨.int .i64 s.size,λ_ _ _ _ w' _=>?_,.int (WalkArith.wf_i64 (by unfold maxLen at hs;omega))⟩
 simp [execOp,resolve,invoke,builtin,evS m hx,Builtin.len_,goInt,run_underlying (Ctx.str ht)]
theorem ev_index_str {s:ByteArray} {n:Int} (ht:Γ.sh t = .str) (hx:ap L x = .d (.str s)) (hy:ap L y = .d (.int .i64 n)) (h0:0<=n) (h1:n.toNat<s.size) :
  Ev Γ k L H (.index t x y) ty (.d (.int .u8 (s[n.toNat]'h1).toNat)):=by
 intro e a w m;refine⟨.int .u8 (s[n.toNat]'h1).toNat,λ_ _ _ _ w' _=>?_,.int (WalkArith.wf_u8 (by have:=(s[n.toNat]'h1).toNat_lt;omega))⟩
 simp [execOp,Instr.index,evS m hx,evI m hy,asIntOf,run_underlying (Ctx.str ht),h0,h1]
end
end
end
section
open Go Go.RowKit
section
variable {Γ : Ctx} {k : Nat -> Prop} {L : Sl} {H : Hp} {K : cy} {ops : List Oper} {rest : List Oper} {a : Act} {w : World} {e : Env} {t t' ty : TypeId} {x y : Operand}
theorem Addr.add_at (b off j:Nat):(⟨b,off,none⟩:Addr).add j=⟨b,off+j,none⟩:=by
 unfold Go.Addr.add;split
 ·rename_i h;subst h;rfl
 ·rfl
theorem evT (m:Models Γ k L H e a w) {x:Operand} {s:SV} (h:ap L x=s) (hs:∀ v,cSV v≠s):Rel (Γ.X e H) e w s (a.eval x):=by
 cases x with
 | tmp t=>rw [<- h];exact m.slot t
 | const v=>exact absurd h (hs v)
 | global g=>rw [<- h];trivial
 | func f=>rw [<- h];exact⟨[],rfl,trivial⟩
theorem mu (v:Value) (es:Nat) (xs:List (List D)):cSV v≠.d (.slice es xs):=by unfold cSV;split<;>simp
theorem cSV_pd (v:Value) (ds:List D):cSV v≠.pd ds:=by unfold cSV;split<;>simp
theorem cSV_loc (v:Value) (i o:Nat):cSV v≠.loc i o:=by unfold cSV;split<;>simp
theorem l9 (v:Value) (i:Nat):cSV v≠.row i:=by unfold cSV;split<;>simp
theorem x9 (v:Value) (i j s o:Nat):cSV v≠.prow i j s o:=by unfold cSV;split<;>simp
theorem cSV_agg (v:Value) (ss:List SV):cSV v≠.agg ss:=by unfold cSV;split<;>simp
theorem cSV_tup (v:Value) (ss:List SV):cSV v≠.tup ss:=by unfold cSV;split<;>simp
theorem RepC.slice_inv {X w v es xs} (h:RepC X w v (.slice es xs)):∃ ao cap,v = .slice ao xs.length cap/\xs.length<=cap/\cap<=maxLen/\(ao=none->xs=[]):=by
 cases h with
 | nil=>exact⟨none,0,rfl,by simp,Ak _,λ_=>rfl⟩
 | zero=>exact⟨_,0,rfl,by simp,Ak _,λ_=>rfl⟩
 | slice c hn hc hm=>subst hn;exact⟨_,_,rfl,hc,hm,λh=>by cases h⟩
theorem ev_len_d {es:Nat} {xs:List (List D)} (ht:Γ.sh t = .slice t') (hx:ap L x = .d (.slice es xs)):Ev Γ k L H (.call { callee:=.builtin .len,args:=#[x],argTypes:=#[t] }) ty (.d (.int .i64 xs.length)):=by
 intro e a w m;obtain⟨ao,cap,hv,h1,h2,_⟩:=(evT m hx (mu · _ _)).slice_inv;refine⟨.int .i64 xs.length,λ_ _ _ _ w' _=>?_,.int (WalkArith.wf_i64 (by unfold maxLen at h2;omega))⟩
 simp [execOp,resolve,invoke,builtin,hv,Builtin.len_,goInt,run_underlying (Ctx.slice ht)]
theorem ev_len_nils (ht:Γ.sh t = .slice t') (hx:ap L x = .nils):Ev Γ k L H (.call { callee:=.builtin .len,args:=#[x],argTypes:=#[t] }) ty (.d (.int .i64 0)):=by
 intro e a w m;have hv:a.eval x = .slice none 0 0:=by
  have hok:opOk x:=by
   cases x with
   | const v=>simp only [ap] at hx;unfold cSV at hx;split at hx<;>simp_all [opOk,cOk]
   | _=>trivial
  have:=m.op x hok
  rw [hx] at this;exact this
 refine⟨.int .i64 0,λ_ _ _ _ w' _=>?_,.int (by decide)⟩
 simp [execOp,resolve,invoke,builtin,hv,Builtin.len_,goInt,run_underlying (Ctx.slice ht)]
theorem Hp.mem_of {id:Nat} {b:HB} (h:Hp.get H id=some b):(id,b)∈H:=Hp.get_mem H id b h
theorem ev_len_row {id es:Nat} {xs:List (List D)} {te:TypeId} (ht:Γ.sh t = .slice t') (hx:ap L x = .row id) (hH:Hp.get H id=some (.row te es xs)) :
  Ev Γ k L H (.call { callee:=.builtin .len,args:=#[x],argTypes:=#[t] }) ty (.d (.int .i64 xs.length)):=by
 intro e a w m;have hv:=(evT m hx (l9 · _)).2.1;obtain⟨vs,ho,_⟩:=(m.heap _ (Hp.mem_of hH)).2;have hs:∃ ao cap,e.η id = .slice ao xs.length cap/\xs.length<=maxLen:=by
  rcases ho.2 with ⟨h1,h2⟩|⟨g,cap,cur,h1,_,_,h3,h4,_⟩
  ·exact⟨none,0,by rw [h1,h2],by rw [h2];exact Ak _⟩
  ·exact⟨_,_,h1,Nat.le_trans h3 h4⟩
 obtain⟨ao,cap,hs,hm⟩:=hs;rw [hs] at hv;refine⟨.int .i64 xs.length,λ_ _ _ _ w' _=>?_,.int (WalkArith.wf_i64 (by unfold maxLen at hm;omega))⟩
 simp [execOp,resolve,invoke,builtin,hv,Builtin.len_,goInt,run_underlying (Ctx.slice ht)]
theorem RepC.at {X w v es} {xs:List (List D)} (h:RepC X w v (.slice es xs)) (i:Nat) (hi:i<xs.length):∃ b off n cap,v = .slice (some ⟨b,off,none⟩) n cap/\n=xs.length/\¬ X b/\b<w.heap.size /\
  ∀ j (hj:j<xs[i].length),∃ u,w.cell? ⟨b,off+i*es+j,none⟩=some u/\RepC X w u xs[i][j]:=by
 cases h with
 | nil=>simp at hi
 | zero=>simp at hi
 | slice c hn hc hm hX hb he hcell hrep=>exact⟨_,_,_,_,rfl,hn,hX,hb,λj hj=>⟨_,hcell i hi j hj,hrep i hi j hj⟩⟩
theorem dv {inf:TypeInfo} (h:Γ.P.info? t=some inf) (w:World):(sizeOf t).run Γ.P w = .ok inf.size w:=by
 simp [sizeOf,typeInfo,h]
theorem ev_index_d {es:Nat} {xs:List (List D)} {n:Int} (ht:Γ.sh t = .slice t') (hc:Γ.cells t'=es) (hkn:(Γ.sh t').known=true) (hx:ap L x = .d (.slice es xs)) (hy:ap L y = .d (.int .i64 n))
  (h0:0<=n) (h1:n.toNat<xs.length):Ev Γ k L H (.indexAddr t x y) ty (.pd (xs[n.toNat]'h1)):=by
 intro e a w m;have ho:=Sh.known_ne hkn;obtain⟨b,off,n',cap,hv,hn,hX,hb,hcell⟩:=(evT m hx (mu · _ _)).at _ h1;obtain⟨inf,z,hi,_,hs,_⟩:=Ctx.info ho;refine⟨.pointer (some ⟨b,off+n.toNat*es,none⟩),λ_ _ _ _ w' _=>?_,⟨b,_,rfl,hb,hX,hcell⟩⟩
 have hlt:n<(n':Int):=by omega
 simp [execOp,Instr.indexAt,hv,evI m hy,asIntOf,run_underlying (Ctx.slice ht),h0,hlt,dv hi,hs,hc,Addr.add_at]
theorem ev_index_map {α:Type} {es:Nat} {l:List α} {f:α->List D} {n:Int} {j:Nat} (ht:Γ.sh t = .slice t') (hc:Γ.cells t'=es) (hkn:(Γ.sh t').known=true) (hx:ap L x = .d (.slice es (l.map f))) (hy:ap L y = .d (.int .i64 n))
  (hn:n=j) (h1:j<l.length):Ev Γ k L H (.indexAddr t x y) ty (.pd (f (l[j]'h1))):=by
 subst hn;have:=ev_index_d (Γ:=Γ) (k:=k) (L:=L) (H:=H) (ty:=ty) (t:=t) (x:=x) (y:=y) ht hc hkn hx hy (by omega) (by simpa using h1)
 simpa using this
theorem uy {s:TypeId} {f off fty sz:Nat} {l} {a0 a1:SV} (hs:Γ.sh s = .struct l) (hf:l[f]?=some (off,fty,sz)) (hz:Aw sz 0=false)
  (hx:ap L x=a0) (ha:(∃ ds,a0 = .pd ds/\a1 = .pd (ds.drop off))∨(∃ i o,a0 = .loc i o/\a1 = .loc i (o+off))∨(∃ i j es o,a0 = .prow i j es o/\a1 = .prow i j es (o+off))) :
  Ev Γ k L H (.fieldAddr s x f) ty a1:=by
 obtain⟨fs,hu,hl⟩:=Ctx.struct hs;subst hl;rw [List.getElem?_map] at hf;cases hff:fs.toList[f]? with
 | none=>rw [hff] at hf;cases hf
 | some fd =>
  rw [hff] at hf;simp only [Option.map_some,Option.some.injEq,Prod.mk.injEq] at hf;obtain⟨h1,h2,h3⟩:=hf;have hfa:fs[f]?=some fd:=by rw [<- Array.getElem?_toList];exact hff
  have hinf:∃ inf,Γ.P.info? fd.type=some inf/\inf.size≠0:=by
   cases hi:Γ.P.info? fd.type with
   | none=>rw [hi] at h3;exact absurd h3.symm (B0 hz)
   | some inf=>rw [hi] at h3;exact⟨inf,rfl,λh=>B0 hz (by rw [<- h3,<- h];rfl)⟩
  obtain⟨inf,hi,hne⟩:=hinf;have run:∀ (b o:Nat) (A:Act) (dst:Option Tmp) pos after guard w',A.eval x = .pointer (some ⟨b,o,none⟩) ->
    (execOp A.eval ⟨dst,.fieldAddr s x f,ty,pos,after,guard⟩).run Γ.P w' = .ok (.value (.pointer (some ⟨b,o+off,none⟩))) w':=by
   intro b o A dst pos after guard w' hA;simp [execOp,Instr.fieldAt,hA,run_underlying hu,hfa,Instr.sureAddr,fieldPlace,dv hi,hne,h1,Addr.add_at]
  intro e A w m;rcases ha with ⟨ds,rfl,rfl⟩|⟨i,o,rfl,rfl⟩|⟨i,j,es,o,rfl,rfl⟩
  ·obtain⟨b,o,hv,hb,hX,hcell⟩:=evT m hx (cSV_pd · _);refine⟨_,λdst pos after guard w' _=>run b o A dst pos after guard w' hv,⟨b,_,rfl,hb,hX,λj hj=>?_⟩⟩
   have hj':off+j<ds.length:=by simp at hj;omega
   obtain⟨u,g1,g2⟩:=hcell (off+j) hj';exact⟨u,by rw [F5];exact g1,by simpa using g2⟩
  ·obtain⟨hid,hv⟩:=evT m hx (cSV_loc · _ _);exact⟨_,λdst pos after guard w' _=>run _ o A dst pos after guard w' hv,⟨hid,rfl⟩⟩
  ·obtain⟨hid,g,n,cap,h5,hv⟩:=evT m hx (x9 · _ _ _ _);exact⟨_,λdst pos after guard w' _=>run _ _ A dst pos after guard w' hv,⟨hid,g,n,cap,h5,by rw [F5]⟩⟩
theorem ev_field_pd {s:TypeId} {f off fty sz:Nat} {l} {ds:List D} (hs:Γ.sh s = .struct l) (hf:l[f]?=some (off,fty,sz)) (hz:Aw sz 0=false) (hx:ap L x = .pd ds):Ev Γ k L H (.fieldAddr s x f) ty (.pd (ds.drop off)) :=
 uy hs hf hz hx (.inl ⟨ds,rfl,rfl⟩)
theorem ev_field_loc {s:TypeId} {f off fty sz i o:Nat} {l} (hs:Γ.sh s = .struct l) (hf:l[f]?=some (off,fty,sz)) (hz:Aw sz 0=false) (hx:ap L x = .loc i o):Ev Γ k L H (.fieldAddr s x f) ty (.loc i (o+off)) :=
 uy hs hf hz hx (.inr (.inl ⟨i,o,rfl,rfl⟩))
theorem ev_field_prow {s:TypeId} {f off fty sz i j es o:Nat} {l} (hs:Γ.sh s = .struct l) (hf:l[f]?=some (off,fty,sz)) (hz:Aw sz 0=false) (hx:ap L x = .prow i j es o):Ev Γ k L H (.fieldAddr s x f) ty (.prow i j es (o+off)) :=
 uy hs hf hz hx (.inr (.inr ⟨i,j,es,o,rfl,rfl⟩))
theorem yk (ho:Γ.sh t≠.other) (hg:(Γ.sh t).isAgg=false) {A:Act} {p:Addr} {v:Value} {w':World} (hA:A.eval x = .pointer (some p)) (hc:w'.cell? p=some v) (dst:Option Tmp) (pos) (after) (guard) :
  (execOp A.eval ⟨dst,.load t x,ty,pos,after,guard⟩).run Γ.P w' = .ok (.value v) w':=by
 simp [execOp,Instr.loadAt,hA,Instr.sureAddr,loadVar,Ctx.agg ho,hg,hc]
theorem jn {w w':World} (hb:Below w.heap.size w w') {p:Addr} {v:Value} (h:w.cell? p=some v):w'.cell? p=some v:=by
 rw [hb.cell (World.block_lt_of_cell? w p h)];exact h
theorem ev_load_pd {d0:D} {ds:List D} (hkn:(Γ.sh t).known=true) (hg:(Γ.sh t).isAgg=false) (hx:ap L x = .pd (d0::ds)):Ev Γ k L H (.load t x) ty (.d d0):=by
 intro e a w m;have ho:=Sh.known_ne hkn;obtain⟨b,off,hv,hb,hX,hcell⟩:=evT m hx (cSV_pd · _);obtain⟨u,g1,g2⟩:=hcell 0 (by simp);exact⟨u,λ_ _ _ _ w' hw=>yk ho hg hv (jn hw g1) _ _ _ _,g2⟩
theorem HRel.blk_cell {X e w} {id:Nat} {te:TypeId} {cs:List SV} (h:HRel X e w (id,.blk te cs)) {o:Nat} {s:SV} (hc:cs[o]?=some s):∃ v,w.cell? ⟨e.β id,o,none⟩=some v/\Rel X e w s v:=by
 obtain⟨vs,h1,h2,_⟩:=h;obtain⟨v,g1,g2⟩:=RelL.get cs vs h2 o s hc;exact⟨v,by rw [cell_of_row w _ o _ te (0,0) h1];simpa using g1,g2⟩
theorem ev_load_loc {i o:Nat} {te:TypeId} {cs:List SV} {s:SV} (hkn:(Γ.sh t).known=true) (hg:(Γ.sh t).isAgg=false) (hx:ap L x = .loc i o) (hH:Hp.get H i=some (.blk te cs)) (hc:cs[o]?=some s) :
  Ev Γ k L H (.load t x) ty s:=by
 intro e a w m;have ho:=Sh.known_ne hkn;obtain⟨_,hv⟩:=evT m hx (cSV_loc · _ _);obtain⟨v,g1,g2⟩:=HRel.blk_cell (m.heap _ (Hp.mem_of hH)).2 hc;exact⟨v,λ_ _ _ _ w' hw=>yk ho hg hv (jn hw g1) _ _ _ _,g2⟩
theorem xy {s:SV} (hx:ap L x=s) (hs:(∃ ds,s = .pd ds)∨(∃ i o,s = .loc i o)∨(∃ i j es o,s = .prow i j es o)):Ev Γ k L H (.nilCheck x) ty s:=by
 intro e a w m;have hv:∃ p,a.eval x = .pointer (some p)/\Rel (Γ.X e H) e w s (a.eval x):=by
  rcases hs with ⟨ds,rfl⟩|⟨i,o,rfl⟩|⟨i,j,es,o,rfl⟩
  ·have hr:=evT m hx (cSV_pd · _);obtain⟨b,off,hv,_⟩:=hr;exact⟨_,hv,evT m hx (cSV_pd · _)⟩
  ·have hr:=evT m hx (cSV_loc · _ _);exact⟨_,hr.2,hr⟩
  ·have hr:=evT m hx (x9 · _ _ _ _);obtain⟨_,g,n,cap,_,hv⟩:=hr;exact⟨_,hv,evT m hx (x9 · _ _ _ _)⟩
 obtain⟨p,hv,hr⟩:=hv;exact⟨a.eval x,λ_ _ _ _ w' _=>by simp [execOp,hv],hr⟩
theorem cSV_ptr (v:Value) (ds:List D):cSV v≠.d (.ptr ds):=by unfold cSV;split<;>simp
theorem ev_nilPtr {ds:List D} (hx:ap L x = .d (.ptr ds)):Ev Γ k L H (.nilCheck x) ty (.pd ds):=by
 intro e a w m;have hr:RepC (Γ.X e H) w (a.eval x) (.ptr ds):=evT m hx (cSV_ptr · _);obtain⟨v,hv⟩:∃ v,v=a.eval x:=⟨_,rfl⟩;rw [<- hv] at hr;cases hr with
 | @ptr b off ds c h1 h2 h3 h4 =>
  exact⟨a.eval x,λ_ _ _ _ w' _=>by simp [execOp,<- hv],b,off,hv.symm,h2,h1,λj hj=>⟨c j,h3 j hj,h4 j hj⟩⟩
theorem ev_extract {i:Nat} {ss:List SV} {s:SV} (hx:ap L x = .tup ss) (hi:ss[i]?=some s):Ev Γ k L H (.extract x i) ty s:=by
 intro e a w m;obtain⟨vs,hv,hr⟩:=evT m hx (cSV_tup · _);obtain⟨v,g1,g2⟩:=RelL.get ss vs hr i s hi;exact⟨v,λ_ _ _ _ w' _=>by simp [execOp,Instr.extract,hv,g1],g2⟩
theorem RelL.drop {X e w}:∀ (ss:List SV) (vs:List Value),RelL X e w ss vs->∀ n,RelL X e w (ss.drop n) (vs.drop n)
 | _,_,h,0=>h
 | [],[],_,_+1=>trivial
 | [],_::_,h,_=>h.elim
 | _::_,[],h,_=>h.elim
 | _::ss,_::vs,⟨_,h⟩,n+1=>RelL.drop ss vs h n
theorem RelL.take {X e w}:∀ (ss:List SV) (vs:List Value),RelL X e w ss vs->∀ n,RelL X e w (ss.take n) (vs.take n)
 | _,_,_,0=>by simp [RelL]
 | [],[],_,_+1=>trivial
 | [],_::_,h,_=>h.elim
 | _::_,[],h,_=>h.elim
 | _::ss,_::vs,⟨h1,h2⟩,n+1=>⟨h1,RelL.take ss vs h2 n⟩
theorem RelL.append {X e w}:∀ (ss:List SV) (vs:List Value) (ss':List SV) (vs':List Value),RelL X e w ss vs->RelL X e w ss' vs'->RelL X e w (ss++ss') (vs++vs')
 | [],[],_,_,_,h=>h
 | [],_::_,_,_,h,_=>h.elim
 | _::_,[],_,_,h,_=>h.elim
 | _::ss,_::vs,ss',vs',⟨h1,h2⟩,h=>⟨h1,RelL.append ss vs ss' vs' h2 h⟩
theorem HRel.blk_cells {X e w} {id:Nat} {te:TypeId} {cs:List SV} (h:HRel X e w (id,.blk te cs)) (o n:Nat) (hn:o+n<=cs.length) :
  ∃ vs:List Value,vs.length=n/\(∀ j v,vs[j]?=some v->w.cell? ((⟨e.β id,o,none⟩:Addr).add j)=some v)/\RelL X e w ((cs.drop o).take n) vs/\∀ v∈vs,v.oneCell'=true:=by
 obtain⟨vs,h1,h2,h3⟩:=h;have hl:=RelL.length _ _ h2;refine⟨(vs.drop o).take n,by simp;omega,λj v hj=>?_,RelL.take _ _ (RelL.drop _ _ h2 o) n,λv hv=>h3 v (List.mem_of_mem_drop (List.mem_of_mem_take hv))⟩
 rw [Addr.add_at,cell_of_row w _ _ _ te (0,0) h1];rw [List.getElem?_take] at hj;split at hj
 ·simpa using hj
 ·cases hj
theorem pj (ho:Γ.sh t≠.other) (hg:(Γ.sh t).isAgg=true) {p:Addr} {vs:List Value} {w':World} (hn:vs.length=Γ.cells t) (hc:∀ j v,vs[j]?=some v->w'.cell? (p.add j)=some v) :
  (loadVar t p).run Γ.P w' = .ok (.agg vs.toArray) w':=by
 obtain⟨inf,z,hi,_,hs,_⟩:=Ctx.info ho;have:=run_loadCells_list (P:=Γ.P) (w:=w') p vs hc
 rw [hn,<- hs] at this;simp [loadVar,Ctx.agg ho,hg,dv hi,this]
theorem ev_load_agg_loc {i o:Nat} {te:TypeId} {cs:List SV} {l} (ht:Γ.sh t = .struct l) (hx:ap L x = .loc i o) (hH:Hp.get H i=some (.blk te cs)) (hn:Nat.ble (o+Γ.cells t) cs.length=true) :
  Ev Γ k L H (.load t x) ty (.agg ((cs.drop o).take (Γ.cells t))):=by
 intro e a w m;obtain⟨_,hv⟩:=evT m hx (cSV_loc · _ _);obtain⟨vs,g1,g2,g3,_⟩:=HRel.blk_cells (m.heap _ (Hp.mem_of hH)).2 o (Γ.cells t) (Ab hn);have ho:Γ.sh t≠.other:=by rw [ht];intro h;cases h
 refine⟨.agg vs.toArray,λ_ _ _ _ w' hw=>?_,⟨vs,rfl,g3⟩⟩
 have hr:=pj (Γ:=Γ) (t:=t) (w':=w') (p:=⟨e.β i,o,none⟩) ho (by rw [ht];rfl) g1 (λj v hj=>jn hw (g2 j v hj));simp [execOp,Instr.loadAt,hv,Instr.sureAddr,hr]
theorem ev_load_agg_pd {ds:List D} {l} (ht:Γ.sh t = .struct l) (hx:ap L x = .pd ds) (hnb:Nat.ble (Γ.cells t) ds.length=true):Ev Γ k L H (.load t x) ty (.agg ((ds.take (Γ.cells t)).map .d)):=by
 intro e a w m;have hn:=Ab hnb;obtain⟨b,off,hv,hb,hX,hcell⟩:=evT m hx (cSV_pd · _);have ho:Γ.sh t≠.other:=by rw [ht];intro h;cases h
 have key:∀ n,n<=ds.length->∃ vs:List Value,vs.length=n/\(∀ j v,vs[j]?=some v->w.cell? ((⟨b,off,none⟩:Addr).add j)=some v)/\RelL (Γ.X e H) e w ((ds.take n).map .d) vs:=by
  intro n;induction n with
  | zero=>intro _;exact⟨[],rfl,by simp,by simp [RelL]⟩
  | succ n ih =>
   intro hle;obtain⟨vs,h1,h2,h3⟩:=ih (by omega);obtain⟨u,g1,g2⟩:=hcell n (by omega);refine⟨vs++[u],by simp [h1],λj v hj=>?_,?_⟩
   ·by_cases hlt:j<vs.length
    ·rw [List.getElem?_append_left hlt] at hj;exact h2 j v hj
    ·rw [List.getElem?_append_right (by omega)] at hj;have:j=n:=by
      rcases Nat.lt_or_ge (j-vs.length) 1 with h|h
      ·omega
      ·rw [A8 (by simpa using h)] at hj;cases hj
     subst this;rw [Addr.add_at];simp [h1] at hj;rw [<- hj];exact g1
   ·rw [List.take_succ_eq_append_getElem (by omega),List.map_append];exact RelL.append _ _ _ _ h3 ⟨g2,trivial⟩
 obtain⟨vs,g1,g2,g3⟩:=key _ hn;refine⟨.agg vs.toArray,λ_ _ _ _ w' hw=>?_,⟨vs,rfl,g3⟩⟩
 have hr:=pj (Γ:=Γ) (t:=t) (w':=w') (p:=⟨b,off,none⟩) ho (by rw [ht];rfl) g1 (λj v hj=>jn hw (g2 j v hj));simp [execOp,Instr.loadAt,hv,Instr.sureAddr,hr]
end
end
end Go.Proofs.YtapciiffpnociadGreat
