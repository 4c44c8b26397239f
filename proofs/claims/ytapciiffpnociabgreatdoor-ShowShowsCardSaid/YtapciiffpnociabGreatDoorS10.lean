/- Several texts in one: ScoB TreP TreQ GxRng GxItr GxPan GxDef TreA TreB TokL TokF ShA TreC TreD TreE GxTail GxSpl TreF TreG TreH TreI TreK. Condition: none. -/
import Derived.Test.YtapciiffpnociabGreatDoorS09
import Derived.Test.YtapciiffpnociabGreatDoorS04
import Derived.RecoverIn
import Derived.Shelf.Strconv.Atoi
import Derived.Ground.NamesProg
import Derived.Test.YtapciiffpnociabGreatDoorProg
import Derived.Test.YtapciiffpnociabGreatDoorS08
namespace Go.Proofs.YtapciiffpnociabGreatDoor
open Go Go.RowKit
attribute [local irreducible] DW DS DL DQ Ev FnOk FnP thenD inBlockD DT
def eqS (x y:ByteArray):Bool:=decide (y=x)
abbrev elS (s:ByteArray):SV:=.d (.str s)
set_option maxHeartbeats 8000000 in
theorem indexS_fn (y:ByteArray) (l:List (ByteArray)):Fn 110 [.d (.slice 1 (l.map encT)),elS y] (fun r=>r = .d (.int .i64 (idxF (fun x=>eqS x y) l))):=by
 refine fnp_enter' _ Tryz.func110 rfl rfl (by kernel_rfl) ?_
 intro O w0 E0 β0
 refine dw_len_map (t:=0) rfl fun hb=>?_
 repeat' (first|refine z0 ?_|apply ds_nil|apply dw_seq2|refine z16 ?_|apply dw_block|apply thenD_n)
 refine ds_loop (ι:=Nat) (fun i=>⟨0,[(0,.d (.slice 1 (l.map encT))),(1,.d (.str y)),(7,.d (.int .i64 l.length)),(8,.d (.int .i64 i))],[]⟩)
  (fun i=>i≤l.length∧∀ j (hj:j < l.length),j < i→eqS l[j] y=false) (fun i=>l.length - i) 0 ⟨Nat.zero_le _,fun j _ h=>absurd h (Nat.not_lt_zero j)⟩
  (ent_ren id ⟨rfl,rfl,by simp;rfl,rfl,trivial⟩ trivial rfl rfl rfl rfl rfl rfl) ?_
 rintro i ⟨h1,h2⟩
 repeat' (first|refine z0 ?_|apply ds_nil|apply dw_seq2|refine z16 ?_|apply thenD_n)
 refine dw_condP rfl (fun h=>?_) (fun h=>?_)
 ·have hi:i < l.length:=by omega
  repeat' (first|refine z0 ?_|apply ds_nil|apply dw_seq2|refine z16 ?_|apply dw_block|apply dw_skip|apply thenD_n)
  refine dw_cond rfl (fun hb=>?_) (fun hb=>?_)
  ·repeat' (first|refine z0 ?_|apply ds_nil|apply dw_seq2|refine z16 ?_|apply dw_ret|apply thenD_n|apply thenD_r|apply inB_r)
   exact ret_i rfl (idxF_hit (p:=fun x=>eqS x y) h2 hi (id hb)).symm
  ·repeat' (first|refine z0 ?_|apply ds_nil|refine z16 ?_|apply dw_skip|apply thenD_n|apply inB_n)
   exact⟨i + 1,⟨hi,none_step (p:=fun x=>eqS x y) h2 hi (id hb)⟩,ent_ren id ⟨rfl,rfl,rfl,rfl,trivial⟩ trivial rfl rfl rfl rfl rfl rfl,by omega⟩
 ·repeat' (first|refine z0 ?_|apply ds_nil|apply dw_seq2|refine z16 ?_|apply dw_exit|apply dw_ret|apply thenD_n|apply thenD_e|refine z17 ?_|fail)
  exact ret_i rfl (idxF_none fun j hj=>h2 j hj (by omega)).symm
set_option maxHeartbeats 8000000 in
theorem containsS_fn (y:ByteArray) (l:List ByteArray):Fn 97 [.d (.slice 1 (l.map encT)),.d (.str y)] (fun r=>r = .d (.bool (l.any fun x=>eqS x y))):=by
 refine fnp_enter' _ Tryz.func97 rfl rfl (by kernel_rfl) ?_
 intro O w0 E0 β0
 have hx:=indexS_fn y l
 repeat' (first|refine z0 ?_|apply ds_nil|apply dw_seq2|refine z16 ?_|apply dw_ret|apply thenD_n|refine z21 ?_ (hc:=by apply hx)|fail)
 exact ret_b rfl (idxF_any _ l)
def wordsL:List ByteArray:=[⟨#[110,111,116]⟩,⟨#[99,111,117,110,116]⟩,⟨#[115,117,109]⟩,⟨#[108,101,97,115,116]⟩,⟨#[109,111,115,116]⟩]
def wordB (s:ByteArray):Bool:=wordsL.any fun x=>eqS x s
def nameS (s:ByteArray):Bool:=oneS 1 s && !wordB s
set_option maxHeartbeats 8000000 in
theorem words_fn:Fn 53 [] (fun r=>r = .d (.slice 1 (wordsL.map encT))):=by
 refine fnp_enter' _ Tryz.func53 rfl rfl (by kernel_rfl) ?_
 intro O w0 E0 β0
 repeat' (first|refine z0 ?_|apply ds_nil|apply dw_seq2|refine z16 ?_|apply dw_ret|apply thenD_n|refine z4 ?_|fail)
 exact⟨.inl rfl,_,rfl,rfl,rfl⟩
set_option maxHeartbeats 8000000 in
theorem tokenName_fn (s:ByteArray):Fn 96 [.d (.str s)] (fun r=>r = .d (.bool (oneS 1 s))):=by
 refine fnp_enter' _ Tryz.func96 rfl rfl (by kernel_rfl) ?_
 intro O w0 E0 β0
 repeat' (first|refine z0 ?_|apply ds_nil|apply dw_seq2|refine z16 ?_|apply dw_ret|apply thenD_n|refine z21 ?_ (hc:=by apply one_fn)|fail)
 exact ret_b rfl rfl
set_option maxHeartbeats 8000000 in
theorem treeName_fn (s:ByteArray):Fn 65 [.d (.str s)] (fun r=>r = .d (.bool (nameS s))):=by
 refine fnp_enter' _ Tryz.func65 rfl rfl (by kernel_rfl) ?_
 intro O w0 E0 β0
 have h1:=containsS_fn s wordsL
 have h2:=tokenName_fn s
 unfold nameS wordB
 repeat' (first|refine z0 ?_|refine z12 ?_|apply ds_nil|apply dw_seq2|refine z16 ?_|apply dw_ret|apply thenD_n|refine z21 ?_ (hc:=by apply h1)|refine z21 ?_ (hc:=by apply h2)|refine z21 ?_ (hc:=by apply words_fn)|((fail_if_success (apply ds_known;exact rfl));apply ds_guardB;exact rfl;exact rfl;exact rfl;all_goals intro hg))
 all_goals exact ret_b rfl (by simp_all)
structure TTm where
 var:ByteArray
 n:Int
structure TLt where
 kind:Int
 at_:Int
 op:Int
 name:ByteArray
 terms:List TTm
structure TRu where
 at_:Int
 name:ByteArray
 terms:List TTm
 fold:Int
 body:List TLt
def hereT (l:List Tok) (e:Int) (i:Nat):Int:=match l[i]? with
 | some t=>t.at_
 | none=>e
def seesT (l:List Tok) (i:Nat) (s:ByteArray):Bool:=match l[i]? with
 | some t=>decide (t.text=s)
 | none=>false
abbrev PR (α:Type):=Except Nat (α × Nat)
def foldsT:List ByteArray:=wordsL.drop 1
def opsT:List ByteArray:=[⟨#[60]⟩,⟨#[60,61]⟩,⟨#[61]⟩,⟨#[33,61]⟩,⟨#[43]⟩,⟨#[45]⟩,⟨#[42]⟩]
def numT (s:ByteArray):Int:=s.data.toList.foldl (fun n c=>10 * n + ((c.toNat:Int) - 48)) 0
def nameT (l:List Tok) (i:Nat):PR ByteArray:=match l[i]? with
 | some t=>if nameS t.text then .ok (t.text,i + 1) else .error i
 | none=>.error i
def termT (l:List Tok) (i:Nat):PR TTm :=
 let neg:=seesT l i ⟨#[45]⟩
 let j:=match neg with|true=>i + 1|false=>i
 match l[j]? with
 | none=>.error j
 | some t=>if t.kind=2∧neg=false then .ok (⟨t.text,0⟩,j + 1)
  else if t.kind≠3∨(neg=true∧t.text=⟨#[48]⟩) then .error j
  else .ok (⟨⟨#[]⟩,(match neg with|true=>-1|false=>1) * numT t.text⟩,j + 1)
def firstT (l:List Tok) (i:Nat):List ByteArray→Int→Int
 | [],_=>0
 | s::ss,n=>if seesT l i s then n else firstT l i ss (n + 1)
def termsGo (l:List Tok) (head:Bool):Nat→Nat→List TTm→PR (List TTm × Int)
 | 0,i,_=>.error i
 | n + 1,i,acc =>
  let f:=match head with|true=>firstT l i foldsT 1|false=>0
  match termT l (if f≠0 then i + 1 else i) with
  | .error k=>.error k
  | .ok (t,k) =>
   if f≠0∨seesT l k ⟨#[44]⟩=false then
    (if seesT l k ⟨#[41]⟩ then .ok ((acc++[t],f),k + 1) else .error k)
   else termsGo l head n (k + 1) (acc++[t])
def termsT (l:List Tok) (i:Nat) (head:Bool):PR (List TTm × Int) :=
 if seesT l i ⟨#[40]⟩ then
  (if seesT l (i + 1) ⟨#[41]⟩ then .ok (([],0),i + 2) else termsGo l head (l.length + 1) (i + 1) [])
 else .error i
def firstQ (l:List Tok) (ws:List ByteArray) (j q:Nat):Int:=firstT l j (ws.drop q) (q + 1)
def testT (l:List Tok) (i:Nat):PR (Int × Int × List TTm) :=
 match termT l i with
 | .error k=>.error k
 | .ok (a,k) =>
  if firstQ l opsT k 0=0 then .error k else
  match termT l (k + 1) with
  | .error m=>.error m
  | .ok (b,m) =>
   if firstQ l opsT k 0 < 5 then .ok ((3,firstQ l opsT k 0,[a,b]),m)
   else if seesT l m ⟨#[61]⟩ then
    (match termT l (m + 1) with
    | .error q=>.error q
    | .ok (c,q)=>.ok ((4,firstQ l opsT k 0,[a,b,c]),q))
   else .error m
def isTestT (l:List Tok) (j:Nat):Bool:=match l[j]? with
 | none=>true
 | some t=>decide (t.kind≠1)
def litT (l:List Tok) (e:Int) (i:Nat):PR TLt :=
 match seesT l i ⟨#[110,111,116]⟩ with
 | true=>(match nameT l (i + 1) with
  | .error k=>.error k
  | .ok (s,k)=>(match termsT l k false with
   | .error m=>.error m
   | .ok ((ts,_),m)=>.ok (⟨2,hereT l e i,0,s,ts⟩,m)))
 | false=>(match isTestT l i with
  | true=>(match testT l i with
   | .error k=>.error k
   | .ok ((kind,op,ts),k)=>.ok (⟨kind,hereT l e i,op,⟨#[]⟩,ts⟩,k))
  | false=>(match nameT l i with
   | .error k=>.error k
   | .ok (s,k)=>(match termsT l k false with
    | .error m=>.error m
    | .ok ((ts,_),m)=>.ok (⟨1,hereT l e i,0,s,ts⟩,m))))
def litsGo (l:List Tok) (e:Int):Nat→Nat→List TLt→PR (List TLt)
 | 0,i,_=>.error i
 | n + 1,i,acc=>match litT l e i with
  | .error k=>.error k
  | .ok (x,k)=>if seesT l k ⟨#[44]⟩ then litsGo l e n (k + 1) (acc++[x]) else .ok (acc++[x],k)
def ruleT (l:List Tok) (e:Int) (i:Nat):PR TRu :=
 match nameT l i with
 | .error k=>.error k
 | .ok (s,k)=>match termsT l k true with
  | .error m=>.error m
  | .ok ((ts,f),m) =>
   if f=0∧seesT l m ⟨#[46]⟩=true then .ok (⟨hereT l e i,s,ts,f,[]⟩,m + 1)
   else if seesT l m ⟨#[58,45]⟩ then
    (match litsGo l e (l.length + 1) (m + 1) [] with
    | .error q=>.error q
    | .ok (b,q)=>if seesT l q ⟨#[46]⟩ then .ok (⟨hereT l e i,s,ts,f,b⟩,q + 1) else .error q)
   else .error m
def rulesGo (l:List Tok) (e:Int):Nat→Nat→List TRu→Except Nat (List TRu)
 | 0,_,acc=>.ok acc
 | n + 1,i,acc=>if i < l.length then
   (match ruleT l e i with
   | .error k=>.error k
   | .ok (r,k)=>rulesGo l e n k (acc++[r]))
  else .ok acc
def tmOk (t:TTm):Bool:=if t.var=⟨#[]⟩ then decide (-9999999≤t.n) && decide (t.n≤9999999) else oneS 2 t.var && decide (t.n=0)
def tmsOk (l:List TTm):Bool:=l.all tmOk
def tlOk (x:TLt):Bool:=tmsOk x.terms &&
 (if x.kind=1∨x.kind=2 then decide (x.op=0) && nameS x.name
 else if x.kind=3 then decide (1≤x.op∧x.op≤4) && decide (x.name=⟨#[]⟩) && decide (x.terms.length=2)
 else if x.kind=4 then decide (5≤x.op∧x.op≤7) && decide (x.name=⟨#[]⟩) && decide (x.terms.length=3)
 else false)
def truOk (r:TRu):Bool:=nameS r.name && tmsOk r.terms && decide (0≤r.fold∧r.fold≤4) && (decide (r.fold=0) || (decide (r.terms≠[]) && decide (r.body≠[]))) && r.body.all tlOk
def muchT (r:TRu):Bool:=decide (3 < r.terms.length) || decide (4 < r.body.length) || r.body.any fun x=>decide (3 < x.terms.length)
def checkT (rs:List TRu):Int:=if 12 < rs.length∨rs.any muchT=true then 2 else if rs.all truOk=true then 0 else 1
def parseS (s:ByteArray):List TRu × Int × Int :=
 match scanS s with
 | (l,p,er)=>if er≠0 then ([],p,er) else
  match rulesGo l s.size (l.length + 1) 0 [] with
  | .error k=>([],hereT l s.size k,1)
  | .ok rs=>if checkT rs=0 then (rs,0,0) else ([],0,checkT rs)
end Go.Proofs.YtapciiffpnociabGreatDoor
namespace Go.Proofs.YtapciiffpnociabGreatDoor
open Go Go.RowKit
def Kepts (L:Sl):Sl→Prop
 | []=>True
 | (t,s)::r=>Sl.get L t=s∧Kepts L r
def params:List Nat→List SV→Sl→Sl
 | p::ps,s::ss,L=>params ps ss ((p,s)::L)
 | _,_,L=>L
theorem Heap.widen {Γ:Ctx} {k:Nat→Prop} {H:Hp} {e:Env} {w:World} {l:Nat} (h:Heap Γ k H e w) (hl:¬ Γ.O l) (hl2:∀ g,(∀ o,Γ.w0.heap[g]?≠some (.loop o))→g≠l):Heap ⟨Γ.P,Γ.τ,Γ.τok,Γ.O,Γ.w0,fun b=>Γ.E0 b∨b=l,Γ.n,Γ.J,Γ.β0,Γ.rd,Γ.pan,Γ.mks,Γ.dr⟩ k H e w where
 top:=h.top
 heap:=h.heap
 ids:=h.ids
 nodup:=h.nodup
 mine b hb:=⟨(h.mine b hb).1.imp .inl id,(h.mine b hb).2⟩
 os:=h.os
 tape:=h.tape
 output:=h.output
 drawn:=h.drawn
 size:=h.size
 block b h1 h2:=h.block b h1 fun h=>h2 (.inl h)
 obound b hb:=⟨(h.obound b hb).1,fun hx=>hx.elim (h.obound b hb).2 fun hx=>hl (hx▸hb)⟩
 tabs g hg :=
  let ⟨h1,a,b,h2⟩:=h.tabs g hg
  ⟨fun hx=>hx.elim h1 fun hx=>hl2 g (fun o ho=>by rw [h2] at ho;cases ho) hx,a,b,h2⟩
 jle:=h.jle
 anchor:=h.anchor
end Go.Proofs.YtapciiffpnociabGreatDoor
namespace Go.Proofs.YtapciiffpnociabGreatDoor
open Go Go.RowKit
def SV.flat:SV→Bool
 | .val _=>true
 | .junk=>true
 | .d (.int _ _)=>true
 | .d (.bool _)=>true
 | _=>false
theorem Rel.flat {X e w X' e' w'}:∀ (s:SV) (v:Value),s.flat=true→Rel X e w s v→Rel X' e' w' s v
 | .val _,_,_,h=>h
 | .junk,_,_,_=>trivial
 | .d (.int _ _),_,_,h=>by
  have h':RepC _ _ _ _:=h
  cases h' with
  | int g=>exact RepC.int g
 | .d (.bool _),_,_,h=>by
  have h:RepC _ _ _ _:=h
  cases h
  exact RepC.bool
 | .d (.str _),_,h,_=>nomatch h
 | .d (.slice _ _),_,h,_=>nomatch h
 | .nils,_,h,_=>nomatch h
 | .pd _,_,h,_=>nomatch h
 | .loc _ _,_,h,_=>nomatch h
 | .row _,_,h,_=>nomatch h
 | .mp _,_,h,_=>nomatch h
 | .md _ _,_,h,_=>nomatch h
 | .prow _ _ _ _,_,h,_=>nomatch h
 | .sl _ _ _ _,_,h,_=>nomatch h
 | .rsl _ _ _ _,_,h,_=>nomatch h
 | .fn _ _,_,h,_=>nomatch h
 | .agg _,_,h,_=>nomatch h
 | .tup _,_,h,_=>nomatch h
def flatB:Sl→Bool
 | []=>true
 | (_,s)::r=>s.flat && flatB r
theorem flat_get:∀ {L:Sl},flatB L=true→∀ t,(L.get t).flat=true
 | [],_,_=>rfl
 | (d,s)::r,h,t=>by
  simp only [flatB,Bool.and_eq_true] at h
  rw [Sl.get_cons]
  split
  ·exact h.1
  ·exact flat_get h.2 t
theorem kepts_get {L:Sl}:∀ {L':Sl},Kepts L L'→∀ t,L'.get t = .junk∨L'.get t=L.get t
 | [],_,_=>.inl rfl
 | (d,s)::r,h,t=>by
  rw [Sl.get_cons]
  split
  ·rename_i hd;subst hd;exact .inr h.1.symm
  ·exact kepts_get h.2 t
structure Flat (N:Nat) (L:Sl) (a:Act):Prop where
 len:a.tmps.size=N
 defers:a.defers=[]
 slot:∀ t X e w,Rel X e w (L.get t) (a.tmps.getD t undef)
abbrev Γit (P:Program) (τ:List (Nat × TI)) (τok:TabOk P τ) (O:Nat→Prop) (W:World) (N:Nat):Ctx:=⟨P,τ,τok,O,W,fun _=>False,N,0,fun _=>(0,undef),none,noPan,false,false⟩
section
variable {P : Program} {τ : List (Nat × TI)} {τok : TabOk P τ} {O : Nat → Prop} {N : Nat} {L : Sl}
theorem Models.flatten {W:World} {k:Nat→Prop} {H:Hp} {e:Env} {a:Act} {w:World} (m:Models (Γit P τ τok O W N) k L H e a w) {Ls:Sl} (hK:Kepts L Ls) (hf:flatB Ls=true):Flat N Ls a where
 len:=m.len
 defers:=by
  obtain⟨rs,h1,h0,_⟩:=m.defers
  rw [h1,h0 rfl];rfl
 slot t X e' w':=by
  have hg:=flat_get hf t
  rcases kepts_get hK t with h|h
  ·rw [h];trivial
  ·rw [h] at hg ⊢;exact Rel.flat _ _ hg (m.slot t)
end
section
variable {Γ : Ctx} {k : Nat} {L : Sl} {H : Hp} {K : Next'} {ops : List Oper} {rest : List Oper} {x y : Operand} {t ty : TypeId}
end
section
variable {Γ : Ctx} {k : Nat} {L : Sl} {H : Hp} {R : Exit → Act → World → Prop}
end
section
variable {Γ : Ctx} {k : Nat} {L : Sl} {H : Hp} {R : Exit → Act → World → Prop}
end
end Go.Proofs.YtapciiffpnociabGreatDoor
namespace Go.Proofs.YtapciiffpnociabGreatDoor
open Go Go.RowKit
section
variable {Γ : Ctx} {k : Nat} {L : Sl} {H : Hp} {K : Next'} {ops : List Oper} {rest : List Oper}
end
end Go.Proofs.YtapciiffpnociabGreatDoor
namespace Go.Proofs.YtapciiffpnociabGreatDoor
open Go Go.RowKit
section
variable {dr : Bool} {P : Program} {τ : List (Nat × TI)} {τok : TabOk P τ}
end
def encTTm (t:TTm):List D:=[.str t.var,.int .i64 t.n]
def encTLt (t:TLt):List D:=[.int .i64 t.kind,.int .i64 t.at_,.int .i64 t.op,.str t.name,.slice 2 (t.terms.map encTTm)]
def encTRu (t:TRu):List D:=[.int .i64 t.at_,.str t.name,.slice 2 (t.terms.map encTTm),.int .i64 t.fold,.slice 5 (t.body.map encTLt)]
attribute [local irreducible] DW DS DL DQ Ev FnOk FnP FnOkE thenD inBlockD
theorem takeW_take (p:UInt8→Bool):∀ l,takeW p (l.take (takeW p l))=takeW p l
 | []=>by rw [List.take_nil]
 | c::l=>by
  by_cases hc:p c=true
  ·have e:takeW p (c::l)=takeW p l + 1:=by rw [takeW,if_pos hc]
   rw [e,List.take_succ_cons,takeW,if_pos hc,takeW_take p l]
  ·have e:takeW p (c::l)=0:=by rw [takeW,if_neg hc]
   rw [e];unfold takeW;rfl
theorem pairB_cons2 (a b:UInt8) (r r':List UInt8):pairB (a::b::r)=pairB (a::b::r'):=by unfold pairB;rfl
theorem pairB_one (a:UInt8):pairB [a]=false:=by unfold pairB;rfl
theorem tokAt_take (w:List UInt8) (k:Int) (n:Nat) (h:tokAt w=(k,n)) (hk:k≠0):tokAt (w.take n)=(k,n):=by
 cases w with
 | nil =>
  unfold tokAt at h
  injection h with h1 h2
  exact absurd h1.symm hk
 | cons c l =>
  rw [tokAt_cons] at h
  by_cases a:letterB c=true
  ·rw [if_pos a] at h
   injection h with h1 h2
   subst h2
   rw [Nat.add_comm,List.take_succ_cons,tokAt_cons,if_pos a,takeW_take,h1,Nat.add_comm]
  ·rw [if_neg a] at h
   by_cases b:digitB c=true
   ·rw [if_pos b] at h
    injection h with h1 h2
    subst h2
    rw [Nat.add_comm,List.take_succ_cons,tokAt_cons,if_neg a,if_pos b,takeW_take,h1,Nat.add_comm]
   ·rw [if_neg b] at h
    by_cases d:pairB (c::l)=true
    ·rw [if_pos d] at h
     injection h with h1 h2
     subst h2
     match l,d with
     | [],d=>rw [pairB_one] at d;exact absurd d Bool.false_ne_true
     | b'::l,d =>
      show tokAt [c,b']=_
      rw [tokAt_cons,if_neg a,if_neg b,pairB_cons2 c b' [] l,if_pos d,h1]
    ·rw [if_neg d] at h
     by_cases e:signs.contains c=true
     ·rw [if_pos e] at h
      injection h with h1 h2
      subst h2
      show tokAt [c]=_
      rw [tokAt_cons,if_neg a,if_neg b,if_neg (by rw [pairB_one];exact Bool.false_ne_true),if_pos e,h1]
     ·rw [if_neg e] at h
      injection h with h1 h2
      exact absurd h1.symm hk
theorem tokAt_37 (l:List UInt8):(tokAt (37::l)).1=0:=by
 rw [tokAt_cons,if_neg (by unfold letterB smallB greatB;decide),if_neg (by unfold digitB;decide),if_neg (by unfold pairB;cases l <;> simp),if_neg (by decide)]
theorem tokAt_32 (l:List UInt8):(tokAt (32::l)).1=0:=by
 rw [tokAt_cons,if_neg (by unfold letterB smallB greatB;decide),if_neg (by unfold digitB;decide),if_neg (by unfold pairB;cases l <;> simp),if_neg (by decide)]
theorem tokAt_9 (l:List UInt8):(tokAt (9::l)).1=0:=by
 rw [tokAt_cons,if_neg (by unfold letterB smallB greatB;decide),if_neg (by unfold digitB;decide),if_neg (by unfold pairB;cases l <;> simp),if_neg (by decide)]
theorem tokAt_10 (l:List UInt8):(tokAt (10::l)).1=0:=by
 rw [tokAt_cons,if_neg (by unfold letterB smallB greatB;decide),if_neg (by unfold digitB;decide),if_neg (by unfold pairB;cases l <;> simp),if_neg (by decide)]
theorem tokErr_kind {k:Int} {n:Nat} {c:UInt8} (h:tokErr k n c=0):k≠0:=by
 intro hk
 rw [tokErr_eq,if_pos hk] at h
 cases h
theorem drop_byte (s:ByteArray) (i:Nat) (h:i < s.size):s.data.toList.drop i=s[i]::s.data.toList.drop (i + 1):=by
 rw [List.drop_eq_getElem_cons (by simpa using h)];rfl
theorem ext_list (s:ByteArray) (i n:Nat):(s.extract i (i + n)).data.toList=(s.data.toList.drop i).take n:=by
 simp [ByteArray.data_extract,Array.toList_extract,List.extract_eq_take_drop]
theorem bytes_inj {a b:ByteArray} (h:a.data.toList=b.data.toList):a=b:=ByteArray.ext (Array.ext' h)
theorem scan_one (s:ByteArray) (i:Nat) (k:Int) (n:Nat) (h:i < s.size) (ht:tokAt (s.data.toList.drop i)=(k,n)) (he:tokErr k n s[i]=0) :
  scanAt s false i=(scanAt s false (i + n)).map (Tok.mk k i (s.extract i (i + n))::·):=by
 have hk:=tokErr_kind he
 have hd:=drop_byte s i h
 have hb:∀ c:UInt8,(∀ l,(tokAt (c::l)).1=0)→s[i]≠c:=by
  intro c hc e
  rw [hd,e] at ht
  have:=hc (s.data.toList.drop (i + 1))
  rw [ht] at this
  exact hk this
 have h37:=hb 37 tokAt_37
 have h32:=hb 32 tokAt_32
 have h9:=hb 9 tokAt_9
 have h10:=hb 10 tokAt_10
 have:=scanAt_tok s i h (by simpa using h37) (by simp [h32,h9,h10]) (by rw [ht];exact he)
 rw [ht] at this
 exact this
def Chain (s:ByteArray):Nat→List Tok→Prop
 | _,[]=>True
 | i,t::l=>∃ j,i≤j∧t.at_=j∧(∃ h:j < s.size,tokAt (s.data.toList.drop j)=(t.kind,t.text.size)∧tokErr t.kind t.text.size s[j]=0)∧j + t.text.size≤s.size∧t.text=s.extract j (j + t.text.size)∧Chain s (j + t.text.size) l
theorem Chain.mono {s:ByteArray} {i i':Nat} {l:List Tok} (h:Chain s i' l) (hi:i≤i'):Chain s i l:=by
 cases l with
 | nil=>trivial
 | cons t l =>
  obtain⟨j,h1,h2⟩:=h
  exact⟨j,Nat.le_trans hi h1,h2⟩
theorem scanGo_chain (s:ByteArray):∀ (f:Nat) (note:Bool) (i:Nat) (l:List Tok),scanGo s f note i = .ok l→Chain s i l:=by
 intro f
 induction f with
 | zero =>
  intro note i l h
  simp only [scanGo] at h
  cases h
  trivial
 | succ f ih =>
  intro note i l h
  simp only [scanGo] at h
  by_cases hi:i < s.size
  ·rw [dif_pos hi] at h
   split at h
   ·exact (ih _ _ _ h).mono (by omega)
   ·split at h
    ·exact (ih _ _ _ h).mono (by omega)
    ·split at h
     ·rename_i he
      cases hr:scanGo s f false (i + (tokAt (s.data.toList.drop i)).2) with
      | error e=>rw [hr] at h;cases h
      | ok l' =>
       rw [hr] at h
       cases h
       have hle:=tokAt_le (s.data.toList.drop i)
       rw [List.length_drop,show s.data.toList.length=s.size from Array.length_toList] at hle
       have hsz:(s.extract i (i + (tokAt (s.data.toList.drop i)).2)).size=(tokAt (s.data.toList.drop i)).2:=by rw [ByteArray.size_extract];omega
       exact⟨i,Nat.le_refl _,rfl,⟨hi,by rw [hsz],by rw [hsz];exact he⟩,by rw [hsz];omega,by rw [hsz],by rw [hsz];exact ih _ _ _ hr⟩
     ·cases h
  ·rw [dif_neg hi] at h
   cases h
   trivial
theorem scanGo_err (s:ByteArray):∀ (f:Nat) (note:Bool) (i:Nat) (p e:Int),scanGo s f note i = .error (p,e)→e≠0:=by
 intro f
 induction f with
 | zero =>
  intro note i p e h
  simp only [scanGo] at h
  cases h
 | succ f ih =>
  intro note i p e h
  simp only [scanGo] at h
  by_cases hi:i < s.size
  ·rw [dif_pos hi] at h
   split at h
   ·exact ih _ _ _ _ h
   ·split at h
    ·exact ih _ _ _ _ h
    ·split at h
     ·cases hr:scanGo s f false (i + (tokAt (s.data.toList.drop i)).2) with
      | error e'=>rw [hr] at h;cases h;exact ih _ _ _ _ hr
      | ok l'=>rw [hr] at h;cases h
     ·rename_i he
      injection h with h
      injection h with h1 h2
      rw [← h2];exact he
  ·rw [dif_neg hi] at h
   cases h
theorem scanS_chain (s:ByteArray) (l:List Tok) (p:Int) (h:scanS s=(l,p,0)):Chain s 0 l∧s.size≤5000∧p=0:=by
 unfold scanS at h
 split at h
 ·injection h with h1 h2;injection h2 with h2 h3;cases h3
 ·rename_i hs
  split at h
  ·rename_i l' hl
   injection h with h1 h2
   injection h2 with h2 h3
   subst h1
   unfold scanAt at hl
   exact⟨scanGo_chain _ _ _ _ _ hl,by omega,h2.symm⟩
  ·rename_i p' e hl
   injection h with h1 h2
   injection h2 with h2 h3
   subst h1
   unfold scanAt at hl
   exact absurd h3 (scanGo_err _ _ _ _ _ _ hl)
theorem isTok_eq (kind:Int) (s:ByteArray):isTok kind s=true↔∃ h:0 < s.size,s.size≤5000∧tokAt s.data.toList=(kind,s.size)∧tokErr kind s.size s[0]=0:=by
 unfold isTok
 by_cases h:0 < s.size
 ·rw [dif_pos h]
  simp only [Bool.and_eq_true,decide_eq_true_eq]
  constructor
  ·rintro⟨⟨⟨⟨h1,h2⟩,h3⟩,h4⟩,h5⟩
   exact⟨h,h1,Prod.ext h3 h4,h5⟩
  ·rintro⟨_,h1,h2,h3⟩
   exact⟨⟨⟨⟨h1,tokErr_kind h3⟩,by rw [h2]⟩,by rw [h2]⟩,h3⟩
 ·rw [dif_neg h]
  exact⟨fun h'=>absurd h' Bool.false_ne_true,fun⟨h',_⟩=>absurd h' h⟩
theorem oneS_eq (kind:Int) (s:ByteArray):oneS kind s=isTok kind s:=by
 rw [Bool.eq_iff_iff,isTok_eq]
 constructor
 ·intro h
  unfold oneS at h
  split at h
  ·rename_i t p e hs
   simp only [Bool.and_eq_true,decide_eq_true_eq] at h
   obtain⟨h1,h2,h3⟩:=h
   subst h1
   obtain⟨⟨j,g1,g2,⟨g3,g4,g5⟩,g6,g7,_⟩,hsz,_⟩:=scanS_chain s [t] p hs
   rw [h3] at g4 g5 g6
   have hj:j=0:=by omega
   subst hj
   rw [h2] at g4 g5
   exact⟨g3,hsz,g4,g5⟩
  ·cases h
 ·rintro⟨h,h1,h2,h3⟩
  have:=scan_one s 0 kind s.size h h2 h3
  rw [scanAt_end s false (0 + s.size) (by omega)] at this
  have hext:s.extract 0 (0 + s.size)=s:=bytes_inj (by rw [ext_list,List.drop_zero];exact List.take_of_length_le (Nat.le_of_eq (Array.length_toList (xs:=s.data))))
  rw [hext] at this
  unfold oneS
  rw [scanS_ok s (by omega) _ this]
  simp
def tokOk (t:Tok):Bool:=oneS t.kind t.text
theorem ok_parts {t:Tok} (h:tokOk t=true):∃ h:0 < t.text.size,t.text.size≤5000∧tokAt t.text.data.toList=(t.kind,t.text.size)∧tokErr t.kind t.text.size t.text[0]=0:=by
 unfold tokOk at h
 rw [oneS_eq] at h
 exact (isTok_eq t.kind t.text).1 h
theorem first_byte (u:ByteArray) (h:0 < u.size):∃ l,u.data.toList=u[0]::l:=by
 have:=drop_byte u 0 h
 rw [List.drop_zero] at this
 exact⟨_,this⟩
theorem chain_ok (s:ByteArray) (hs:s.size≤5000):∀ (l:List Tok) (i:Nat),Chain s i l→l.all tokOk=true
 | [],_,_=>rfl
 | t::l,i,h=>by
  obtain⟨j,_,_,⟨hj,h1,h2⟩,h3,h4,h5⟩:=h
  rw [List.all_cons,chain_ok s hs l _ h5,Bool.and_true]
  have hk:=tokErr_kind h2
  have hp:=tokAt_pos (s.data.toList.drop j) (by rw [h1];exact hk)
  rw [h1] at hp
  have hl:t.text.data.toList=(s.data.toList.drop j).take t.text.size:=by
   have e:=congrArg (fun x:ByteArray=>x.data.toList) h4
   rw [ext_list] at e
   exact e
  unfold tokOk
  rw [oneS_eq]
  refine (isTok_eq t.kind t.text).2 ⟨hp,by omega,?_,?_⟩
  ·rw [hl];exact tokAt_take _ _ _ h1 hk
  ·have hb:t.text[0]=s[j]:=by
    obtain⟨l0,hl0⟩:=first_byte t.text hp
    have hd:=drop_byte s j hj
    rw [hd,hl0] at hl
    rw [show t.text.size=(t.text.size - 1) + 1 from by omega,List.take_succ_cons] at hl
    injection hl
   rw [hb]
   exact h2
theorem scanS_all {s:ByteArray} {l:List Tok} {p:Int} (h:scanS s=(l,p,0)):l.all tokOk=true:=by
 obtain⟨h1,h2,_⟩:=scanS_chain s l p h
 exact chain_ok s h2 l 0 h1
end Go.Proofs.YtapciiffpnociabGreatDoor
namespace Go.Proofs
open Go.Shelf
end Go.Proofs
namespace Go.Proofs.YtapciiffpnociabGreatDoor
open Go Go.RowKit
theorem ok_num {t:Tok} (h:tokOk t=true) (hk:t.kind=3):0 < t.text.size∧t.text.size≤7∧∀ c∈t.text.data.toList,digitB c=true:=by
 obtain⟨h0,_,h2,h3⟩:=ok_parts h
 rw [hk] at h2 h3
 refine⟨h0,?_,?_⟩
 ·unfold tokErr at h3
  rw [if_neg (by decide)] at h3
  split at h3
  ·cases h3
  ·omega
 ·have hl:t.text.data.toList.length=t.text.size:=Array.length_toList
  rw [← hl] at h2
  generalize t.text.data.toList=l at *
  cases l with
  | nil=>intro c hc;cases hc
  | cons c r =>
   rw [tokAt_cons] at h2
   by_cases a:letterB c=true
   ·rw [if_pos a] at h2
    exfalso
    have:=(Prod.mk.inj h2).1
    split at this <;> cases this
   ·rw [if_neg a] at h2
    by_cases b:digitB c=true
    ·rw [if_pos b] at h2
     have h4:=(Prod.mk.inj h2).2
     rw [List.length_cons] at h4
     have:∀ l:List UInt8,takeW digitB l=l.length→∀ c∈l,digitB c=true:=by
      intro l
      induction l with
      | nil=>intro _ c hc;cases hc
      | cons x xs ih =>
       intro hx c hc
       unfold takeW at hx
       by_cases hd:digitB x=true
       ·rw [if_pos hd] at hx
        rcases List.mem_cons.1 hc with rfl|hc
        ·exact hd
        ·exact ih (by simpa using hx) c hc
       ·rw [if_neg hd] at hx;simp at hx
     intro x hx
     rcases List.mem_cons.1 hx with rfl|hx
     ·exact b
     ·exact this r (by omega) x hx
    ·rw [if_neg b] at h2
     exfalso
     by_cases d:pairB (c::r)=true
     ·rw [if_pos d] at h2;exact absurd (Prod.mk.inj h2).1 (by decide)
     ·rw [if_neg d] at h2
      by_cases g:signs.contains c=true
      ·rw [if_pos g] at h2;exact absurd (Prod.mk.inj h2).1 (by decide)
      ·rw [if_neg g] at h2;exact absurd (Prod.mk.inj h2).1 (by decide)
attribute [local irreducible] DW DS DL DQ Ev FnOk FnP FnOkE thenD inBlockD
abbrev tmV (t:TTm):SV:=.agg [.d (.str t.var),.d (.int .i64 t.n)]
theorem i64_wf {n:Int} (h1:-9223372036854775808≤n) (h2:n≤9223372036854775807):(Lit.int .i64 n).wf=true:=by
 simp [Lit.wf,IntKind.min,IntKind.max,IntKind.bits,IntKind.signed]
 omega
theorem seesT_lt {l:List Tok} {i:Nat} {s:ByteArray} (h:seesT l i s=true):i < l.length:=by
 apply Classical.byContradiction
 intro hn
 unfold seesT at h
 rw [List.getElem?_eq_none (by omega)] at h
 cases h
theorem termT_lt {l:List Tok} {i j:Nat} {t:TTm} (h:termT l i = .ok (t,j)):i < j∧j≤l.length:=by
 unfold termT at h
 generalize hb:seesT l i ⟨#[45]⟩=b at h
 have key:∀ q:Nat,(match l[q]? with
  | none=>(.error q:PR TTm)
  | some t=>if t.kind=2∧b=false then .ok ((⟨t.text,0⟩:TTm),q + 1)
   else if t.kind≠3∨(b=true∧t.text=(⟨#[48]⟩:ByteArray)) then .error q
   else .ok ((⟨(⟨#[]⟩:ByteArray),(match b with|true=>-1|false=>1) * numT t.text⟩:TTm),q + 1)) = .ok (t,j)→j=q + 1∧j≤l.length:=by
  intro q hq
  by_cases hl:q < l.length
  ·rw [List.getElem?_eq_getElem hl] at hq
   dsimp only at hq
   split at hq
   ·injection hq with hq;injection hq with h1 h2;omega
   ·split at hq
    ·cases hq
    ·injection hq with hq;injection hq with h1 h2;omega
  ·rw [List.getElem?_eq_none (by omega)] at hq;cases hq
 cases b with
 | true=>have:=key (i + 1) h;omega
 | false=>have:=key i h;omega
def foldT (l:List Tok) (head:Bool) (j q:Nat):Int:=match head with
 | true=>firstT l j (foldsT.drop q) (q + 1)
 | false=>0
theorem termsGo_succ (l:List Tok) (head:Bool) (m j:Nat) (acc:List TTm):termsGo l head (m + 1) j acc =
  match termT l (if foldT l head j 0≠0 then j + 1 else j) with
  | .error k=>.error k
  | .ok (t,k) =>
   if foldT l head j 0≠0∨seesT l k ⟨#[44]⟩=false then
    (if seesT l k ⟨#[41]⟩ then .ok ((acc++[t],foldT l head j 0),k + 1) else .error k)
   else termsGo l head m (k + 1) (acc++[t]):=by cases head <;> rfl
theorem foldT_sees {l:List Tok} {head:Bool} {j q:Nat} (h:foldT l head j q≠0):j < l.length:=by
 unfold foldT at h
 cases head with
 | true =>
  dsimp only at h
  generalize foldsT.drop q=ws at h
  generalize (q:Int) + 1=z at h
  induction ws generalizing z with
  | nil=>exact absurd rfl h
  | cons w ws ih =>
   unfold firstT at h
   by_cases hs:seesT l j w=true
   ·exact seesT_lt hs
   ·rw [if_neg hs] at h;exact ih _ h
 | false=>exact absurd rfl h
end Go.Proofs.YtapciiffpnociabGreatDoor
namespace Go.Proofs.YtapciiffpnociabGreatDoor
open Go Go.RowKit
section
variable {Γ : Ctx} {l : List Oper} {κ c : Nat}
def tailB (l:List Oper) (c:Nat):Bool:=(enumO 0 l).all fun q=>Nat.blt q.1 c || (List.range q.1).all fun i=>reachB l l.length q.1 i
theorem tailB_spec (h:tailB l c=true) {j i:Nat} {o:Oper} (hj:l[j]? = some o) (hc:c≤j) (hi:i < j):reachB l l.length j i=true:=by
 unfold tailB at h
 rw [List.all_eq_true] at h
 have h1:=h (j,o) ((enumO_mem l 0 (j,o)).2 ⟨Nat.zero_le _,by simpa using hj⟩)
 rw [Bool.or_eq_true] at h1
 rcases h1 with h1|h1
 ·have:j < c:=Nat.le_of_ble_eq_true h1
  omega
 ·exact List.all_eq_true.1 h1 i (List.mem_range.2 hi)
theorem enumO_app:∀ (a b:List Oper) (n:Nat),enumO n (a++b)=enumO n a++enumO (n + a.length) b
 | [],b,n=>rfl
 | o::a,b,n=>by
  rw [List.cons_append,enumO,enumO,enumO_app a b (n + 1),List.cons_append,List.length_cons,show n + 1 + a.length=n + (a.length + 1) by omega]
theorem down_spec (hdown:regDownB l=true):∀ j o,l[j]? = some o→∀ e∈o.after,Region.binds .any e=true→e.on < j:=by
 intro j o hj e he hb
 unfold regDownB at hdown
 rw [List.all_eq_true] at hdown
 have h1:=hdown (j,o) ((enumO_mem l 0 (j,o)).2 ⟨Nat.zero_le _,by simpa using hj⟩)
 rw [List.all_eq_true] at h1
 have h2:=h1 e (by simpa using he)
 simp only [hb,Bool.not_true,Bool.false_or] at h2
 exact Nat.le_of_ble_eq_true h2
theorem first_ready (hdown:regDownB l=true) {listed:Array Bool} {q:Nat × Oper} {rem':List (Nat × Oper)} (g:Going l listed (q::rem')):q.1∈Region.ready .any l.toArray listed:=by
 obtain⟨h1,h2⟩:=(g.left q).1 (List.mem_cons_self ..)
 refine mem_ready.2 ⟨h2,q.2,by simpa using h1,fun e' he hb=>?_⟩
 have hlt:=down_spec hdown q.1 q.2 h1 e' he hb
 have hln:e'.on < listed.size:=by rw [g.size];have:=lt_of_some h1;omega
 cases hx:listed.getD e'.on false with
 | true=>rfl
 | false =>
  exfalso
  have hx':listed.getD e'.on true=false:=(getD_flip hln).trans hx
  have hlen':e'.on < l.length:=by rw [← g.size];exact hln
  have hm:=(g.left (e'.on,l[e'.on])).2 ⟨by simp [hlen'],hx'⟩
  rcases List.mem_cons.1 hm with h|h
  ·have:e'.on=q.1:=by rw [← h]
   omega
  ·have:=(List.pairwise_cons.1 g.sorted).1 _ h
   simp at this
   omega
theorem tail_run (hdown:regDownB l=true) (hT:tailB l c=true) {Q:Exit→Act→World→Prop}:∀ (m:Nat) (listed:Array Bool) (a:Act) (w:World),Going l listed (enumO (l.length - m) (l.drop (l.length - m)))→m≤l.length - c→wpList Γ.P l.toArray Q (l.drop (l.length - m)) a w→wpAny Γ.P .any l.toArray Q m listed a w
 | 0,listed,a,w,g,_,h=>by
  have hn:l.drop (l.length - 0)=[]:=List.drop_eq_nil_of_le (by omega)
  rw [hn] at g h
  refine⟨?_,h⟩
  apply List.eq_nil_iff_forall_not_mem.2
  intro j hj
  obtain⟨h1,o,ho,_⟩:=mem_ready.1 hj
  have:=(g.left (j,o)).2 ⟨by simpa using ho,h1⟩
  simp [enumO] at this
 | m + 1,listed,a,w,g,hm,h=>by
  have hj:l.length - (m + 1) < l.length:=by omega
  have hd:l.drop (l.length - (m + 1))=l[l.length - (m + 1)]::l.drop (l.length - m):=by
   rw [List.drop_eq_getElem_cons hj]
   congr 2
   omega
  have hen:enumO (l.length - (m + 1)) (l.drop (l.length - (m + 1)))=(l.length - (m + 1),l[l.length - (m + 1)])::enumO (l.length - m) (l.drop (l.length - m)):=by
   rw [hd,enumO]
   congr 2
   omega
  rw [hen] at g
  rw [hd] at h
  generalize hJ:l.length - (m + 1)=J at *
  have hr:=first_ready hdown g
  refine⟨fun h0=>?_,fun i hi=>?_⟩
  ·rw [h0] at hr;simp at hr
  ·obtain⟨h1,o,ho,hall⟩:=mem_ready.1 hi
   have hio:l[i]? = some o:=by simpa using ho
   have hij:i=J:=by
    have hmem:=(g.left (i,o)).2 ⟨hio,h1⟩
    rcases List.mem_cons.1 hmem with h|h
    ·exact congrArg Prod.fst h
    ·exfalso
     have hlt:J < i:=by simpa using (List.pairwise_cons.1 g.sorted).1 _ h
     have:=reach_done g l.length i o (tailB_spec hT hio (by omega) hlt) hio hall
     have h3:=((g.left (J,l[J])).1 (List.mem_cons_self ..)).2
     have hJs:J < listed.size:=by rw [g.size];exact hj
     rw [getD_flip hJs] at h3
     rw [h3] at this
     cases this
   subst hij
   have g':=Going.rest (pre:=[]) (i:=i) (o:=l[i]) (post:=enumO (l.length - m) (l.drop (l.length - m))) g hi rfl (by rw [List.getElem?_eq_getElem hj])
   unfold wpOp
   have hlk:l.toArray[i]? = some l[i]:=by simp [hj]
   rw [hlk]
   unfold wpList at h
   split at h
   ·rename_i hw
    simp only [hw,if_true]
    exact h.imp (fun h=>Oper.wp_mono (fun a' w' hk=>tail_run hdown hT m _ a' w' g' (by omega) hk) h) id
   ·rename_i hw
    simp only [hw]
    exact tail_run hdown hT m _ _ w g' (by omega) h
theorem tail_sim (hB:regAnyB l=true) (hT:tailB l c=true) (hcl:c≤l.length) {K:FS→Prop} {Q:Exit→Act→World→Prop} (hQ:∀ s e a w,K s→Rep Γ (lo (κ + c)) s e a w→wpList Γ.P l.toArray Q (l.drop c) a w) :
  ∀ (fuel:Nat) (listed:Array Bool) (a:Act) (w:World) (s:FS) (e:Env) (D:Nat→Prop) (rem:List (Nat × Oper)) (lg:Log),Going l listed (rem++enumO c (l.drop c))→(∀ q∈rem,q.1 < c)→rem.length=fuel→Rep Γ D s e a w →
   (∀ x,D x→x < κ + c∧∀ j,x=κ + j→listed.getD j false=true)→DR Γ l κ rem lg K s→wpAny Γ.P .any l.toArray Q (fuel + (l.length - c)) listed a w:=by
 simp only [regAnyB,Bool.and_eq_true] at hB
 obtain⟨hdown,hpair,hcall⟩:=hB
 intro fuel
 induction fuel with
 | zero =>
  intro listed a w s e D rem lg g hrc hlen hr hD hd
  have hrem:rem=[]:=List.eq_nil_of_length_eq_zero hlen
  subst hrem
  rw [Nat.zero_add]
  have hcc:l.length - (l.length - c)=c:=by omega
  refine tail_run hdown hT (l.length - c) listed a w (by rw [hcc];exact g) (Nat.le_refl _) ?_
  rw [hcc]
  cases hd with
  | nil hk =>
   obtain⟨L,H,m,hs⟩:=hr
   obtain⟨e',m'⟩:=m.widenTo (k':=lo (κ + c)) fun x hx=>(hD x hx).1
   exact hQ s e' a w hk ⟨L,H,m',hs⟩
 | succ fuel ih =>
  intro listed a w s e D rem lg g hrc hlen hr hD hd
  rw [show fuel + 1 + (l.length - c)=(fuel + (l.length - c)) + 1 by omega]
  obtain⟨q0,rem0,hq0⟩:∃ q r,rem=q::r:=by
   cases rem with
   | nil=>simp at hlen
   | cons q r=>exact⟨q,r,rfl⟩
  refine⟨fun h0=>?_,fun i hi=>?_⟩
  ·exfalso
   have hg:=g
   rw [hq0,List.cons_append] at hg
   have:=first_ready hdown hg
   rw [h0] at this
   simp at this
  ·obtain⟨h1,o,ho,hall⟩:=mem_ready.1 hi
   have hio:l[i]? = some o:=by simpa using ho
   have hic:i < c:=by
    apply Classical.byContradiction
    intro hn
    have hq0c:q0.1 < c:=hrc q0 (by rw [hq0];exact List.mem_cons_self ..)
    have hrd:=reach_done g l.length i o (tailB_spec hT hio (by omega) (show q0.1 < i by omega)) hio hall
    have h3:=(g.left q0).1 (List.mem_append_left _ (by rw [hq0];exact List.mem_cons_self ..))
    have hs:q0.1 < listed.size:=by rw [g.size];exact lt_of_some h3.1
    have h4:=h3.2
    rw [getD_flip hs,hrd] at h4
    cases h4
   have hmem:(i,o)∈rem:=by
    rcases List.mem_append.1 ((g.left (i,o)).2 ⟨hio,h1⟩) with h|h
    ·exact h
    ·exfalso
     have:=((enumO_mem _ _ _).1 h).1
     simp only at this
     omega
   obtain⟨pre,post,hre⟩:=List.append_of_mem hmem
   have g0:=g
   rw [hre,List.append_assoc,List.cons_append] at g0
   have g':=g0.rest hi rfl hio
   rw [← List.append_assoc] at g'
   have hpull:DR Γ l κ ((i,o)::(pre++post)) lg K s:=by
    refine DR.pull pre lg s (fun q hq=>?_) (hre▸hd)
    have hqr:q∈rem++enumO c (l.drop c):=List.mem_append_left _ (by rw [hre];exact List.mem_append_left _ hq)
    obtain⟨hq1,hq2⟩:=(g.left q).1 hqr
    have hqi:q.1 < i:=by
     have hs:=g0.sorted
     rw [List.pairwise_append] at hs
     have:=hs.2.2 q hq (i,o) (List.mem_cons_self ..)
     simpa using this
    have hqs:q.1 < listed.size:=by rw [g.size];exact lt_of_some hq1
    have hq2':listed.getD q.1 false=false:=(getD_flip hqs).symm.trans hq2
    have e0:path2B l i q.1=false:=path2_false hio hall g.closed hq2'
    have e1:=path2_edge e0
    have e2:edgeB l q.1 i=false:=by
     cases hx:edgeB l q.1 i with
     | false=>rfl
     | true =>
      obtain⟨o',ho',e',he',hb',hon⟩:=edgeB_spec.1 hx
      have:=down_spec hdown q.1 o' ho' e' he' hb'
      omega
    refine⟨e0,e2,?_,fun hcq=>?_⟩
    ·unfold regPairB at hpair
     rw [List.all_eq_true] at hpair
     have p1:=hpair (i,o) ((enumO_mem l 0 (i,o)).2 ⟨Nat.zero_le _,by simpa using hio⟩)
     rw [List.all_eq_true] at p1
     have p2:=p1 q ((enumO_mem l 0 q).2 ⟨Nat.zero_le _,by simpa using hq1⟩)
     have hnb:Nat.ble i q.1=false:=by
      cases hb:Nat.ble i q.1 with
      | false=>rfl
      | true=>have:=Nat.le_of_ble_eq_true hb;omega
     simp only [hnb,Bool.false_or,e1] at p2
     exact p2
    ·cases hci:isCall o with
     | false=>rfl
     | true =>
      have:=calls_done g hcall hq1 hcq i o hio hci hqi hall
      rw [hq2'] at this
      cases this
   cases hpull with
   | cons cc S rd wr hm hl hne hn hk =>
    have hz:¬ D (κ + i):=by
     intro hx
     have:=(hD _ hx).2 i rfl
     have hin:i < listed.size:=by rw [g.size];exact lt_of_some hio
     rw [← getD_flip hin,h1] at this
     cases this
    refine Mv.sound hm hr ⟨κ + c,fun x hx=>(hD x hx).1⟩ hz hio Q _ fun v u a' w' e' hv hr'=>?_
    refine ih (listed.setIfInBounds i true) a' w' _ e' _ (pre++post) _ g' (fun q hq=>hrc q ?_) ?_ hr' (fun x hx=>?_) (hk v u hv)
    ·rw [hre];rcases List.mem_append.1 hq with h|h <;> simp [h]
    ·rw [hre] at hlen
     simp only [List.length_append,List.length_cons] at hlen ⊢
     omega
    ·have hin:i < listed.size:=by rw [g.size];exact lt_of_some hio
     rcases hx with hx|hx
     ·refine⟨(hD x hx).1,fun j hj=>?_⟩
      have:=(hD x hx).2 j hj
      by_cases hij:i=j
      ·subst hij;simp [hin]
      ·rw [getD_set_ne false hij];exact this
     ·subst hx
      refine⟨by omega,fun j hj=>?_⟩
      have:i=j:=by omega
      subst this
      simp [hin]
theorem dw_tail {id k m:Nat} {L:Sl} {H:Hp} {Q:Post} (c:Nat) (hm:Γ.P.follows .mixedOrders=true) (hB:regAnyB l=true) (hT:tailB l c=true) (hcl:Nat.ble c l.length=true) (hnd:noDefer l=true) (hl:lenIs (l.take c) k m)
  (h:DT Γ l k (enumO 0 (l.take c)) [] (endK Γ m (fun k' L' H'=>DS false Γ l (l.drop c) (Q .normal) k' L' H')) L H):DW Γ (.region id l.toArray true) Q k L H:=by
 have hcl:=Nat.le_of_ble_eq_true hcl
 have hmc:k + c=m:=by
  have:=lenIs_spec (l.take c) k m hl
  rw [List.length_take] at this
  omega
 subst hmc
 intro e a w mm
 refine wpIn_mono (wpIn_region_any hm (wpAny_in (letsOut_lift (Γ:=Γ) (K:=Q .normal)) hnd _ _ _ _ ?_)) (lift_mono (fun ex k' L' H' (⟨h1,h2⟩:onNormal (Q .normal) ex k' L' H')=>h1▸h2))
 have m0:=mm.below (w':={ w with drawn:=w.drawn + 1 }) ((Beld.refl _ _ _).drew)
 have hsp:enumO 0 (l.take c)++enumO c (l.drop c)=enumO 0 l:=by
  have:=enumO_app (l.take c) (l.drop c) 0
  rw [List.take_append_drop,List.length_take,Nat.zero_add,Nat.min_eq_left hcl] at this
  exact this.symm
 have hg:Going l (Array.replicate l.length false) (enumO 0 l):=by
  refine⟨by simp,fun j o hj hl=>?_,fun q=>?_,enumO_sorted l 0⟩
  ·have hlt:=lt_of_some hj
   simp [hlt] at hl
  ·rw [enumO_mem l 0 q]
   simp only [Nat.zero_le,Nat.sub_zero,true_and]
   constructor
   ·intro hq;exact⟨hq,by have:=lt_of_some hq;simp [this]⟩
   ·exact fun h=>h.1
 have hlenO:∀ (l:List Oper) b,(enumO b l).length=l.length:=by
  intro l
  induction l with
  | nil=>intro b;rfl
  | cons o l ih=>intro b;simp [enumO,ih]
 have hsize:l.toArray.size=c + (l.length - c):=by simp;omega
 rw [hsize]
 refine tail_sim hB hT hcl (K:=endK Γ (k + c) (fun k' L' H'=>DS false Γ l (l.drop c) (Q .normal) k' L' H')) (Q:=lift Γ (onNormal (Q .normal))) (fun s e a w hk hr=>?_) c _ a _ (ofL L H) e (lo k) (enumO 0 (l.take c)) [] (by rw [hsp,← hsize];simpa using hg) (fun q hq=>?_) (by rw [hlenO,List.length_take];omega) ⟨L,H,m0,rfl⟩ (fun x hx=>⟨Nat.lt_of_lt_of_le hx (Nat.le_add_right _ _),fun j hj=>?_⟩) h
 ·obtain⟨k',L',H',e',m',hq⟩:=hk e a w hr
  exact hq e' a w m'
 ·have h2:=((enumO_mem _ _ _).1 hq).2
  have:=lt_of_some h2
  rw [List.length_take] at this
  omega
 ·have:x < k:=hx
  omega
theorem dw_stopT (id:Nat) {k:Nat} {L:Sl} {H:Hp} {ops:Array Oper} {b:Bool} {Q:Post} (h:DW Γ (.region id ops b) Q k L H):DW Γ (.region id ops b) Q k L H:=h
end
end Go.Proofs.YtapciiffpnociabGreatDoor
namespace Go.Proofs.YtapciiffpnociabGreatDoor
open Go Go.RowKit
section
variable {Γ : Ctx} {l : List Oper} {κ c : Nat}
end
attribute [local irreducible] DW DS DL DQ Ev FnOk FnP FnOkE thenD inBlockD
theorem testT_lt {l:List Tok} {i j:Nat} {x:Int × Int × List TTm} (h:testT l i = .ok (x,j)):i < j∧j≤l.length:=by
 unfold testT at h
 cases h1:termT l i with
 | error k=>rw [h1] at h;cases h
 | ok p =>
  obtain⟨a,k⟩:=p
  rw [h1] at h
  dsimp only at h
  obtain⟨k1,k2⟩:=termT_lt h1
  split at h
  ·cases h
  cases h2:termT l (k + 1) with
  | error k=>rw [h2] at h;cases h
  | ok p =>
   obtain⟨b,m⟩:=p
   rw [h2] at h
   dsimp only at h
   obtain⟨m1,m2⟩:=termT_lt h2
   split at h
   ·injection h with h;injection h with h3 h4;omega
   split at h
   ·cases h3:termT l (m + 1) with
    | error k=>rw [h3] at h;cases h
    | ok p =>
     obtain⟨c,q⟩:=p
     rw [h3] at h
     dsimp only at h
     obtain⟨q1,q2⟩:=termT_lt h3
     injection h with h;injection h with h3 h4;omega
   ·cases h
theorem nameT_lt {l:List Tok} {i j:Nat} {s:ByteArray} (h:nameT l i = .ok (s,j)):j=i + 1∧j≤l.length:=by
 unfold nameT at h
 by_cases hl:i < l.length
 ·rw [List.getElem?_eq_getElem hl] at h
  dsimp only at h
  split at h
  ·injection h with h;injection h with h1 h2;omega
  ·cases h
 ·rw [List.getElem?_eq_none (by omega)] at h;cases h
theorem termsGo_lt {l:List Tok} {head:Bool}:∀ (n i:Nat) (acc:List TTm) {x:List TTm × Int} {j:Nat},termsGo l head n i acc = .ok (x,j)→i < j∧j≤l.length
 | 0,_,_,_,_,h=>by cases h
 | n + 1,i,acc,x,j,h=>by
  rw [termsGo_succ] at h
  generalize foldT l head i 0=f at h
  cases h1:termT l (if f≠0 then i + 1 else i) with
  | error k=>rw [h1] at h;cases h
  | ok p =>
   obtain⟨a,k⟩:=p
   rw [h1] at h
   dsimp only at h
   obtain⟨k1,k2⟩:=termT_lt h1
   have hik:i < k:=by split at k1 <;> omega
   split at h
   ·split at h
    ·rename_i hs
     have:=seesT_lt hs
     injection h with h;injection h with h3 h4;omega
    ·cases h
   ·have:=termsGo_lt n (k + 1) _ h
    omega
theorem termsT_lt {l:List Tok} {head:Bool} {i j:Nat} {x:List TTm × Int} (h:termsT l i head = .ok (x,j)):i < j∧j≤l.length:=by
 unfold termsT at h
 split at h
 ·split at h
  ·rename_i hs
   have:=seesT_lt hs
   injection h with h;injection h with h3 h4;omega
  ·have:=termsGo_lt _ _ _ h;omega
 ·cases h
theorem litT_lt {l:List Tok} {e:Int} {i j:Nat} {x:TLt} (h:litT l e i = .ok (x,j)):i < j∧j≤l.length:=by
 have nm:∀ (q:Nat) (kd:Int),(match nameT l q with
   | .error k=>(.error k:PR TLt)
   | .ok (s,k)=>(match termsT l k false with
    | .error m=>.error m
    | .ok ((ts,_),m)=>.ok (⟨kd,hereT l e i,0,s,ts⟩,m))) = .ok (x,j)→q < j∧j≤l.length:=by
  intro q kd hq
  cases h1:nameT l q with
  | error k=>rw [h1] at hq;cases hq
  | ok p =>
   obtain⟨a,k⟩:=p
   rw [h1] at hq
   dsimp only at hq
   have:=nameT_lt h1
   cases h2:termsT l k false with
   | error k=>rw [h2] at hq;cases hq
   | ok p =>
    obtain⟨⟨b,f⟩,m⟩:=p
    rw [h2] at hq
    dsimp only at hq
    have:=termsT_lt h2
    injection hq with hq;injection hq with h3 h4;omega
 unfold litT at h
 split at h
 ·have:=nm (i + 1) 2 h;omega
 ·split at h
  ·cases h1:testT l i with
   | error k=>rw [h1] at h;cases h
   | ok p =>
    obtain⟨⟨a,b,c⟩,k⟩:=p
    rw [h1] at h
    dsimp only at h
    have:=testT_lt h1
    injection h with h;injection h with h3 h4;omega
  ·have:=nm i 1 h;omega
theorem litsGo_succ (l:List Tok) (e:Int) (n i:Nat) (acc:List TLt):litsGo l e (n + 1) i acc=match litT l e i with
  | .error k=>.error k
  | .ok (x,k)=>if seesT l k ⟨#[44]⟩ then litsGo l e n (k + 1) (acc++[x]) else .ok (acc++[x],k):=rfl
theorem rulesGo_succ (l:List Tok) (e:Int) (n i:Nat) (acc:List TRu):rulesGo l e (n + 1) i acc=if i < l.length then
   (match ruleT l e i with
   | .error k=>.error k
   | .ok (r,k)=>rulesGo l e n k (acc++[r]))
  else .ok acc:=rfl
theorem litsGo_lt {l:List Tok} {e:Int}:∀ (n i:Nat) (acc:List TLt) {x:List TLt} {j:Nat},litsGo l e n i acc = .ok (x,j)→i < j∧j≤l.length
 | 0,_,_,_,_,h=>by cases h
 | n + 1,i,acc,x,j,h=>by
  unfold litsGo at h
  cases h1:litT l e i with
  | error k=>rw [h1] at h;cases h
  | ok p =>
   obtain⟨a,k⟩:=p
   rw [h1] at h
   dsimp only at h
   have:=litT_lt h1
   split at h
   ·have:=litsGo_lt n (k + 1) _ h;omega
   ·injection h with h;injection h with h3 h4;omega
theorem ruleT_lt {l:List Tok} {e:Int} {i j:Nat} {x:TRu} (h:ruleT l e i = .ok (x,j)):i < j∧j≤l.length:=by
 unfold ruleT at h
 cases h1:nameT l i with
 | error k=>rw [h1] at h;cases h
 | ok p =>
  obtain⟨s,k⟩:=p
  rw [h1] at h
  dsimp only at h
  have:=nameT_lt h1
  cases h2:termsT l k true with
  | error k=>rw [h2] at h;cases h
  | ok p =>
   obtain⟨⟨ts,f⟩,m⟩:=p
   rw [h2] at h
   dsimp only at h
   have:=termsT_lt h2
   split at h
   ·rename_i hs
    have:=seesT_lt hs.2
    injection h with h;injection h with h3 h4;omega
   ·split at h
    ·cases h3:litsGo l e (l.length + 1) (m + 1) [] with
     | error k=>rw [h3] at h;cases h
     | ok p =>
      obtain⟨b,q⟩:=p
      rw [h3] at h
      dsimp only at h
      have:=litsGo_lt _ _ _ h3
      split at h
      ·rename_i hs
       have:=seesT_lt hs
       injection h with h;injection h with h3 h4;omega
      ·cases h
    ·cases h
abbrev tlV (x:TLt):SV:=.agg [.d (.int .i64 x.kind),.d (.int .i64 x.at_),.d (.int .i64 x.op),.d (.str x.name),.d (.slice 2 (x.terms.map encTTm))]
abbrev elTTm (t:TTm):SV:=.agg [.d (.str t.var),.d (.int .i64 t.n)]
abbrev elTLt (x:TLt):SV:=.agg [.d (.int .i64 x.kind),.d (.int .i64 x.at_),.d (.int .i64 x.op),.d (.str x.name),.d (.slice 2 (x.terms.map encTTm))]
abbrev elTRu (x:TRu):SV:=.agg [.d (.int .i64 x.at_),.d (.str x.name),.d (.slice 2 (x.terms.map encTTm)),.d (.int .i64 x.fold),.d (.slice 5 (x.body.map encTLt))]
attribute [local irreducible] DT
set_option maxHeartbeats 8000000 in
theorem indexTm_fn {f:FuncId} {caps:List SV} (p:TTm→Bool) (l:List (TTm)) (hcap:SV.lowL 0 caps=true) (hp:∀ x∈l,Fn f (elTTm x::caps) (fun r=>r = .d (.bool (p x)))):Fn 111 [.d (.slice 2 (l.map encTTm)),.fn f caps] (fun r=>r = .d (.int .i64 (idxF p l))):=by
 refine fnp_enter' _ Tryz.func111 rfl rfl (by kernel_rfl) ?_
 intro O w0 E0 β0
 refine dw_len_map (t:=0) rfl fun hb=>?_
 repeat' (first|refine z0 ?_|apply ds_nil|apply dw_seq2|refine z16 ?_|apply dw_block|apply thenD_n)
 refine ds_loop (ι:=Nat) (fun i=>⟨0,[(0,.d (.slice 2 (l.map encTTm))),(1,.fn f caps),(7,.d (.int .i64 l.length)),(8,.d (.int .i64 i))],[]⟩)
  (fun i=>i≤l.length∧∀ j (hj:j < l.length),j < i→p l[j]=false) (fun i=>l.length - i) 0 ⟨Nat.zero_le _,fun j _ h=>absurd h (Nat.not_lt_zero j)⟩
  (ent_ren id ⟨rfl,congrArg (SV.fn f) (SV.renL_id caps).symm,by simp;rfl,rfl,trivial⟩ trivial (by simp [Sl.low,SV.low,hcap]) rfl rfl rfl rfl rfl) ?_
 rintro i ⟨h1,h2⟩
 repeat' (first|refine z0 ?_|apply ds_nil|apply dw_seq2|refine z16 ?_|apply thenD_n)
 refine dw_condP rfl (fun h=>?_) (fun h=>?_)
 ·have hi:i < l.length:=by omega
  have hpx:=hp l[i] (List.getElem_mem hi)
  repeat' (first|refine z0 ?_|apply ds_nil|apply dw_seq2|refine z16 ?_|apply dw_block|apply dw_skip|apply thenD_n|(apply ds_callV;exact rfl;exact rfl;exact rfl;exact rfl;apply hpx;exact rfl;(assumption);exact rfl;rintro _ rfl))
  refine dw_cond rfl (fun hb=>?_) (fun hb=>?_)
  ·repeat' (first|refine z0 ?_|apply ds_nil|apply dw_seq2|refine z16 ?_|apply dw_ret|apply thenD_n|apply thenD_r|apply inB_r)
   exact ret_i rfl (idxF_hit h2 hi hb).symm
  ·repeat' (first|refine z0 ?_|apply ds_nil|refine z16 ?_|apply dw_skip|apply thenD_n|apply inB_n)
   exact⟨i + 1,⟨hi,none_step h2 hi hb⟩,ent_ren id ⟨rfl,congrArg (SV.fn f) (SV.renL_id caps).symm,rfl,rfl,trivial⟩ trivial (by simp [Sl.low,SV.low,hcap]) rfl rfl rfl rfl rfl,by omega⟩
 ·repeat' (first|refine z0 ?_|apply ds_nil|apply dw_seq2|refine z16 ?_|apply dw_exit|apply dw_ret|apply thenD_n|apply thenD_e|refine z17 ?_|fail)
  exact ret_i rfl (idxF_none fun j hj=>h2 j hj (by omega)).symm
set_option maxHeartbeats 8000000 in
theorem containsTm_fn {f:FuncId} {caps:List SV} (p:TTm→Bool) (l:List (TTm)) (hcap:SV.lowL 0 caps=true) (hp:∀ x∈l,Fn f (elTTm x::caps) (fun r=>r = .d (.bool (p x)))):Fn 98 [.d (.slice 2 (l.map encTTm)),.fn f caps] (fun r=>r = .d (.bool (l.any p))):=by
 refine fnp_enter' _ Tryz.func98 rfl rfl (by kernel_rfl) ?_
 intro O w0 E0 β0
 have hx:=indexTm_fn p l hcap hp
 have hlow:SV.lowL 0 [.d (.slice 2 (l.map encTTm)),.fn f caps]=true:=by simp [SV.lowL,SV.low,hcap]
 repeat' (first|refine z0 ?_|apply ds_nil|apply dw_seq2|refine z16 ?_|apply dw_ret|apply thenD_n|refine z21 ?_ (hc:=by apply hx)|fail)
 exact ret_b rfl (idxF_any p l)
set_option maxHeartbeats 8000000 in
theorem indexTl_fn {f:FuncId} {caps:List SV} (p:TLt→Bool) (l:List (TLt)) (hcap:SV.lowL 0 caps=true) (hp:∀ x∈l,Fn f (elTLt x::caps) (fun r=>r = .d (.bool (p x)))):Fn 95 [.d (.slice 5 (l.map encTLt)),.fn f caps] (fun r=>r = .d (.int .i64 (idxF p l))):=by
 refine fnp_enter' _ Tryz.func95 rfl rfl (by kernel_rfl) ?_
 intro O w0 E0 β0
 refine dw_len_map (t:=0) rfl fun hb=>?_
 repeat' (first|refine z0 ?_|apply ds_nil|apply dw_seq2|refine z16 ?_|apply dw_block|apply thenD_n)
 refine ds_loop (ι:=Nat) (fun i=>⟨0,[(0,.d (.slice 5 (l.map encTLt))),(1,.fn f caps),(7,.d (.int .i64 l.length)),(8,.d (.int .i64 i))],[]⟩)
  (fun i=>i≤l.length∧∀ j (hj:j < l.length),j < i→p l[j]=false) (fun i=>l.length - i) 0 ⟨Nat.zero_le _,fun j _ h=>absurd h (Nat.not_lt_zero j)⟩
  (ent_ren id ⟨rfl,congrArg (SV.fn f) (SV.renL_id caps).symm,by simp;rfl,rfl,trivial⟩ trivial (by simp [Sl.low,SV.low,hcap]) rfl rfl rfl rfl rfl) ?_
 rintro i ⟨h1,h2⟩
 repeat' (first|refine z0 ?_|apply ds_nil|apply dw_seq2|refine z16 ?_|apply thenD_n)
 refine dw_condP rfl (fun h=>?_) (fun h=>?_)
 ·have hi:i < l.length:=by omega
  have hpx:=hp l[i] (List.getElem_mem hi)
  repeat' (first|refine z0 ?_|apply ds_nil|apply dw_seq2|refine z16 ?_|apply dw_block|apply dw_skip|apply thenD_n|(apply ds_callV;exact rfl;exact rfl;exact rfl;exact rfl;apply hpx;exact rfl;(assumption);exact rfl;rintro _ rfl))
  refine dw_cond rfl (fun hb=>?_) (fun hb=>?_)
  ·repeat' (first|refine z0 ?_|apply ds_nil|apply dw_seq2|refine z16 ?_|apply dw_ret|apply thenD_n|apply thenD_r|apply inB_r)
   exact ret_i rfl (idxF_hit h2 hi hb).symm
  ·repeat' (first|refine z0 ?_|apply ds_nil|refine z16 ?_|apply dw_skip|apply thenD_n|apply inB_n)
   exact⟨i + 1,⟨hi,none_step h2 hi hb⟩,ent_ren id ⟨rfl,congrArg (SV.fn f) (SV.renL_id caps).symm,rfl,rfl,trivial⟩ trivial (by simp [Sl.low,SV.low,hcap]) rfl rfl rfl rfl rfl,by omega⟩
 ·repeat' (first|refine z0 ?_|apply ds_nil|apply dw_seq2|refine z16 ?_|apply dw_exit|apply dw_ret|apply thenD_n|apply thenD_e|refine z17 ?_|fail)
  exact ret_i rfl (idxF_none fun j hj=>h2 j hj (by omega)).symm
set_option maxHeartbeats 8000000 in
theorem containsTl_fn {f:FuncId} {caps:List SV} (p:TLt→Bool) (l:List (TLt)) (hcap:SV.lowL 0 caps=true) (hp:∀ x∈l,Fn f (elTLt x::caps) (fun r=>r = .d (.bool (p x)))):Fn 63 [.d (.slice 5 (l.map encTLt)),.fn f caps] (fun r=>r = .d (.bool (l.any p))):=by
 refine fnp_enter' _ Tryz.func63 rfl rfl (by kernel_rfl) ?_
 intro O w0 E0 β0
 have hx:=indexTl_fn p l hcap hp
 have hlow:SV.lowL 0 [.d (.slice 5 (l.map encTLt)),.fn f caps]=true:=by simp [SV.lowL,SV.low,hcap]
 repeat' (first|refine z0 ?_|apply ds_nil|apply dw_seq2|refine z16 ?_|apply dw_ret|apply thenD_n|refine z21 ?_ (hc:=by apply hx)|fail)
 exact ret_b rfl (idxF_any p l)
set_option maxHeartbeats 8000000 in
theorem indexTr_fn {f:FuncId} {caps:List SV} (p:TRu→Bool) (l:List (TRu)) (hcap:SV.lowL 0 caps=true) (hp:∀ x∈l,Fn f (elTRu x::caps) (fun r=>r = .d (.bool (p x)))):Fn 62 [.d (.slice 5 (l.map encTRu)),.fn f caps] (fun r=>r = .d (.int .i64 (idxF p l))):=by
 refine fnp_enter' _ Tryz.func62 rfl rfl (by kernel_rfl) ?_
 intro O w0 E0 β0
 refine dw_len_map (t:=0) rfl fun hb=>?_
 repeat' (first|refine z0 ?_|apply ds_nil|apply dw_seq2|refine z16 ?_|apply dw_block|apply thenD_n)
 refine ds_loop (ι:=Nat) (fun i=>⟨0,[(0,.d (.slice 5 (l.map encTRu))),(1,.fn f caps),(7,.d (.int .i64 l.length)),(8,.d (.int .i64 i))],[]⟩)
  (fun i=>i≤l.length∧∀ j (hj:j < l.length),j < i→p l[j]=false) (fun i=>l.length - i) 0 ⟨Nat.zero_le _,fun j _ h=>absurd h (Nat.not_lt_zero j)⟩
  (ent_ren id ⟨rfl,congrArg (SV.fn f) (SV.renL_id caps).symm,by simp;rfl,rfl,trivial⟩ trivial (by simp [Sl.low,SV.low,hcap]) rfl rfl rfl rfl rfl) ?_
 rintro i ⟨h1,h2⟩
 repeat' (first|refine z0 ?_|apply ds_nil|apply dw_seq2|refine z16 ?_|apply thenD_n)
 refine dw_condP rfl (fun h=>?_) (fun h=>?_)
 ·have hi:i < l.length:=by omega
  have hpx:=hp l[i] (List.getElem_mem hi)
  repeat' (first|refine z0 ?_|apply ds_nil|apply dw_seq2|refine z16 ?_|apply dw_block|apply dw_skip|apply thenD_n|(apply ds_callV;exact rfl;exact rfl;exact rfl;exact rfl;apply hpx;exact rfl;(assumption);exact rfl;rintro _ rfl))
  refine dw_cond rfl (fun hb=>?_) (fun hb=>?_)
  ·repeat' (first|refine z0 ?_|apply ds_nil|apply dw_seq2|refine z16 ?_|apply dw_ret|apply thenD_n|apply thenD_r|apply inB_r)
   exact ret_i rfl (idxF_hit h2 hi hb).symm
  ·repeat' (first|refine z0 ?_|apply ds_nil|refine z16 ?_|apply dw_skip|apply thenD_n|apply inB_n)
   exact⟨i + 1,⟨hi,none_step h2 hi hb⟩,ent_ren id ⟨rfl,congrArg (SV.fn f) (SV.renL_id caps).symm,rfl,rfl,trivial⟩ trivial (by simp [Sl.low,SV.low,hcap]) rfl rfl rfl rfl rfl,by omega⟩
 ·repeat' (first|refine z0 ?_|apply ds_nil|apply dw_seq2|refine z16 ?_|apply dw_exit|apply dw_ret|apply thenD_n|apply thenD_e|refine z17 ?_|fail)
  exact ret_i rfl (idxF_none fun j hj=>h2 j hj (by omega)).symm
set_option maxHeartbeats 8000000 in
theorem containsTr_fn {f:FuncId} {caps:List SV} (p:TRu→Bool) (l:List (TRu)) (hcap:SV.lowL 0 caps=true) (hp:∀ x∈l,Fn f (elTRu x::caps) (fun r=>r = .d (.bool (p x)))):Fn 40 [.d (.slice 5 (l.map encTRu)),.fn f caps] (fun r=>r = .d (.bool (l.any p))):=by
 refine fnp_enter' _ Tryz.func40 rfl rfl (by kernel_rfl) ?_
 intro O w0 E0 β0
 have hx:=indexTr_fn p l hcap hp
 have hlow:SV.lowL 0 [.d (.slice 5 (l.map encTRu)),.fn f caps]=true:=by simp [SV.lowL,SV.low,hcap]
 repeat' (first|refine z0 ?_|apply ds_nil|apply dw_seq2|refine z16 ?_|apply dw_ret|apply thenD_n|refine z21 ?_ (hc:=by apply hx)|fail)
 exact ret_b rfl (idxF_any p l)
theorem not_any {α:Type} (p:α→Bool):∀ l:List α,(!l.any fun t=>!p t)=l.all p
 | []=>rfl
 | a::l=>by rw [List.any_cons,List.all_cons,← not_any p l];cases p a <;> rfl
set_option maxHeartbeats 8000000 in
theorem tokenVar_fn (s:ByteArray):Fn 112 [.d (.str s)] (fun r=>r = .d (.bool (oneS 2 s))):=by
 refine fnp_enter' _ Tryz.func112 rfl rfl (by kernel_rfl) ?_
 intro O w0 E0 β0
 repeat' (first|refine z0 ?_|apply ds_nil|apply dw_seq2|refine z16 ?_|apply dw_ret|apply thenD_n|refine z21 ?_ (hc:=by apply one_fn)|fail)
 exact ret_b rfl rfl
set_option maxHeartbeats 8000000 in
theorem ttm_fn (t:TTm):Fn 100 [elTTm t] (fun r=>r = .d (.bool (tmOk t))):=by
 refine fnp_enter' _ Tryz.func100 rfl rfl (by kernel_rfl) ?_
 intro O w0 E0 β0
 have w1:=tokenVar_fn t.var
 unfold tmOk
 by_cases hv:t.var=⟨#[]⟩
 ·rw [if_pos hv]
  repeat' (first|refine z0 ?_|refine z12 ?_|apply ds_nil|apply dw_seq2|refine z16 ?_|apply dw_skip|apply dw_ret|apply thenD_n|apply thenD_r|refine z21 ?_ (hc:=by apply w1)|refine z1 ?_|(refine z23 ?_ ?_ <;> intro hg)|((fail_if_success (apply ds_known;exact rfl));apply ds_guardP;exact rfl;exact rfl;exact rfl;all_goals intro hg)|((fail_if_success (apply ds_known;exact rfl));apply ds_guardB;exact rfl;exact rfl;exact rfl;all_goals intro hg))
  all_goals try (exfalso;exact absurd hv (by assumption))
  all_goals exact ret_b rfl (by first|(simp_all;done)|(simp_all;omega))
 ·rw [if_neg hv]
  cases ho:oneS 2 t.var
  all_goals
   rw [ho] at w1
   repeat' (first|refine z0 ?_|refine z12 ?_|apply ds_nil|apply dw_seq2|refine z16 ?_|apply dw_skip|apply dw_ret|apply thenD_n|apply thenD_r|refine z21 ?_ (hc:=by apply w1)|refine z1 ?_|(refine z23 ?_ ?_ <;> intro hg)|((fail_if_success (apply ds_known;exact rfl));apply ds_guardP;exact rfl;exact rfl;exact rfl;all_goals intro hg))
  all_goals try (exfalso;exact absurd (by assumption) hv)
  all_goals exact ret_b rfl (by first|(simp_all;done)|(simp_all;omega))
set_option maxHeartbeats 8000000 in
theorem ttm1_fn (t:TTm):Fn 99 [elTTm t] (fun r=>r = .d (.bool (!tmOk t))):=by
 refine fnp_enter' _ Tryz.func99 rfl rfl (by kernel_rfl) ?_
 intro O w0 E0 β0
 have w1:=ttm_fn t
 repeat' (first|refine z0 ?_|apply ds_nil|apply dw_seq2|refine z16 ?_|apply dw_ret|apply thenD_n|refine z21 ?_ (hc:=by apply w1)|refine z1 ?_|fail)
 exact ret_b rfl rfl
set_option maxHeartbeats 8000000 in
theorem ttms_fn (l:List TTm):Fn 66 [.d (.slice 2 (l.map encTTm))] (fun r=>r = .d (.bool (tmsOk l))):=by
 refine fnp_enter' _ Tryz.func66 rfl rfl (by kernel_rfl) ?_
 intro O w0 E0 β0
 have w1:=containsTm_fn (caps:=[]) (f:=99) (fun t=>!tmOk t) l rfl (fun x _=>ttm1_fn x)
 repeat' (first|refine z0 ?_|apply ds_nil|apply dw_seq2|refine z16 ?_|apply dw_ret|apply thenD_n|refine z21 ?_ (hc:=by apply w1)|fail)
 refine ret_b rfl ?_
 exact not_any tmOk l
set_option maxHeartbeats 8000000 in
theorem twithin_fn (n a b:Int):Fn 67 [.d (.int .i64 n),.d (.int .i64 a),.d (.int .i64 b)] (fun r=>r = .d (.bool (decide (a≤n∧n≤b)))):=by
 refine fnp_enter' _ Tryz.func67 rfl rfl (by kernel_rfl) ?_
 intro O w0 E0 β0
 repeat' (first|refine z0 ?_|refine z12 ?_|apply ds_nil|apply dw_seq2|refine z16 ?_|apply dw_ret|apply thenD_n|((fail_if_success (apply ds_known;exact rfl));apply ds_guardP;exact rfl;exact rfl;exact rfl;all_goals intro hg))
 all_goals exact ret_b rfl (by first|(simp_all;done)|(simp_all;omega))
set_option maxHeartbeats 8000000 in
theorem tlit_fn (x:TLt):Fn 69 [elTLt x] (fun r=>r = .d (.bool (tlOk x))):=by
 refine fnp_enter' _ Tryz.func69 rfl rfl (by kernel_rfl) ?_
 intro O w0 E0 β0
 have w1:=ttms_fn x.terms
 have w2:=treeName_fn x.name
 have w3:=twithin_fn x.op 1 4
 have w4:=twithin_fn x.op 5 7
 have lt:(x.terms.map encTTm).length=x.terms.length:=List.length_map _
 unfold tlOk
 generalize tmsOk x.terms=b1 at *
 generalize nameS x.name=b2 at *
 cases b1 <;> cases b2 <;> repeat' (first|refine z0 ?_|refine z12 ?_|apply ds_nil|apply dw_seq2|refine z16 ?_|apply dw_block|apply dw_skip|apply dw_ret|apply thenD_n|apply inB_n|refine z21 ?_ (hc:=by apply w1)|refine z21 ?_ (hc:=by apply w2)|refine z21 ?_ (hc:=by apply w3)|refine z21 ?_ (hc:=by apply w4)|refine z1 ?_|(refine z23 ?_ ?_ <;> intro hg)|((fail_if_success (apply ds_known;exact rfl));apply ds_guardP;exact rfl;exact rfl;exact rfl;all_goals intro hg))
 all_goals try (exfalso;omega)
 all_goals first|exact ret_b rfl (by first|(simp_all;done)|(simp_all;omega))
set_option maxHeartbeats 8000000 in
theorem tlit1_fn (x:TLt):Fn 68 [elTLt x] (fun r=>r = .d (.bool (!tlOk x))):=by
 refine fnp_enter' _ Tryz.func68 rfl rfl (by kernel_rfl) ?_
 intro O w0 E0 β0
 have w1:=tlit_fn x
 repeat' (first|refine z0 ?_|apply ds_nil|apply dw_seq2|refine z16 ?_|apply dw_ret|apply thenD_n|refine z21 ?_ (hc:=by apply w1)|refine z1 ?_|fail)
 exact ret_b rfl rfl
set_option maxHeartbeats 8000000 in
theorem muchL_fn (x:TLt):Fn 64 [elTLt x] (fun r=>r = .d (.bool (decide (3 < x.terms.length)))):=by
 refine fnp_enter' _ Tryz.func64 rfl rfl (by kernel_rfl) ?_
 intro O w0 E0 β0
 have lt:(x.terms.map encTTm).length=x.terms.length:=List.length_map _
 repeat' (first|refine z0 ?_|apply ds_nil|apply dw_seq2|refine z16 ?_|apply dw_ret|apply thenD_n|refine z1 ?_|fail)
 exact ret_b rfl (by rw [lt];apply decide_eq_decide.2;omega)
set_option maxHeartbeats 8000000 in
theorem much_fn (r:TRu):Fn 41 [elTRu r] (fun o=>o = .d (.bool (muchT r))):=by
 refine fnp_enter' _ Tryz.func41 rfl rfl (by kernel_rfl) ?_
 intro O w0 E0 β0
 have lt:(r.terms.map encTTm).length=r.terms.length:=List.length_map _
 have lb:(r.body.map encTLt).length=r.body.length:=List.length_map _
 have w1:=containsTl_fn (caps:=[]) (f:=64) (fun x=>decide (3 < x.terms.length)) r.body rfl (fun x _=>muchL_fn x)
 unfold muchT
 generalize (r.body.any fun x=>decide (3 < x.terms.length))=b at *
 cases b <;> repeat' (first|refine z0 ?_|refine z12 ?_|apply ds_nil|apply dw_seq2|refine z16 ?_|apply dw_ret|apply thenD_n|refine z21 ?_ (hc:=by apply w1)|refine z1 ?_|((fail_if_success (apply ds_known;exact rfl));apply ds_guardP;exact rfl;exact rfl;exact rfl;all_goals intro hg))
 all_goals try (exfalso;omega)
 all_goals first|exact ret_b rfl (by first|(simp_all;done)|(simp_all;omega))
set_option maxHeartbeats 8000000 in
theorem trule0_fn (r:TRu):Fn 43 [elTRu r] (fun o=>o = .d (.bool (truOk r))):=by
 refine fnp_enter' _ Tryz.func43 rfl rfl (by kernel_rfl) ?_
 intro O w0 E0 β0
 have lt:(r.terms.map encTTm).length=r.terms.length:=List.length_map _
 have lb:(r.body.map encTLt).length=r.body.length:=List.length_map _
 have w1:=treeName_fn r.name
 have w2:=ttms_fn r.terms
 have w3:=twithin_fn r.fold 0 4
 have w4:=containsTl_fn (caps:=[]) (f:=68) (fun x=>!tlOk x) r.body rfl (fun x _=>tlit1_fn x)
 have e4:=not_any tlOk r.body
 have e1:(r.terms=[])↔r.terms.length=0:=List.length_eq_zero_iff.symm
 have e2:(r.body=[])↔r.body.length=0:=List.length_eq_zero_iff.symm
 unfold truOk
 rw [← e4]
 generalize (r.body.any fun x=>!tlOk x)=b4 at *
 generalize tmsOk r.terms=b1 at *
 generalize nameS r.name=b2 at *
 clear e4
 cases b1 <;> cases b2 <;> cases b4 <;> repeat' (first|refine z0 ?_|refine z12 ?_|apply ds_nil|apply dw_seq2|refine z16 ?_|apply dw_skip|apply dw_ret|refine z18 ?_|refine z19 ?_|apply thenD_n|apply thenD_r|refine z21 ?_ (hc:=by apply w1)|refine z21 ?_ (hc:=by apply w2)|refine z21 ?_ (hc:=by apply w3)|refine z21 ?_ (hc:=by apply w4)|refine z1 ?_|(refine z23 ?_ ?_ <;> intro hg)|(apply dw_cond;exact rfl;all_goals intro hg)|((fail_if_success (apply ds_known;exact rfl));apply ds_guardP;exact rfl;exact rfl;exact rfl;all_goals intro hg))
 all_goals try (exfalso;omega)
 all_goals first|exact ret_b rfl (by first|(simp_all;done)|(simp_all;omega))
set_option maxHeartbeats 8000000 in
theorem trule1_fn (r:TRu):Fn 42 [elTRu r] (fun o=>o = .d (.bool (!truOk r))):=by
 refine fnp_enter' _ Tryz.func42 rfl rfl (by kernel_rfl) ?_
 intro O w0 E0 β0
 have w1:=trule0_fn r
 repeat' (first|refine z0 ?_|apply ds_nil|apply dw_seq2|refine z16 ?_|apply dw_ret|apply thenD_n|refine z21 ?_ (hc:=by apply w1)|refine z1 ?_|fail)
 exact ret_b rfl rfl
set_option maxHeartbeats 8000000 in
theorem tcheck_fn (rs:List TRu):Fn 17 [.agg [.d (.slice 5 (rs.map encTRu))]] (fun o=>o = .d (.int .i64 (checkT rs))):=by
 refine fnp_enter' _ Tryz.func17 rfl rfl (by kernel_rfl) ?_
 intro O w0 E0 β0
 have lr:(rs.map encTRu).length=rs.length:=List.length_map _
 have w1:=containsTr_fn (caps:=[]) (f:=41) muchT rs rfl (fun x _=>much_fn x)
 have w2:=containsTr_fn (caps:=[]) (f:=42) (fun x=>!truOk x) rs rfl (fun x _=>trule1_fn x)
 unfold checkT
 rw [← not_any truOk rs]
 generalize (rs.any fun x=>!truOk x)=b1 at *
 generalize rs.any muchT=b2 at *
 cases b1 <;> cases b2 <;> repeat' (first|refine z0 ?_|refine z12 ?_|apply ds_nil|apply dw_seq2|refine z16 ?_|apply dw_block|apply dw_skip|apply dw_ret|refine z18 ?_|refine z19 ?_|apply thenD_n|apply thenD_r|apply inB_n|apply inB_r|refine z21 ?_ (hc:=by apply w1)|refine z21 ?_ (hc:=by apply w2)|refine z1 ?_|((fail_if_success (apply ds_known;exact rfl));apply ds_guardP;exact rfl;exact rfl;exact rfl;all_goals intro hg))
 all_goals try (exfalso;omega)
 all_goals exact ret_i rfl (by first|(simp_all;done)|(simp_all;omega))
end Go.Proofs.YtapciiffpnociabGreatDoor
