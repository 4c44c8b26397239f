/- Several texts in one: ScoB TreP TreQ GxRng GxItr GxPan GxDef TreA TreB TokL TokF ShA. Condition: none. -/
import Derived.Test.YtapciiffpnociabGreatDoorR09
import Derived.Test.YtapciiffpnociabGreatDoorR04
import Derived.RecoverIn
import Derived.Shelf.Strconv.Atoi
import Derived.Ground.NamesProg
import Derived.Test.YtapciiffpnociabGreatDoorProg
namespace Go.Proofs.YtapciiffpnociabGreatDoor
open Go Go.RowKit
attribute [local irreducible] DW DS DL DQ Ev FnOk FnP thenD inBlockD DT
def eqS (x y:ByteArray):Bool:=decide (y=x)
abbrev elS (s:ByteArray):SV:=.d (.str s)
set_option maxHeartbeats 8000000 in
theorem indexS_fn (y:ByteArray) (l:List (ByteArray)):Fn 110 [.d (.slice 1 (l.map encT)),elS y] (fun r=>r = .d (.int .i64 (idxF (fun x=>eqS x y) l))):=by
 refine fnp_enter' _ Tryz.func110 rfl rfl (by kernel_rfl) ?_
 intro O w0 E0 β0
 refine dw_len_map (t:=0) rfl fun hb=>?_
 repeat' (first|refine z0 ?_|apply ds_nil|apply dw_seq2|refine z16 ?_|apply dw_block|apply thenD_n)
 refine ds_loop (ι:=Nat) (fun i=>⟨0,[(0,.d (.slice 1 (l.map encT))),(1,.d (.str y)),(7,.d (.int .i64 l.length)),(8,.d (.int .i64 i))],[]⟩)
  (fun i=>i≤l.length∧∀ j (hj:j < l.length),j < i→eqS l[j] y=false) (fun i=>l.length - i) 0 ⟨Nat.zero_le _,fun j _ h=>absurd h (Nat.not_lt_zero j)⟩
  (ent_ren id ⟨rfl,rfl,by simp;rfl,rfl,trivial⟩ trivial rfl rfl rfl rfl rfl rfl) ?_
 rintro i ⟨h1,h2⟩
 repeat' (first|refine z0 ?_|apply ds_nil|apply dw_seq2|refine z16 ?_|apply thenD_n)
 refine dw_condP rfl (fun h=>?_) (fun h=>?_)
 ·have hi:i < l.length:=by omega
  repeat' (first|refine z0 ?_|apply ds_nil|apply dw_seq2|refine z16 ?_|apply dw_block|apply dw_skip|apply thenD_n)
  refine dw_cond rfl (fun hb=>?_) (fun hb=>?_)
  ·repeat' (first|refine z0 ?_|apply ds_nil|apply dw_seq2|refine z16 ?_|apply dw_ret|apply thenD_n|apply thenD_r|apply inB_r)
   exact ret_i rfl (idxF_hit (p:=fun x=>eqS x y) h2 hi (id hb)).symm
  ·repeat' (first|refine z0 ?_|apply ds_nil|refine z16 ?_|apply dw_skip|apply thenD_n|apply inB_n)
   exact⟨i + 1,⟨hi,none_step (p:=fun x=>eqS x y) h2 hi (id hb)⟩,ent_ren id ⟨rfl,rfl,rfl,rfl,trivial⟩ trivial rfl rfl rfl rfl rfl rfl,by omega⟩
 ·repeat' (first|refine z0 ?_|apply ds_nil|apply dw_seq2|refine z16 ?_|apply dw_exit|apply dw_ret|apply thenD_n|apply thenD_e|refine z17 ?_|fail)
  exact ret_i rfl (idxF_none fun j hj=>h2 j hj (by omega)).symm
set_option maxHeartbeats 8000000 in
theorem containsS_fn (y:ByteArray) (l:List ByteArray):Fn 97 [.d (.slice 1 (l.map encT)),.d (.str y)] (fun r=>r = .d (.bool (l.any fun x=>eqS x y))):=by
 refine fnp_enter' _ Tryz.func97 rfl rfl (by kernel_rfl) ?_
 intro O w0 E0 β0
 have hx:=indexS_fn y l
 repeat' (first|refine z0 ?_|apply ds_nil|apply dw_seq2|refine z16 ?_|apply dw_ret|apply thenD_n|refine z21 ?_ (hc:=by apply hx)|fail)
 exact ret_b rfl (idxF_any _ l)
def wordsL:List ByteArray:=[⟨#[110,111,116]⟩,⟨#[99,111,117,110,116]⟩,⟨#[115,117,109]⟩,⟨#[108,101,97,115,116]⟩,⟨#[109,111,115,116]⟩]
def wordB (s:ByteArray):Bool:=wordsL.any fun x=>eqS x s
def nameS (s:ByteArray):Bool:=oneS 1 s && !wordB s
set_option maxHeartbeats 8000000 in
theorem words_fn:Fn 53 [] (fun r=>r = .d (.slice 1 (wordsL.map encT))):=by
 refine fnp_enter' _ Tryz.func53 rfl rfl (by kernel_rfl) ?_
 intro O w0 E0 β0
 repeat' (first|refine z0 ?_|apply ds_nil|apply dw_seq2|refine z16 ?_|apply dw_ret|apply thenD_n|refine z4 ?_|fail)
 exact⟨.inl rfl,_,rfl,rfl,rfl⟩
set_option maxHeartbeats 8000000 in
theorem tokenName_fn (s:ByteArray):Fn 96 [.d (.str s)] (fun r=>r = .d (.bool (oneS 1 s))):=by
 refine fnp_enter' _ Tryz.func96 rfl rfl (by kernel_rfl) ?_
 intro O w0 E0 β0
 repeat' (first|refine z0 ?_|apply ds_nil|apply dw_seq2|refine z16 ?_|apply dw_ret|apply thenD_n|refine z21 ?_ (hc:=by apply one_fn)|fail)
 exact ret_b rfl rfl
set_option maxHeartbeats 8000000 in
theorem treeName_fn (s:ByteArray):Fn 65 [.d (.str s)] (fun r=>r = .d (.bool (nameS s))):=by
 refine fnp_enter' _ Tryz.func65 rfl rfl (by kernel_rfl) ?_
 intro O w0 E0 β0
 have h1:=containsS_fn s wordsL
 have h2:=tokenName_fn s
 unfold nameS wordB
 repeat' (first|refine z0 ?_|refine z12 ?_|apply ds_nil|apply dw_seq2|refine z16 ?_|apply dw_ret|apply thenD_n|refine z21 ?_ (hc:=by apply h1)|refine z21 ?_ (hc:=by apply h2)|refine z21 ?_ (hc:=by apply words_fn)|((fail_if_success (apply ds_known;exact rfl));apply ds_guardB;exact rfl;exact rfl;exact rfl;all_goals intro hg))
 all_goals exact ret_b rfl (by simp_all)
structure TTm where
 var:ByteArray
 n:Int
structure TLt where
 kind:Int
 at_:Int
 op:Int
 name:ByteArray
 terms:List TTm
structure TRu where
 at_:Int
 name:ByteArray
 terms:List TTm
 fold:Int
 body:List TLt
def hereT (l:List Tok) (e:Int) (i:Nat):Int:=match l[i]? with
 | some t=>t.at_
 | none=>e
def seesT (l:List Tok) (i:Nat) (s:ByteArray):Bool:=match l[i]? with
 | some t=>decide (t.text=s)
 | none=>false
abbrev PR (α:Type):=Except Nat (α × Nat)
def foldsT:List ByteArray:=wordsL.drop 1
def opsT:List ByteArray:=[⟨#[60]⟩,⟨#[60,61]⟩,⟨#[61]⟩,⟨#[33,61]⟩,⟨#[43]⟩,⟨#[45]⟩,⟨#[42]⟩]
def numT (s:ByteArray):Int:=s.data.toList.foldl (fun n c=>10 * n + ((c.toNat:Int) - 48)) 0
def nameT (l:List Tok) (i:Nat):PR ByteArray:=match l[i]? with
 | some t=>if nameS t.text then .ok (t.text,i + 1) else .error i
 | none=>.error i
def termT (l:List Tok) (i:Nat):PR TTm :=
 let neg:=seesT l i ⟨#[45]⟩
 let j:=match neg with|true=>i + 1|false=>i
 match l[j]? with
 | none=>.error j
 | some t=>if t.kind=2∧neg=false then .ok (⟨t.text,0⟩,j + 1)
  else if t.kind≠3∨(neg=true∧t.text=⟨#[48]⟩) then .error j
  else .ok (⟨⟨#[]⟩,(match neg with|true=>-1|false=>1) * numT t.text⟩,j + 1)
def firstT (l:List Tok) (i:Nat):List ByteArray→Int→Int
 | [],_=>0
 | s::ss,n=>if seesT l i s then n else firstT l i ss (n + 1)
def termsGo (l:List Tok) (head:Bool):Nat→Nat→List TTm→PR (List TTm × Int)
 | 0,i,_=>.error i
 | n + 1,i,acc =>
  let f:=match head with|true=>firstT l i foldsT 1|false=>0
  match termT l (if f≠0 then i + 1 else i) with
  | .error k=>.error k
  | .ok (t,k) =>
   if f≠0∨seesT l k ⟨#[44]⟩=false then
    (if seesT l k ⟨#[41]⟩ then .ok ((acc++[t],f),k + 1) else .error k)
   else termsGo l head n (k + 1) (acc++[t])
def termsT (l:List Tok) (i:Nat) (head:Bool):PR (List TTm × Int) :=
 if seesT l i ⟨#[40]⟩ then
  (if seesT l (i + 1) ⟨#[41]⟩ then .ok (([],0),i + 2) else termsGo l head (l.length + 1) (i + 1) [])
 else .error i
def firstQ (l:List Tok) (ws:List ByteArray) (j q:Nat):Int:=firstT l j (ws.drop q) (q + 1)
theorem firstQ_step (l:List Tok) (ws:List ByteArray) (j q:Nat) (h:q < ws.length):firstQ l ws j q=if seesT l j ws[q]=true then ((q:Int) + 1) else firstQ l ws j (q + 1):=by
 unfold firstQ
 rw [List.drop_eq_getElem_cons h,firstT]
 rfl
theorem firstQ_end (l:List Tok) (ws:List ByteArray) (j q:Nat) (h:ws.length≤q):firstQ l ws j q=0:=by
 unfold firstQ
 rw [List.drop_of_length_le h]
 rfl
theorem firstQ_bound (l:List Tok) (ws:List ByteArray) (j:Nat):∀ (n q:Nat),ws.length≤q + n→0≤firstQ l ws j q∧firstQ l ws j q≤ws.length
 | 0,q,h=>by rw [firstQ_end l ws j q (by omega)];exact⟨Int.le_refl _,by omega⟩
 | n + 1,q,h=>by
  by_cases hq:q < ws.length
  ·rw [firstQ_step l ws j q hq]
   split
   ·omega
   ·exact firstQ_bound l ws j n (q + 1) (by omega)
  ·rw [firstQ_end l ws j q (by omega)];exact⟨Int.le_refl _,by omega⟩
def testT (l:List Tok) (i:Nat):PR (Int × Int × List TTm) :=
 match termT l i with
 | .error k=>.error k
 | .ok (a,k) =>
  if firstQ l opsT k 0=0 then .error k else
  match termT l (k + 1) with
  | .error m=>.error m
  | .ok (b,m) =>
   if firstQ l opsT k 0 < 5 then .ok ((3,firstQ l opsT k 0,[a,b]),m)
   else if seesT l m ⟨#[61]⟩ then
    (match termT l (m + 1) with
    | .error q=>.error q
    | .ok (c,q)=>.ok ((4,firstQ l opsT k 0,[a,b,c]),q))
   else .error m
def isTestT (l:List Tok) (j:Nat):Bool:=match l[j]? with
 | none=>true
 | some t=>decide (t.kind≠1)
def litT (l:List Tok) (e:Int) (i:Nat):PR TLt :=
 match seesT l i ⟨#[110,111,116]⟩ with
 | true=>(match nameT l (i + 1) with
  | .error k=>.error k
  | .ok (s,k)=>(match termsT l k false with
   | .error m=>.error m
   | .ok ((ts,_),m)=>.ok (⟨2,hereT l e i,0,s,ts⟩,m)))
 | false=>(match isTestT l i with
  | true=>(match testT l i with
   | .error k=>.error k
   | .ok ((kind,op,ts),k)=>.ok (⟨kind,hereT l e i,op,⟨#[]⟩,ts⟩,k))
  | false=>(match nameT l i with
   | .error k=>.error k
   | .ok (s,k)=>(match termsT l k false with
    | .error m=>.error m
    | .ok ((ts,_),m)=>.ok (⟨1,hereT l e i,0,s,ts⟩,m))))
def litsGo (l:List Tok) (e:Int):Nat→Nat→List TLt→PR (List TLt)
 | 0,i,_=>.error i
 | n + 1,i,acc=>match litT l e i with
  | .error k=>.error k
  | .ok (x,k)=>if seesT l k ⟨#[44]⟩ then litsGo l e n (k + 1) (acc++[x]) else .ok (acc++[x],k)
def ruleT (l:List Tok) (e:Int) (i:Nat):PR TRu :=
 match nameT l i with
 | .error k=>.error k
 | .ok (s,k)=>match termsT l k true with
  | .error m=>.error m
  | .ok ((ts,f),m) =>
   if f=0∧seesT l m ⟨#[46]⟩=true then .ok (⟨hereT l e i,s,ts,f,[]⟩,m + 1)
   else if seesT l m ⟨#[58,45]⟩ then
    (match litsGo l e (l.length + 1) (m + 1) [] with
    | .error q=>.error q
    | .ok (b,q)=>if seesT l q ⟨#[46]⟩ then .ok (⟨hereT l e i,s,ts,f,b⟩,q + 1) else .error q)
   else .error m
def rulesGo (l:List Tok) (e:Int):Nat→Nat→List TRu→Except Nat (List TRu)
 | 0,_,acc=>.ok acc
 | n + 1,i,acc=>if i < l.length then
   (match ruleT l e i with
   | .error k=>.error k
   | .ok (r,k)=>rulesGo l e n k (acc++[r]))
  else .ok acc
def tmOk (t:TTm):Bool:=if t.var=⟨#[]⟩ then decide (-9999999≤t.n) && decide (t.n≤9999999) else oneS 2 t.var && decide (t.n=0)
def tmsOk (l:List TTm):Bool:=l.all tmOk
def tlOk (x:TLt):Bool:=tmsOk x.terms &&
 (if x.kind=1∨x.kind=2 then decide (x.op=0) && nameS x.name
 else if x.kind=3 then decide (1≤x.op∧x.op≤4) && decide (x.name=⟨#[]⟩) && decide (x.terms.length=2)
 else if x.kind=4 then decide (5≤x.op∧x.op≤7) && decide (x.name=⟨#[]⟩) && decide (x.terms.length=3)
 else false)
def truOk (r:TRu):Bool:=nameS r.name && tmsOk r.terms && decide (0≤r.fold∧r.fold≤4) && (decide (r.fold=0) || (decide (r.terms≠[]) && decide (r.body≠[]))) && r.body.all tlOk
def muchT (r:TRu):Bool:=decide (3 < r.terms.length) || decide (4 < r.body.length) || r.body.any fun x=>decide (3 < x.terms.length)
def checkT (rs:List TRu):Int:=if 12 < rs.length∨rs.any muchT=true then 2 else if rs.all truOk=true then 0 else 1
def parseS (s:ByteArray):List TRu × Int × Int :=
 match scanS s with
 | (l,p,er)=>if er≠0 then ([],p,er) else
  match rulesGo l s.size (l.length + 1) 0 [] with
  | .error k=>([],hereT l s.size k,1)
  | .ok rs=>if checkT rs=0 then (rs,0,0) else ([],0,checkT rs)
end Go.Proofs.YtapciiffpnociabGreatDoor
namespace Go.Proofs.YtapciiffpnociabGreatDoor
open Go Go.RowKit
def Kepts (L:Sl):Sl→Prop
 | []=>True
 | (t,s)::r=>Sl.get L t=s∧Kepts L r
def params:List Nat→List SV→Sl→Sl
 | p::ps,s::ss,L=>params ps ss ((p,s)::L)
 | _,_,L=>L
theorem Heap.widen {Γ:Ctx} {k:Nat→Prop} {H:Hp} {e:Env} {w:World} {l:Nat} (h:Heap Γ k H e w) (hl:¬ Γ.O l) (hl2:∀ g,(∀ o,Γ.w0.heap[g]?≠some (.loop o))→g≠l):Heap ⟨Γ.P,Γ.τ,Γ.τok,Γ.O,Γ.w0,fun b=>Γ.E0 b∨b=l,Γ.n,Γ.J,Γ.β0,Γ.rd,Γ.pan,Γ.mks,Γ.dr⟩ k H e w where
 top:=h.top
 heap:=h.heap
 ids:=h.ids
 nodup:=h.nodup
 mine b hb:=⟨(h.mine b hb).1.imp .inl id,(h.mine b hb).2⟩
 os:=h.os
 tape:=h.tape
 output:=h.output
 drawn:=h.drawn
 size:=h.size
 block b h1 h2:=h.block b h1 fun h=>h2 (.inl h)
 obound b hb:=⟨(h.obound b hb).1,fun hx=>hx.elim (h.obound b hb).2 fun hx=>hl (hx▸hb)⟩
 tabs g hg :=
  let ⟨h1,a,b,h2⟩:=h.tabs g hg
  ⟨fun hx=>hx.elim h1 fun hx=>hl2 g (fun o ho=>by rw [h2] at ho;cases ho) hx,a,b,h2⟩
 jle:=h.jle
 anchor:=h.anchor
end Go.Proofs.YtapciiffpnociabGreatDoor
namespace Go.Proofs.YtapciiffpnociabGreatDoor
open Go Go.RowKit
def SV.flat:SV→Bool
 | .val _=>true
 | .junk=>true
 | .d (.int _ _)=>true
 | .d (.bool _)=>true
 | _=>false
theorem Rel.flat {X e w X' e' w'}:∀ (s:SV) (v:Value),s.flat=true→Rel X e w s v→Rel X' e' w' s v
 | .val _,_,_,h=>h
 | .junk,_,_,_=>trivial
 | .d (.int _ _),_,_,h=>by
  have h':RepC _ _ _ _:=h
  cases h' with
  | int g=>exact RepC.int g
 | .d (.bool _),_,_,h=>by
  have h:RepC _ _ _ _:=h
  cases h
  exact RepC.bool
 | .d (.str _),_,h,_=>nomatch h
 | .d (.slice _ _),_,h,_=>nomatch h
 | .nils,_,h,_=>nomatch h
 | .pd _,_,h,_=>nomatch h
 | .loc _ _,_,h,_=>nomatch h
 | .row _,_,h,_=>nomatch h
 | .mp _,_,h,_=>nomatch h
 | .md _ _,_,h,_=>nomatch h
 | .prow _ _ _ _,_,h,_=>nomatch h
 | .sl _ _ _ _,_,h,_=>nomatch h
 | .rsl _ _ _ _,_,h,_=>nomatch h
 | .rg _ _ _,_,h,_=>nomatch h
 | .fn _ _,_,h,_=>nomatch h
 | .agg _,_,h,_=>nomatch h
 | .tup _,_,h,_=>nomatch h
def flatB:Sl→Bool
 | []=>true
 | (_,s)::r=>s.flat && flatB r
theorem flat_get:∀ {L:Sl},flatB L=true→∀ t,(L.get t).flat=true
 | [],_,_=>rfl
 | (d,s)::r,h,t=>by
  simp only [flatB,Bool.and_eq_true] at h
  rw [Sl.get_cons]
  split
  ·exact h.1
  ·exact flat_get h.2 t
theorem kepts_get {L:Sl}:∀ {L':Sl},Kepts L L'→∀ t,L'.get t = .junk∨L'.get t=L.get t
 | [],_,_=>.inl rfl
 | (d,s)::r,h,t=>by
  rw [Sl.get_cons]
  split
  ·rename_i hd;subst hd;exact .inr h.1.symm
  ·exact kepts_get h.2 t
structure Flat (N:Nat) (L:Sl) (a:Act):Prop where
 len:a.tmps.size=N
 defers:a.defers=[]
 slot:∀ t X e w,Rel X e w (L.get t) (a.tmps.getD t undef)
abbrev Γit (P:Program) (τ:List (Nat × TI)) (τok:TabOk P τ) (O:Nat→Prop) (W:World) (N:Nat):Ctx:=⟨P,τ,τok,O,W,fun _=>False,N,0,fun _=>(0,undef),none,noPan,false,false⟩
section
variable {P : Program} {τ : List (Nat × TI)} {τok : TabOk P τ} {O : Nat → Prop} {N : Nat} {L : Sl}
theorem Models.flatten {W:World} {k:Nat→Prop} {H:Hp} {e:Env} {a:Act} {w:World} (m:Models (Γit P τ τok O W N) k L H e a w) {Ls:Sl} (hK:Kepts L Ls) (hf:flatB Ls=true):Flat N Ls a where
 len:=m.len
 defers:=by
  obtain⟨rs,h1,h0,_⟩:=m.defers
  rw [h1,h0 rfl];rfl
 slot t X e' w':=by
  have hg:=flat_get hf t
  rcases kepts_get hK t with h|h
  ·rw [h];trivial
  ·rw [h] at hg ⊢;exact Rel.flat _ _ hg (m.slot t)
end
section
variable {Γ : Ctx} {k : Nat} {L : Sl} {H : Hp} {K : Next'} {ops : List Oper} {rest : List Oper} {x y : Operand} {t ty : TypeId}
end
section
variable {Γ : Ctx} {k : Nat} {L : Sl} {H : Hp} {R : Exit → Act → World → Prop}
end
section
variable {Γ : Ctx} {k : Nat} {L : Sl} {H : Hp} {R : Exit → Act → World → Prop}
end
end Go.Proofs.YtapciiffpnociabGreatDoor
namespace Go.Proofs.YtapciiffpnociabGreatDoor
open Go Go.RowKit
theorem FnOk.kept {dr:Bool} {P:Program} {τ:List (Nat × TI)} {τok:TabOk P τ} {f:FuncId} {args:List SV} {J k:Nat} {H:Hp} {R:Nat→SV→Hp→Prop} (h2:FnOk dr P τ τok f args J k H (KeptR J R)):FnOk dr P τ τok f args J k H R:=by
 refine⟨h2.1,fun O e w vs hH hr=>(h2.2 O e w vs hH hr).mono ?_⟩
 rintro en w' ⟨k',r,H',e',v,⟨ρ,k2,r2,H2,rfl,hK,hl,hd,hd',hj,ha,hrl,hR⟩,rfl,hH',hrel⟩
 obtain⟨g1,g2⟩:=hH'.ren ρ k2 H2 hK hl hd hd' hj ha
 exact⟨k2,r2,H2,e'.ren ρ k2,v,hR,rfl,g1,Rel.keep (Nat.le_refl _) (fun _ _ _=>rfl) (fun b _ hy=>g2 b hy) _ _ (Rel.ren ρ k2 r2 v hrl hrel)⟩
theorem FnOkE.kept {dr:Bool} {P:Program} {τ:List (Nat × TI)} {τok:TabOk P τ} {f:FuncId} {args:List SV} {J k:Nat} {H:Hp} {R:Nat→SV→Hp→Prop} {E:Value→Prop} (h2:FnOkE dr P τ τok f args J k H (KeptR J R) E):FnOkE dr P τ τok f args J k H R E:=by
 refine⟨h2.1,fun O e w vs hH hr=>(h2.2 O e w vs hH hr).mono ?_⟩
 rintro en w' (⟨k',r,H',e',v,⟨ρ,k2,r2,H2,rfl,hK,hl,hd,hd',hj,ha,hrl,hR⟩,rfl,hH',hrel⟩|h)
 ·obtain⟨g1,g2⟩:=hH'.ren ρ k2 H2 hK hl hd hd' hj ha
  exact .inl ⟨k2,r2,H2,e'.ren ρ k2,v,hR,rfl,g1,Rel.keep (Nat.le_refl _) (fun _ _ _=>rfl) (fun b _ hy=>g2 b hy) _ _ (Rel.ren ρ k2 r2 v hrl hrel)⟩
 ·exact .inr h
theorem fn_enterRE {dr:Bool} {P:Program} {τ:List (Nat × TI)} {τok:TabOk P τ} {f:FuncId} {fn:Func} {c:Code} {args:List SV} {J k:Nat} {H:Hp} {R:Nat→SV→Hp→Prop} {E:Value→Prop} (N:Nat) (hf:P.funcs[f]? = some fn) (hb:fn.body=some c)
  (hN:args.length + (fn.ntmps - args.length)=N) (hcall:callable P f=true)
  (h:∀ (O:Nat→Prop) (w0:World) (E0:Nat→Prop) (β0:Nat→Nat × Value),DW ⟨P,τ,τok,O,w0,E0,N,J,β0,none,⟨fun v _ _=>E v,[]⟩,true,dr⟩ c (RetQ τ fn.results.toList (KeptR J R)) k (enumSl 0 args) H):FnOkE dr P τ τok f args J k H R E :=
 (fn_enterE N hf hb hN hcall h).kept
section
variable {Γ : Ctx} {k : Nat} {L : Sl} {H : Hp} {K : Next'} {ops : List Oper} {rest : List Oper}
theorem ds_callE {f:FuncId} {xs:List Operand} {ts:Array TypeId} {ty:TypeId} {pos:String} {af:Array Edge} {g:Option (Nat × Bool)} {d:Nat} {args:List SV} {J kc:Nat} {Hc:Hp} {R:Nat→SV→Hp→Prop} {E:Value→Prop} (ρ:Nat→Nat)
  (hc:FnOkE Γ.dr Γ.P Γ.τ Γ.τok f args J kc Hc R E) (hw:wantedSV ops L g=some true) (ha:opsL L xs=SV.renL ρ args) (hok:opsOk xs=true) (hlA:SV.lowL kc args=true) (hKH:KnowsH ρ H Hc) (hl:Hp.low kc Hc=true)
  (hd:distinct (Hc.map fun p=>ρ p.1)=true) (hd':distinct (Hc.map (·.1))=true) (hJ:Nat.ble J kc=true) (hall:allIn J (Hc.map (·.1))=true) (hdn:Nat.blt d Γ.n=true)
  (hE:∀ v,E v→Γ.pan.may v L (restOf H (Hc.map fun p=>ρ p.1)))
  (hRr:∀ k2 r H2,R k2 r H2→r.rowsGe J=true∧Hp.rowsGe J H2=true)
  (hk:∀ k2 r H2,R k2 r H2→DS false Γ ops rest K (k + k2) ((d,r.ren (sig ρ J k))::L) ((H2.map fun p=>(sig ρ J k p.1,p.2.ren (sig ρ J k)))++restOf H (Hc.map fun p=>ρ p.1))) :
  DS false Γ ops (⟨some d,.call { callee:=.value (.func f),args:=xs.toArray,argTypes:=ts },ty,pos,af,g⟩::rest) K k L H:=by
 refine dl_run hw fun e a w m=>?_
 unfold Oper.wp
 rw [run_callOp hc.1]
 rw [Oper.upon_enter]
 refine (hc.g.use ρ m hlA hKH hl hd hd' hJ hall _ (ha▸opsL_rel m xs hok) ?_).mono ?_
 ·rintro en v k2 r H2 (⟨h,_⟩|⟨_,_,rfl,rfl⟩)
  ·exact hRr k2 r H2 h
  ·exact⟨rfl,rfl⟩
 rintro en w' ⟨k2,r,H2,v,e'',⟨hR,rfl⟩|⟨hv,rfl,rfl,rfl⟩,hm,hrel⟩
 ·exact⟨_,_,_,e'',hm.put (Nat.le_of_ble_eq_true hdn) hrel,hk k2 r H2 hR⟩
 ·exact .inr ⟨v,_,L,_,e'',rfl,hE v hv,hm⟩
theorem ev_box {x:Operand} {ty t:TypeId} {kd:IntKind} {n:Int} (hx:opSV L x = .d (.int kd n)) (hxo:opOkB x=true) (ht:Γ.P.concrete t=true):Ev Γ (lo k) L H (.makeInterface t x) ty (.val (.iface t (.int kd n))):=by
 intro e a w m
 have hr:=m.op x (opOkB_spec hxo)
 rw [hx] at hr
 have hv:a.eval x = .int kd n:=by
  generalize a.eval x=v at hr
  cases hr
  rfl
 refine⟨.iface t (.int kd n),fun _ _ _ _ w' _=>?_,rfl⟩
 simp [execOp,hv,run_makeInterface _ t _ ht]
theorem ds_panic {x:Operand} {ty:TypeId} {pos:String} {af:Array Edge} {g:Option (Nat × Bool)} {d:Option Nat} {t:TypeId} {u:Value} (hx:opSV L x = .val (.iface t u)) (hxo:opOkB x=true) (hw:wantedSV ops L g=some true)
  (hE:Γ.pan.may (.iface t u) L H):DS false Γ ops (⟨d,.panic x,ty,pos,af,g⟩::rest) K k L H:=by
 refine dl_run hw fun e a w m=>?_
 have hr:=m.op x (opOkB_spec hxo)
 rw [hx] at hr
 have hv:a.eval x = .iface t u:=hr
 unfold Oper.wp
 simp only [execOp,hv]
 exact .inr ⟨_,_,L,_,e,rfl,hE,m⟩
end
end Go.Proofs.YtapciiffpnociabGreatDoor
namespace Go.Proofs.YtapciiffpnociabGreatDoor
open Go Go.RowKit
def dcaps (ids:List Nat) (β0:Nat→Nat × Value):Array Value:=(ids.map fun j=>Value.pointer (some ⟨(β0 j).1,0,none⟩)).toArray
def dfr (g:FuncId) (ids:List Nat) (β0:Nat→Nat × Value):Deferred:={ target:=.fn (.func g) (dcaps ids β0),args:=#[] }
def locSl (rs:List (Nat × Nat)):Sl:=rs.map fun p=>(p.1,SV.loc p.2 0)
def locsAt (L:Sl) (rs:List (Nat × Nat)):Prop:=∀ p∈rs,L.get p.1 = .loc p.2 0
theorem get_locSl {rs:List (Nat × Nat)} {L:Sl} (h:locsAt L rs) (t:Nat):(locSl rs).get t=L.get t∨(locSl rs).get t = .junk:=by
 induction rs with
 | nil=>exact .inr rfl
 | cons p rs ih =>
  show (match Nat.beq p.1 t with|true=>SV.loc p.2 0|false=>(locSl rs).get t)=_∨(match Nat.beq p.1 t with|true=>SV.loc p.2 0|false=>(locSl rs).get t)=_
  cases hb:Nat.beq p.1 t with
  | true =>
   have:=Nat.eq_of_beq_eq_true hb
   subst this
   exact .inl (h p (List.mem_cons_self ..)).symm
  | false=>exact ih fun q hq=>h q (List.mem_cons_of_mem _ hq)
theorem locSl_form {rs:List (Nat × Nat)} (t:Nat):(∃ p∈rs,(locSl rs).get t = .loc p.2 0)∨(locSl rs).get t = .junk:=by
 induction rs with
 | nil=>exact .inr rfl
 | cons p rs ih =>
  show (∃ q∈p::rs,(match Nat.beq p.1 t with|true=>SV.loc p.2 0|false=>(locSl rs).get t)=_)∨(match Nat.beq p.1 t with|true=>SV.loc p.2 0|false=>(locSl rs).get t)=_
  cases Nat.beq p.1 t with
  | true=>exact .inl ⟨p,List.mem_cons_self ..,rfl⟩
  | false=>exact ih.imp (fun⟨q,hq,h⟩=>⟨q,List.mem_cons_of_mem _ hq,h⟩) id
def IdleOk (dr:Bool) (P:Program) (g:FuncId):Prop:=∀ (vs:Array Value) (w:World),Tabs P (fun _=>False) w →
 CallsDIn Fence.wide 0 P g vs .returning w fun e u' w'=>e = .returned (.tuple #[])∧u' = .returning∧Beld dr w.heap.size w w'
def CatchOk (dr:Bool) (P:Program) (τ:List (Nat × TI)) (τok:TabOk P τ) (g:FuncId) (ids:List Nat) (J:Nat) (may:Value→Hp→Prop) (R:Nat→Hp→Prop):Prop :=
 ∀ (O:Nat→Prop) (w0:World) (E0:Nat→Prop) (β0:Nat→Nat × Value) (n:Nat) (mk:Bool) (pn:Pan) (e:Env) (w:World) (v:Value) (k:Nat) (H:Hp),may v H →
  Heap ⟨P,τ,τok,O,w0,E0,n,J,β0,none,pn,mk,dr⟩ (lo k) H e w →
  CallsDIn Fence.wide 0 P g (dcaps ids β0) (.panicking [{ v,recovered:=false }]) w fun en u' w' =>
   en = .returned (.tuple #[])∧u' = .panicking [{ v,recovered:=true }]∧∃ (k':Nat) (H':Hp) (e':Env),R k' H'∧Heap ⟨P,τ,τok,O,w0,E0,n,J,β0,none,pn,mk,dr⟩ (lo k') H' e' w'
section
variable {dr : Bool} {P : Program} {τ : List (Nat × TI)} {τok : TabOk P τ}
theorem invoke_closure {g:FuncId} (hg:callable P g=true) (caps:Array Value) (w:World):(invoke (.fn (.func g) caps) #[]).run P w = .ok (.enter g caps) w:=by
 simp [invoke,run_call hg]
theorem leads_closure {F:Fence} {g:FuncId} {caps:Array Value} {w:World} (hF:∀ f,F.fn f):∀ f,(Target.fn (.func g) caps).leads P w #[]=some f→F.fn f:=fun f _=>hF f
theorem fn_enterDef {f g:FuncId} {fn:Func} {A C:Code} {i2:Nat} {d1:Nat} {xs:List Operand} {ty1 ty2:TypeId} {p1 p2:String} {af1 af2:Array Edge} {ts:Array TypeId} {args:List SV} {J k JA kA:Nat} {H HA:Hp} {LA:Sl} {R:Nat→SV→Hp→Prop} {may:Value→Hp→Prop} {RC:Nat→Hp→Prop} {ids:List Nat} {rs:List (Nat × Nat)} (N:Nat)
  (hf:P.funcs[f]? = some fn) (hb:fn.body=some (.seq A (.seq (.region i2 #[⟨some d1,.makeFunc (.func g) #[] xs.toArray,ty1,p1,af1,none⟩,⟨none,.defer { callee:=.value (.tmp d1),args:=#[],argTypes:=ts },ty2,p2,af2,none⟩] false) C)))
  (hN:args.length + (fn.ntmps - args.length)=N) (hcall:callable P f=true) (hg:callable P g=true) (hJ:J≤JA) (hJA:JA≤kA) (hd1:d1 < N)
  (hx:opsL LA xs=ids.map fun j=>.loc j 0) (hxo:opsOk xs=true) (hrs:∀ p∈rs,p.2 < JA)
  (hA:∀ (O:Nat→Prop) (w0:World) (E0:Nat→Prop) (β0:Nat→Nat × Value),DW ⟨P,τ,τok,O,w0,E0,N,J,β0,none,noPan,false,dr⟩ A (fun x k' L' H'=>x = .normal∧Ent ⟨P,τ,τok,O,w0,E0,N,J,β0,none,noPan,false,dr⟩ k' L' H' kA LA HA) k (enumSl 0 args) H)
  (hC:∀ (O:Nat→Prop) (w0:World) (E0:Nat→Prop) (β0:Nat→Nat × Value),DW ⟨P,τ,τok,O,w0,E0,N,JA,β0,none,⟨fun v L H=>locsAt L rs∧may v H,[dfr g ids β0]⟩,false,dr⟩ C (RetQ τ fn.results.toList R) kA ((d1,.junk)::LA) HA)
  (hI:IdleOk dr P g) (hK:CatchOk dr P τ τok g ids JA may RC)
  (hRC:∀ k' H',RC k' H'→∃ r,resSV (locSl rs) H' τ fn.results.toList=some r∧R k' r H'):FnOk dr P τ τok f args J k H R:=by
 refine⟨hcall,?_⟩
 intro O e w vs hH hr
 have hl:=RelL.length _ _ hr
 have hstart:Models ⟨P,τ,τok,O,w,fun b=>b∈ownedL e H,N,J,e.an,none,noPan,false,dr⟩ k (enumSl 0 args) H e { tmps:=vs.toArray++Array.replicate (fn.ntmps - vs.toArray.size) undef,defers:=[] } w:=by
  refine⟨hH.reframe,Marks.nil,?_,fun t=>?_⟩
  ·simp [← hN,hl]
  ·have:=enumSl_slot args vs (List.replicate (fn.ntmps - vs.length) undef) 0 [] rfl hr t
   have he:vs.toArray++Array.replicate (fn.ntmps - vs.toArray.size) undef=([]++vs++List.replicate (fn.ntmps - vs.length) undef).toArray:=by simp
   rw [he]
   exact this
 refine callsIn_wide.1 (callsIn_of_wp_defers (F:=Fence.wide) (n:=0) hf hb trivial ?_)
 refine wpIn_seq (wpIn_mono (hA O w (fun b=>b∈ownedL e H) e.an e _ w hstart) ?_)
 rintro ex a1 w1 (⟨k1,L1,H1,e1,m1,rfl,hent⟩|⟨_,_,_,_,_,_,hv,_⟩)
 rotate_left
 ·exact hv.elim
 obtain⟨e2,m2⟩:=hent e1 a1 w1 m1
 clear m1 hent
 have hdef:a1.defers=[]:=by
  obtain⟨rs',h1,h0,_⟩:=m2.defers
  rw [h1,h0 rfl]
  rfl
 refine wpIn_seq ?_
 have hcap:(xs.toArray.map a1.eval)=dcaps ids e2.an:=by
  have h:=opsL_rel m2 xs hxo
  rw [hx] at h
  have key:∀ (js:List Nat) (us:List Value),RelL (Ctx.X ⟨P,τ,τok,O,w,fun b=>b∈ownedL e H,N,J,e.an,none,noPan,false,dr⟩ e2 HA) e2 w1 (js.map fun j=>SV.loc j 0) us→us=js.map fun j=>Value.pointer (some ⟨e2.β j,0,none⟩):=by
   intro js
   induction js with
   | nil=>intro us h;cases us with
    | nil=>rfl
    | cons _ _=>exact h.elim
   | cons j js ih=>intro us h;cases us with
    | nil=>exact h.elim
    | cons u us =>
     obtain⟨⟨_,hu⟩,h2⟩:=h
     rw [ih us h2,hu]
     rfl
  have:=key ids _ h
  unfold dcaps
  rw [List.map_toArray,this]
  rfl
 let Γ2:Ctx:=⟨P,τ,τok,O,w,fun b=>b∈ownedL e H,N,JA,e2.an,none,⟨fun v L H=>locsAt L rs∧may v H,[dfr g ids e2.an]⟩,false,dr⟩
 obtain⟨vf,hvf⟩:∃ vf:Value,vf = .func (.func g) #[] (dcaps ids e2.an):=⟨_,rfl⟩
 let a2:Act:={ a1.put (some d1) vf with defers:=dfr g ids e2.an::a1.defers }
 have m3:Models Γ2 (lo kA) ((d1,.junk)::LA) HA e2 a2 w1:=by
  refine⟨⟨m2.top,m2.heap,m2.ids,m2.nodup,m2.mine,m2.os,m2.tape,m2.output,m2.drawn,m2.size,m2.block,m2.obound,m2.tabs,fun j hj=>Nat.lt_of_lt_of_le hj hJA,fun _ _=>rfl⟩,?_,?_,fun t=>?_⟩
  ·show Marks w.heap.size false [dfr g ids e2.an] (dfr g ids e2.an::a1.defers) w1
   rw [hdef]
   exact Marks.nil
  ·show (a1.tmps.setIfInBounds d1 vf).size=N
   rw [Array.size_setIfInBounds]
   exact m2.len
  ·rw [Sl.get_cons]
   split
   ·trivial
   ·rename_i hne
    have:=m2.slot t
    show Rel _ e2 w1 (LA.get t) ((a1.tmps.setIfInBounds d1 vf).getD t undef)
    rw [show (a1.tmps.setIfInBounds d1 vf).getD t undef=a1.tmps.getD t undef by
     simp only [Array.getD_eq_getD_getElem?]
     rw [Array.getElem?_setIfInBounds_ne (by omega)]]
    exact this
 have hdepth:∀ n:Nat,Fence.wide.depth.isSome=true→1≤n:=fun n h=>by cases h
 have hrun1:(execOp a1.eval ⟨some d1,.makeFunc (.func g) #[] xs.toArray,ty1,p1,af1,none⟩).run P w1 = .ok (.value vf) w1:=by
  rw [hvf,← hcap]
  simp [execOp,Instr.makeFunc]
 have hev:(a1.put (some d1) vf).eval (.tmp d1)=vf:=by
  show (a1.tmps.setIfInBounds d1 vf).getD d1 undef=vf
  have hlt:d1 < a1.tmps.size:=by rw [show a1.tmps.size=N from m2.len];exact hd1
  simp [Array.getD_eq_getD_getElem?,hlt]
 have hrun2:(execOp (a1.put (some d1) vf).eval ⟨none,.defer { callee:=.value (.tmp d1),args:=#[],argTypes:=ts },ty2,p2,af2,none⟩).run P w1 = .ok (.defer (dfr g ids e2.an)) w1:=by
  simp only [execOp,resolve,hev]
  rw [hvf]
  simp [Deferred.ofValue,dfr]
 refine wpIn_region_list ?_
 show wpListIn Fence.wide 0 P _ _ [_,_] a1 w1
 unfold wpListIn
 rw [if_pos (show Region.wanted _ _=true from rfl)]
 refine⟨fun _ _=>trivial,?_⟩
 rw [show Fence.wide.round=none from rfl,Oper.semAt_none,hrun1,Oper.uponIn_value]
 unfold wpListIn
 rw [if_pos (show Region.wanted _ _=true from rfl)]
 refine⟨fun _ _=>trivial,?_⟩
 rw [show Fence.wide.round=none from rfl,Oper.semAt_none,hrun2,Oper.uponIn_defer]
 show C.wpIn Fence.wide 0 P _ a2 w1
 refine wpIn_mono (hC O w (fun b=>b∈ownedL e H) e2.an e2 a2 w1 m3) ?_
 have hdefers:∀ {k:Nat→Prop} {L:Sl} {H:Hp} {e:Env} {a:Act} {w:World},Models Γ2 k L H e a w→a.defers=[dfr g ids e2.an]:=by
  intro k L H e a w m
  obtain⟨rs',h1,h0,_⟩:=m.defers
  rw [h1,h0 rfl]
  rfl
 have hback:∀ {k:Nat→Prop} {H':Hp} {e':Env} {w':World},Heap Γ2 k H' e' w'→Heap ⟨P,τ,τok,O,w,fun b=>b∈ownedL e H,0,J,e.an,none,noPan,true,dr⟩ k H' e' w':=fun h =>
  ⟨h.top,h.heap,h.ids,h.nodup,h.mine,h.os,h.tape,h.output,h.drawn,h.size,h.block,h.obound,h.tabs,fun j hj=>h.jle j (Nat.lt_of_lt_of_le hj hJ),fun j hj=>(h.anchor j (Nat.lt_of_lt_of_le hj hJ)).trans (m2.anchor j hj)⟩
 rintro ex a3 w3 (⟨k3,L3,H3,e3,m4,hx3,r,hres,hR⟩|⟨v,k3,L3,H3,e3,rfl,⟨hloc,hmay⟩,m4⟩)
 ·have key:LeavesIn Fence.wide 0 P fn a3.tmps (fun en w'=>∃ k' r H' e' v,R k' r H'∧en = .returned v∧Heap ⟨P,τ,τok,O,w,fun b=>b∈ownedL e H,0,J,e.an,none,noPan,true,dr⟩ k' H' e' w' ∧
   Rel (Ctx.X ⟨P,τ,τok,O,w,fun b=>b∈ownedL e H,0,J,e.an,none,noPan,true,dr⟩ e' H') e' w' r v) a3.defers .returning w3:=by
   rw [hdefers m4]
   refine leavesIn_cons (f:=g) (args:=dcaps ids e2.an) (by simp) (hdepth 0) (invoke_closure hg _ _) (leads_closure fun _=>trivial) ?_
   refine (hI _ w3 (m4.tabsAt.sub fun _ h=>h.elim)).mono ?_
   rintro en u' w' ⟨rfl,rfl,hbl⟩
   have m5:=m4.below hbl
   obtain⟨v,g1,g2⟩:=results_run m5 fn r hres
   exact⟨v,g1,k3,r,H3,e3,v,hR,rfl,hback m5.toHeap,g2⟩
  rcases hx3 with rfl|rfl
  ·exact key
  ·exact key
 ·show LeavesIn Fence.wide 0 P fn a3.tmps _ a3.defers (.panicking _) w3
  rw [hdefers m4]
  refine leavesIn_cons (f:=g) (args:=dcaps ids e2.an) (by simp) (hdepth 0) (invoke_closure hg _ _) (leads_closure fun _=>trivial) ?_
  refine (hK O w (fun b=>b∈ownedL e H) e2.an N false Γ2.pan e3 w3 v k3 H3 hmay m4.toHeap).mono ?_
  rintro en u' w4 ⟨rfl,rfl,k4,H4,e4,hRc,hH4⟩
  obtain⟨r,hres,hR⟩:=hRC k4 H4 hRc
  have m5:Models Γ2 (lo k4) (locSl rs) H4 e4 a3 w4:=by
   refine⟨hH4,?_,m4.len,fun t=>?_⟩
   ·rw [hdefers m4];exact Marks.nil
   ·rcases locSl_form (rs:=rs) t with ⟨p,hp,h⟩|h
    ·rw [h]
     have hs:=m4.slot t
     have hg2:L3.get t = .loc p.2 0:=by
      rcases get_locSl hloc t with h2|h2
      ·rw [← h2];exact h
      ·rw [h] at h2;cases h2
     rw [hg2] at hs
     have hj:=hrs p hp
     refine⟨(hH4.top _).2 (hH4.jle _ hj),?_⟩
     rw [hs.2,Env.an_β ((m4.anchor _ hj).trans (hH4.anchor _ hj).symm)]
    ·rw [h];trivial
  obtain⟨v',g1,g2⟩:=results_run m5 fn r hres
  exact⟨v',g1,k4,r,H4,e4,v',hR,rfl,hback hH4,g2⟩
def capSl (ids:List Nat):Sl:=enumSl 0 (ids.map fun j=>SV.loc j 0)
theorem catch_of {g:FuncId} {fn:Func} {C:Code} {i d d':Nat} {ts:Array TypeId} {t1 t2:TypeId} {p1 p2:String} {af1 af2:Array Edge} {ids:List Nat} {J:Nat} {may:Value→Hp→Prop} {RC:Nat→Hp→Prop} (N:Nat)
  (hf:P.funcs[g]? = some fn) (hb:fn.body=some (.seq (.region i #[⟨some d,.call { callee:=.builtin .recover,args:=#[],argTypes:=ts },t1,p1,af1,none⟩,⟨some d',.assign (.tmp d),t2,p2,af2,none⟩] false) C))
  (hr:fn.results = #[]) (hN:ids.length + (fn.ntmps - ids.length)=N) (hd:d < N) (hd':d' < N) (hids:∀ j∈ids,j < J)
  (hC:∀ (O:Nat→Prop) (w0:World) (E0:Nat→Prop) (β0:Nat→Nat × Value) (v:Value) (k:Nat) (H:Hp),may v H→DW ⟨P,τ,τok,O,w0,E0,N,J,β0,none,noPan,false,dr⟩ C (fun x k2 _ H2=>(x = .normal∨x = .ret)∧RC k2 H2) k ((d',.val v)::(d,.val v)::capSl ids) H) :
  CatchOk dr P τ τok g ids J may RC:=by
 intro O w0 E0 β0 n mk pn e w v k H hmay hH
 refine callsDIn_of_wpSIn hf hb trivial fun c₀ cs hu=>?_
 refine wpSIn_seq ?_
 refine wpSIn_region ?_
 show wpOpsSIn Fence.wide 0 P _ _ [0,1] _ _ _
 obtain⟨a0,ha0⟩:∃ a0:Act,a0 = { tmps:=dcaps ids β0++Array.replicate (fn.ntmps - (dcaps ids β0).size) undef,defers:=[] }:=⟨_,rfl⟩
 rw [← ha0]
 have hsz:(dcaps ids β0).size=ids.length:=by unfold dcaps;simp
 have hlen:a0.tmps.size=N:=by rw [ha0,← hN];simp [hsz]
 have hrun1:(execOp a0.eval ⟨some d,.call { callee:=.builtin .recover,args:=#[],argTypes:=ts },t1,p1,af1,none⟩).run P w = .ok .recover w:=by
  simp [execOp,resolve,invoke,builtin]
 have hrec:recoverD (c₀::cs)=some (v,{ c₀ with mode:=.panicking [{ v,recovered:=true }] }::cs):=by
  simp [recoverD,hu]
 have hrun2:(execOp (a0.put (some d) v).eval ⟨some d',.assign (.tmp d),t2,p2,af2,none⟩).run P w = .ok (.value v) w:=by
  have:(a0.put (some d) v).eval (.tmp d)=v:=by
   show (a0.tmps.setIfInBounds d v).getD d undef=v
   have hlt:d < a0.tmps.size:=by omega
   simp [Array.getD_eq_getD_getElem?,hlt]
  simp [execOp,this]
 simp [wpOpsSIn,hrun1,hrec,hrun2,Region.wanted,Fence.wide,Exit.thenS]
 refine wpSIn_of_wpIn rfl ?_
 have hcaps:RelL (Ctx.X ⟨P,τ,τok,O,w0,E0,N,J,β0,none,noPan,false,dr⟩ e H) e w (ids.map fun j=>SV.loc j 0) (ids.map fun j=>Value.pointer (some ⟨(β0 j).1,0,none⟩)):=by
  clear hC hsz hN ha0
  induction ids with
  | nil=>trivial
  | cons j js ih =>
   have hj:=hids j (List.mem_cons_self ..)
   exact⟨⟨(hH.top j).2 (hH.jle j hj),by show Value.pointer (some ⟨(β0 j).1,0,none⟩)=_;rw [show β0 j=e.an j from (hH.anchor j hj).symm];rfl⟩,ih fun q hq=>hids q (List.mem_cons_of_mem _ hq)⟩
 have m:Models ⟨P,τ,τok,O,w0,E0,N,J,β0,none,noPan,false,dr⟩ (lo k) ((d',.val v)::(d,.val v)::capSl ids) H e ((a0.put (some d) v).put (some d') v) w:=by
  refine⟨hH.reframe,?_,?_,fun t=>?_⟩
  ·show Marks _ false [] a0.defers w
   rw [ha0]
   exact Marks.nil
  ·show ((a0.tmps.setIfInBounds d v).setIfInBounds d' v).size=N
   simp [hlen]
  ·show Rel _ e w _ (((a0.tmps.setIfInBounds d v).setIfInBounds d' v).getD t undef)
   have hlt:d < a0.tmps.size:=by omega
   have hlt':d' < a0.tmps.size:=by omega
   rw [Sl.get_cons]
   split
   ·rename_i h
    subst h
    show _=v
    simp [Array.getD_eq_getD_getElem?,hlt']
   ·rename_i h1
    rw [Sl.get_cons]
    split
    ·rename_i h
     subst h
     show _=v
     simp only [Array.getD_eq_getD_getElem?]
     rw [Array.getElem?_setIfInBounds_ne (by omega)]
     simp [hlt]
    ·rename_i h2
     have h:=enumSl_slot (ids.map fun j=>SV.loc j 0) (ids.map fun j=>Value.pointer (some ⟨(β0 j).1,0,none⟩)) (List.replicate (fn.ntmps - ids.length) undef) 0 [] rfl hcaps t
     have he:a0.tmps=([]++(ids.map fun j=>Value.pointer (some ⟨(β0 j).1,0,none⟩))++List.replicate (fn.ntmps - ids.length) undef).toArray:=by
      rw [ha0]
      show dcaps ids β0++Array.replicate (fn.ntmps - (dcaps ids β0).size) undef=_
      rw [hsz]
      unfold dcaps
      simp
     rw [← he] at h
     simp only [Array.getD_eq_getD_getElem?] at h ⊢
     rw [Array.getElem?_setIfInBounds_ne (by omega),Array.getElem?_setIfInBounds_ne (by omega)]
     exact h
 refine wpIn_mono (hC O w0 E0 β0 v k H hmay e _ w m) ?_
 have hres:∀ (tmps:Array Value) (w':World),(results fn tmps).run P w' = .ok (.tuple #[]) w':=fun tmps w'=>by simp [results,hr]
 rintro ex a' w' (⟨k2,L2,H2,e2,m2,hx,hR⟩|⟨_,_,_,_,_,_,hv,_⟩)
 rotate_left
 ·exact hv.elim
 have hd0:a'.defers=[]:=by
  obtain⟨rs',h1,h0,_⟩:=m2.defers
  rw [h1,h0 rfl]
  rfl
 rcases hx with rfl|rfl
 ·exact⟨hd0,_,rfl,_,hres _ _,rfl,rfl,k2,H2,hR,e2,m2.toHeap.reframe⟩
 ·exact⟨hd0,_,rfl,_,hres _ _,rfl,rfl,k2,H2,hR,e2,m2.toHeap.reframe⟩
theorem idle_of {g:FuncId} {fn:Func} {C:Code} {i d d':Nat} {ts:Array TypeId} {t1 t2:TypeId} {p1 p2:String} {af1 af2:Array Edge} (τ0:List (Nat × TI)) (τok0:TabOk P τ0)
  (hf:P.funcs[g]? = some fn) (hb:fn.body=some (.seq (.region i #[⟨some d,.call { callee:=.builtin .recover,args:=#[],argTypes:=ts },t1,p1,af1,none⟩,⟨some d',.assign (.tmp d),t2,p2,af2,none⟩] false) C))
  (hr:fn.results = #[]) (hd:d < fn.ntmps) (hd':d' < fn.ntmps)
  (hC:∀ (w0:World) (N:Nat),fn.ntmps≤N→DW ⟨P,τ0,τok0,fun _=>False,w0,fun _=>False,N,0,fun _=>(0,undef),none,noPan,false,false⟩ C (fun x _ _ _=>x = .normal∨x = .ret) 0 [(d',.val .nilIface)] []):IdleOk false P g:=by
 intro vs w hT
 refine callsDIn_of_wpSIn hf hb trivial fun c₀ cs hu=>?_
 refine wpSIn_seq ?_
 refine wpSIn_region ?_
 show wpOpsSIn Fence.wide 0 P _ _ [0,1] _ _ _
 obtain⟨a0,ha0⟩:∃ a0:Act,a0 = { tmps:=vs++Array.replicate (fn.ntmps - vs.size) undef,defers:=[] }:=⟨_,rfl⟩
 rw [← ha0]
 have hlen:fn.ntmps≤a0.tmps.size:=by rw [ha0];simp;omega
 have hrun1:(execOp a0.eval ⟨some d,.call { callee:=.builtin .recover,args:=#[],argTypes:=ts },t1,p1,af1,none⟩).run P w = .ok .recover w:=by
  simp [execOp,resolve,invoke,builtin]
 have hrec:recoverD (c₀::cs)=none:=by
  simp [recoverD,hu]
 have hrun2:(execOp (a0.put (some d) .nilIface).eval ⟨some d',.assign (.tmp d),t2,p2,af2,none⟩).run P w = .ok (.value .nilIface) w:=by
  have:(a0.put (some d) .nilIface).eval (.tmp d) = .nilIface:=by
   show (a0.tmps.setIfInBounds d .nilIface).getD d undef = .nilIface
   have hlt:d < a0.tmps.size:=by omega
   simp [Array.getD_eq_getD_getElem?,hlt]
  simp [execOp,this]
 simp [wpOpsSIn,hrun1,hrec,hrun2,Region.wanted,Fence.wide,Exit.thenS]
 refine wpSIn_of_wpIn rfl ?_
 let e:Env:=⟨fun _=>0,fun _=>undef,lo 0⟩
 have m:Models ⟨P,τ0,τok0,fun _=>False,w,fun _=>False,a0.tmps.size,0,fun _=>(0,undef),none,noPan,false,false⟩ (lo 0) [(d',.val .nilIface)] [] e ((a0.put (some d) .nilIface).put (some d') .nilIface) w:=by
  refine⟨{ top:=fun _=>Iff.rfl,heap:=(fun p hp=>nomatch hp),ids:=.nil,nodup:=.nil,mine:=(fun b hb=>nomatch hb),os:=rfl,tape:=rfl,output:=rfl,drawn:=(fun _=>Nat.le_refl _),size:=Nat.le_refl _,block:=(fun _ _ _=>rfl),obound:=(fun _ h=>h.elim),tabs:=hT,jle:=(fun _ h=>nomatch h),anchor:=(fun _ h=>nomatch h) },?_,?_,fun t=>?_⟩
  ·show Marks _ false [] a0.defers w
   rw [ha0]
   exact Marks.nil
  ·show ((a0.tmps.setIfInBounds d .nilIface).setIfInBounds d' .nilIface).size=a0.tmps.size
   simp
  ·show Rel _ e w _ (((a0.tmps.setIfInBounds d .nilIface).setIfInBounds d' .nilIface).getD t undef)
   rw [Sl.get_cons]
   split
   ·rename_i h
    subst h
    show _=Value.nilIface
    have hlt':d' < a0.tmps.size:=by omega
    simp [Array.getD_eq_getD_getElem?,hlt']
   ·trivial
 refine wpIn_mono (hC w a0.tmps.size hlen e _ w m) ?_
 have hres:∀ (tmps:Array Value) (w':World),(results fn tmps).run P w' = .ok (.tuple #[]) w':=fun tmps w'=>by simp [results,hr]
 rintro ex a' w' (⟨k2,L2,H2,e2,m2,hx⟩|⟨_,_,_,_,_,_,hv,_⟩)
 rotate_left
 ·exact hv.elim
 have hd0:a'.defers=[]:=by
  obtain⟨rs',h1,h0,_⟩:=m2.defers
  rw [h1,h0 rfl]
  rfl
 have hbl:Beld false w.heap.size w w':=⟨⟨m2.os,m2.tape,m2.output,m2.size,fun b hb=>m2.block b hb (fun h=>h)⟩,fun h=>by cases h⟩
 have hmode:∀ c:Frame,c.mode = .returning→c = { c with mode:=.returning }:=fun c h=>by cases c;simp at h;simp [h]
 rcases hx with rfl|rfl
 ·exact⟨hd0,.returning,by rw [← hmode c₀ hu],_,hres _ _,rfl,rfl,hbl⟩
 ·exact⟨hd0,.returning,by rw [← hmode c₀ hu],_,hres _ _,rfl,rfl,hbl⟩
end
def encTTm (t:TTm):List D:=[.str t.var,.int .i64 t.n]
def encTLt (t:TLt):List D:=[.int .i64 t.kind,.int .i64 t.at_,.int .i64 t.op,.str t.name,.slice 2 (t.terms.map encTTm)]
def encTRu (t:TRu):List D:=[.int .i64 t.at_,.str t.name,.slice 2 (t.terms.map encTTm),.int .i64 t.fold,.slice 5 (t.body.map encTLt)]
abbrev prH (l:List Tok) (i:Nat) (e:Int):Hp:=[(0,.blk 74 [.d (.slice 3 (l.map encTok)),.d (.int .i64 i),.d (.int .i64 e)])]
def plV (n:Int):Value:=.iface 98 (.int .i64 n)
attribute [local irreducible] DW DS DL DQ Ev FnOk FnP FnOkE thenD inBlockD
set_option maxHeartbeats 8000000 in
theorem here_fn (l:List Tok) (i:Nat) (e:Int):FnOk false Tryz.prog tab tab_ok 87 [.loc 0 0] 1 1 (prH l i e) (fun k r H=>k=1∧r = .d (.int .i64 (hereT l e i))∧H=prH l i e):=by
 refine fn_enterR _ Tryz.func87 rfl rfl (by kernel_rfl) ?_
 intro O w0 E0 β0
 have ll:(l.map encTok).length=l.length:=List.length_map _
 by_cases hi:i < l.length
 ·have hh:hereT l e i=l[i].at_:=by unfold hereT;rw [List.getElem?_eq_getElem hi]
  rw [hh]
  repeat' (first|refine z0 ?_|apply ds_nil|refine z5 ?_|refine z10 ?_|apply dw_seq2|refine z16 ?_|refine z20 ?_|apply dw_skip|apply dw_ret|apply thenD_n|apply thenD_r|(refine z23 ?_ ?_ <;> intro hg)|fail)
  all_goals try (exfalso;omega)
  exact⟨.inl rfl,_,rfl,id,1,_,prH l i e,rfl,⟨rfl,trivial⟩,rfl,rfl,rfl,rfl,rfl,rfl,rfl,rfl,rfl⟩
 ·have hh:hereT l e i=e:=by unfold hereT;rw [List.getElem?_eq_none (by omega)]
  rw [hh]
  repeat' (first|refine z0 ?_|apply ds_nil|refine z5 ?_|refine z10 ?_|apply dw_seq2|refine z16 ?_|refine z20 ?_|apply dw_skip|apply dw_ret|apply thenD_n|apply thenD_r|(refine z23 ?_ ?_ <;> intro hg)|fail)
  all_goals try (exfalso;omega)
  exact⟨.inl rfl,_,rfl,id,1,_,prH l i e,rfl,⟨rfl,trivial⟩,rfl,rfl,rfl,rfl,rfl,rfl,rfl,rfl,rfl⟩
set_option maxHeartbeats 8000000 in
theorem fail_fn (l:List Tok) (i:Nat) (e:Int):FnOkE false Tryz.prog tab tab_ok 106 [.loc 0 0] 1 1 (prH l i e) (fun _ _ _=>False) (fun v=>v=plV (hereT l e i)):=by
 refine fn_enterRE _ Tryz.func106 rfl rfl (by kernel_rfl) ?_
 intro O w0 E0 β0
 have w1:=here_fn l i e
 repeat' (first|refine z0 ?_|refine z16 ?_|fail)
 refine ds_callO id w1 rfl rfl rfl rfl ⟨rfl,trivial⟩ rfl rfl rfl rfl rfl rfl ?_ ?_
 ·rintro k2 res H2 ⟨rfl,rfl,rfl⟩;exact⟨rfl,rfl⟩
 rintro k2 res H2 ⟨rfl,rfl,rfl⟩
 change DS _ _ _ _ _ _ _ _
 refine ds_ev (ev_box (kd:=.i64) rfl rfl (by kernel_rfl)) rfl rfl ?_
 refine ds_panic rfl rfl rfl rfl
set_option maxHeartbeats 8000000 in
theorem sees_fn (l:List Tok) (i:Nat) (e:Int) (s:ByteArray):FnOk false Tryz.prog tab tab_ok 108 [.loc 0 0,.d (.str s)] 1 1 (prH l i e) (fun k r H=>k=1∧r = .d (.bool (seesT l i s))∧H=prH l i e):=by
 refine fn_enterR _ Tryz.func108 rfl rfl (by kernel_rfl) ?_
 intro O w0 E0 β0
 have ll:(l.map encTok).length=l.length:=List.length_map _
 by_cases hi:i < l.length
 ·have hh:seesT l i s=decide (l[i].text=s):=by unfold seesT;rw [List.getElem?_eq_getElem hi]
  rw [hh]
  repeat' (first|refine z0 ?_|apply ds_nil|refine z5 ?_|refine z14 ?_|refine z10 ?_|apply dw_seq2|refine z16 ?_|refine z20 ?_|apply dw_ret|apply thenD_n|((fail_if_success (apply dt_known;exact rfl));apply dt_guardP;exact rfl;exact rfl;exact rfl;all_goals intro hg))
  all_goals try (exfalso;omega)
  exact⟨.inl rfl,_,rfl,id,1,_,prH l i e,rfl,⟨rfl,trivial⟩,rfl,rfl,rfl,rfl,rfl,rfl,rfl,rfl,rfl⟩
 ·have hh:seesT l i s=false:=by unfold seesT;rw [List.getElem?_eq_none (by omega)]
  rw [hh]
  repeat' (first|refine z0 ?_|apply ds_nil|refine z5 ?_|refine z14 ?_|refine z10 ?_|apply dw_seq2|refine z16 ?_|refine z20 ?_|apply dw_ret|apply thenD_n|((fail_if_success (apply dt_known;exact rfl));apply dt_guardP;exact rfl;exact rfl;exact rfl;all_goals intro hg))
  all_goals try (exfalso;omega)
  exact⟨.inl rfl,_,rfl,id,1,_,prH l i e,rfl,⟨rfl,trivial⟩,rfl,rfl,rfl,rfl,rfl,rfl,rfl,rfl,rfl⟩
set_option maxHeartbeats 8000000 in
theorem ptake_fn (l:List Tok) (i:Nat) (e:Int) (s:ByteArray) (hi:i≤1000000):FnOk false Tryz.prog tab tab_ok 90 [.loc 0 0,.d (.str s)] 1 1 (prH l i e) (fun k r H=>k=1∧r = .d (.bool (seesT l i s))∧H=prH l (match seesT l i s with|true=>i + 1|false=>i) e):=by
 refine fn_enterR _ Tryz.func90 rfl rfl (by kernel_rfl) ?_
 intro O w0 E0 β0
 have w1:=sees_fn l i e s
 repeat' (first|refine z0 ?_|apply ds_nil|apply dw_seq2|refine z16 ?_|apply thenD_n)
 (refine ds_callF id (w1) rfl rfl rfl rfl ⟨rfl,trivial⟩ rfl rfl rfl rfl rfl rfl ?_ ?_)
 ·rintro k2 res H2 ⟨rfl,rfl,rfl⟩;exact⟨rfl,rfl⟩
 rintro k2 res H2 ⟨rfl,rfl,rfl⟩
 change DS _ _ _ _ _ _ _ _
 clear w1
 cases seesT l i s with
 | true =>
  repeat' (first|refine z0 ?_|apply ds_nil|apply dw_seq2|refine z16 ?_|apply dw_skip|apply dw_ret|refine z19 ?_|apply thenD_n|refine z3 ?_|fail)
  exact⟨.inl rfl,_,rfl,id,1,_,prH l (i + 1:Nat) e,rfl,⟨rfl,trivial⟩,rfl,rfl,rfl,rfl,rfl,rfl,rfl,rfl,rfl⟩
 | false =>
  repeat' (first|refine z0 ?_|apply ds_nil|apply dw_seq2|refine z16 ?_|apply dw_ret|refine z18 ?_|apply thenD_n|apply thenD_r)
  exact⟨.inl rfl,_,rfl,id,1,_,prH l i e,rfl,⟨rfl,trivial⟩,rfl,rfl,rfl,rfl,rfl,rfl,rfl,rfl,rfl⟩
set_option maxHeartbeats 8000000 in
theorem need_fn (l:List Tok) (i:Nat) (e:Int) (s:ByteArray) (hi:i≤1000000):FnOkE false Tryz.prog tab tab_ok 91 [.loc 0 0,.d (.str s)] 1 1 (prH l i e) (fun k r H=>seesT l i s=true∧k=1∧r = .tup []∧H=prH l (i + 1:Nat) e) (fun v=>seesT l i s=false∧v=plV (hereT l e i)):=by
 refine fn_enterRE _ Tryz.func91 rfl rfl (by kernel_rfl) ?_
 intro O w0 E0 β0
 have w1:=ptake_fn l i e s hi
 repeat' (first|refine z0 ?_|apply dw_seq2|refine z16 ?_|fail)
 (refine ds_callF id (w1) rfl rfl rfl rfl ⟨rfl,trivial⟩ rfl rfl rfl rfl rfl rfl ?_ ?_)
 ·rintro k2 res H2 ⟨rfl,rfl,rfl⟩;exact⟨rfl,rfl⟩
 rintro k2 res H2 ⟨rfl,rfl,rfl⟩
 change DS _ _ _ _ _ _ _ _
 clear w1
 cases hs:seesT l i s with
 | true =>
  repeat' (first|refine z0 ?_|apply ds_nil|apply dw_skip|refine z19 ?_|apply thenD_n)
  exact⟨.inr rfl,_,rfl,id,1,_,prH l (i + 1:Nat) e,rfl,⟨rfl,trivial⟩,rfl,rfl,rfl,rfl,rfl,rfl,rfl,rfl,rfl,rfl⟩
 | false =>
  have w2:=fail_fn l i e
  repeat' (first|refine z0 ?_|apply ds_nil|refine z16 ?_|refine z18 ?_|apply thenD_n)
  refine ds_callE id w2 rfl rfl rfl rfl ⟨rfl,trivial⟩ rfl rfl rfl rfl rfl rfl ?_ ?_ ?_
  ·rintro v rfl;exact⟨rfl,rfl⟩
  ·rintro _ _ _ h;exact h.elim
  ·rintro _ _ _ h;exact h.elim
set_option maxHeartbeats 8000000 in
theorem pname_fn (l:List Tok) (i:Nat) (e:Int) (hi:i≤1000000):FnOkE false Tryz.prog tab tab_ok 88 [.loc 0 0] 1 1 (prH l i e) (fun k r H=>∃ s,nameT l i = .ok (s,i + 1)∧k=1∧r = .d (.str s)∧H=prH l (i + 1:Nat) e) (fun v=>nameT l i = .error i∧v=plV (hereT l e i)):=by
 refine fn_enterRE _ Tryz.func88 rfl rfl (by kernel_rfl) ?_
 intro O w0 E0 β0
 have ll:(l.map encTok).length=l.length:=List.length_map _
 have w2:=fail_fn l i e
 by_cases hl:i < l.length
 ·have hn:nameT l i=if nameS l[i].text then .ok (l[i].text,i + 1) else .error i:=by unfold nameT;rw [List.getElem?_eq_getElem hl]
  have w1:=treeName_fn l[i].text
  cases hb:nameS l[i].text with
  | true =>
   rw [hb,if_pos rfl] at hn
   rw [hb] at w1
   repeat' (first|refine z0 ?_|apply ds_nil|refine z5 ?_|refine z14 ?_|refine z10 ?_|apply dw_seq2|refine z16 ?_|refine z20 ?_|apply dw_skip|apply dw_ret|refine z18 ?_|refine z19 ?_|apply thenD_n|refine z22 ?_ (hc:=by apply w1)|refine z3 ?_|((fail_if_success (apply dt_known;exact rfl));apply dt_guardP;exact rfl;exact rfl;exact rfl;all_goals intro hg))
   all_goals try (exfalso;omega)
   exact⟨.inl rfl,_,rfl,id,1,_,prH l (i + 1:Nat) e,rfl,⟨rfl,trivial⟩,rfl,rfl,rfl,rfl,rfl,rfl,_,hn,rfl,rfl,rfl⟩
  | false =>
   rw [hb,if_neg (by simp)] at hn
   rw [hb] at w1
   repeat' (first|refine z0 ?_|apply ds_nil|refine z5 ?_|refine z14 ?_|refine z10 ?_|apply dw_seq2|refine z16 ?_|refine z20 ?_|refine z18 ?_|apply thenD_n|refine z22 ?_ (hc:=by apply w1)|((fail_if_success (apply dt_known;exact rfl));apply dt_guardP;exact rfl;exact rfl;exact rfl;all_goals intro hg))
   all_goals try (exfalso;omega)
   refine ds_callE id w2 rfl rfl rfl rfl ⟨rfl,trivial⟩ rfl rfl rfl rfl rfl rfl ?_ ?_ ?_
   ·rintro v rfl;exact⟨hn,rfl⟩
   ·rintro _ _ _ h;exact h.elim
   ·rintro _ _ _ h;exact h.elim
 ·have hn:nameT l i = .error i:=by unfold nameT;rw [List.getElem?_eq_none (by omega)]
  repeat' (first|refine z0 ?_|apply ds_nil|refine z5 ?_|refine z14 ?_|refine z10 ?_|apply dw_seq2|refine z16 ?_|refine z20 ?_|refine z18 ?_|apply thenD_n|((fail_if_success (apply dt_known;exact rfl));apply dt_guardP;exact rfl;exact rfl;exact rfl;all_goals intro hg))
  all_goals try (exfalso;omega)
  refine ds_callE id w2 rfl rfl rfl rfl ⟨rfl,trivial⟩ rfl rfl rfl rfl rfl rfl ?_ ?_ ?_
  ·rintro v rfl;exact⟨hn,rfl⟩
  ·rintro _ _ _ h;exact h.elim
  ·rintro _ _ _ h;exact h.elim
theorem takeW_take (p:UInt8→Bool):∀ l,takeW p (l.take (takeW p l))=takeW p l
 | []=>by rw [List.take_nil]
 | c::l=>by
  by_cases hc:p c=true
  ·have e:takeW p (c::l)=takeW p l + 1:=by rw [takeW,if_pos hc]
   rw [e,List.take_succ_cons,takeW,if_pos hc,takeW_take p l]
  ·have e:takeW p (c::l)=0:=by rw [takeW,if_neg hc]
   rw [e];unfold takeW;rfl
theorem pairB_cons2 (a b:UInt8) (r r':List UInt8):pairB (a::b::r)=pairB (a::b::r'):=by unfold pairB;rfl
theorem pairB_one (a:UInt8):pairB [a]=false:=by unfold pairB;rfl
theorem tokAt_take (w:List UInt8) (k:Int) (n:Nat) (h:tokAt w=(k,n)) (hk:k≠0):tokAt (w.take n)=(k,n):=by
 cases w with
 | nil =>
  unfold tokAt at h
  injection h with h1 h2
  exact absurd h1.symm hk
 | cons c l =>
  rw [tokAt_cons] at h
  by_cases a:letterB c=true
  ·rw [if_pos a] at h
   injection h with h1 h2
   subst h2
   rw [Nat.add_comm,List.take_succ_cons,tokAt_cons,if_pos a,takeW_take,h1,Nat.add_comm]
  ·rw [if_neg a] at h
   by_cases b:digitB c=true
   ·rw [if_pos b] at h
    injection h with h1 h2
    subst h2
    rw [Nat.add_comm,List.take_succ_cons,tokAt_cons,if_neg a,if_pos b,takeW_take,h1,Nat.add_comm]
   ·rw [if_neg b] at h
    by_cases d:pairB (c::l)=true
    ·rw [if_pos d] at h
     injection h with h1 h2
     subst h2
     match l,d with
     | [],d=>rw [pairB_one] at d;exact absurd d Bool.false_ne_true
     | b'::l,d =>
      show tokAt [c,b']=_
      rw [tokAt_cons,if_neg a,if_neg b,pairB_cons2 c b' [] l,if_pos d,h1]
    ·rw [if_neg d] at h
     by_cases e:signs.contains c=true
     ·rw [if_pos e] at h
      injection h with h1 h2
      subst h2
      show tokAt [c]=_
      rw [tokAt_cons,if_neg a,if_neg b,if_neg (by rw [pairB_one];exact Bool.false_ne_true),if_pos e,h1]
     ·rw [if_neg e] at h
      injection h with h1 h2
      exact absurd h1.symm hk
theorem tokAt_37 (l:List UInt8):(tokAt (37::l)).1=0:=by
 rw [tokAt_cons,if_neg (by unfold letterB smallB greatB;decide),if_neg (by unfold digitB;decide),if_neg (by unfold pairB;cases l <;> simp),if_neg (by decide)]
theorem tokAt_32 (l:List UInt8):(tokAt (32::l)).1=0:=by
 rw [tokAt_cons,if_neg (by unfold letterB smallB greatB;decide),if_neg (by unfold digitB;decide),if_neg (by unfold pairB;cases l <;> simp),if_neg (by decide)]
theorem tokAt_9 (l:List UInt8):(tokAt (9::l)).1=0:=by
 rw [tokAt_cons,if_neg (by unfold letterB smallB greatB;decide),if_neg (by unfold digitB;decide),if_neg (by unfold pairB;cases l <;> simp),if_neg (by decide)]
theorem tokAt_10 (l:List UInt8):(tokAt (10::l)).1=0:=by
 rw [tokAt_cons,if_neg (by unfold letterB smallB greatB;decide),if_neg (by unfold digitB;decide),if_neg (by unfold pairB;cases l <;> simp),if_neg (by decide)]
theorem tokErr_kind {k:Int} {n:Nat} {c:UInt8} (h:tokErr k n c=0):k≠0:=by
 intro hk
 rw [tokErr_eq,if_pos hk] at h
 cases h
theorem drop_byte (s:ByteArray) (i:Nat) (h:i < s.size):s.data.toList.drop i=s[i]::s.data.toList.drop (i + 1):=by
 rw [List.drop_eq_getElem_cons (by simpa using h)];rfl
theorem ext_list (s:ByteArray) (i n:Nat):(s.extract i (i + n)).data.toList=(s.data.toList.drop i).take n:=by
 simp [ByteArray.data_extract,Array.toList_extract,List.extract_eq_take_drop]
theorem bytes_inj {a b:ByteArray} (h:a.data.toList=b.data.toList):a=b:=ByteArray.ext (Array.ext' h)
theorem scan_one (s:ByteArray) (i:Nat) (k:Int) (n:Nat) (h:i < s.size) (ht:tokAt (s.data.toList.drop i)=(k,n)) (he:tokErr k n s[i]=0) :
  scanAt s false i=(scanAt s false (i + n)).map (Tok.mk k i (s.extract i (i + n))::·):=by
 have hk:=tokErr_kind he
 have hd:=drop_byte s i h
 have hb:∀ c:UInt8,(∀ l,(tokAt (c::l)).1=0)→s[i]≠c:=by
  intro c hc e
  rw [hd,e] at ht
  have:=hc (s.data.toList.drop (i + 1))
  rw [ht] at this
  exact hk this
 have h37:=hb 37 tokAt_37
 have h32:=hb 32 tokAt_32
 have h9:=hb 9 tokAt_9
 have h10:=hb 10 tokAt_10
 have:=scanAt_tok s i h (by simpa using h37) (by simp [h32,h9,h10]) (by rw [ht];exact he)
 rw [ht] at this
 exact this
def Chain (s:ByteArray):Nat→List Tok→Prop
 | _,[]=>True
 | i,t::l=>∃ j,i≤j∧t.at_=j∧(∃ h:j < s.size,tokAt (s.data.toList.drop j)=(t.kind,t.text.size)∧tokErr t.kind t.text.size s[j]=0)∧j + t.text.size≤s.size∧t.text=s.extract j (j + t.text.size)∧Chain s (j + t.text.size) l
theorem Chain.mono {s:ByteArray} {i i':Nat} {l:List Tok} (h:Chain s i' l) (hi:i≤i'):Chain s i l:=by
 cases l with
 | nil=>trivial
 | cons t l =>
  obtain⟨j,h1,h2⟩:=h
  exact⟨j,Nat.le_trans hi h1,h2⟩
theorem scanGo_chain (s:ByteArray):∀ (f:Nat) (note:Bool) (i:Nat) (l:List Tok),scanGo s f note i = .ok l→Chain s i l:=by
 intro f
 induction f with
 | zero =>
  intro note i l h
  simp only [scanGo] at h
  cases h
  trivial
 | succ f ih =>
  intro note i l h
  simp only [scanGo] at h
  by_cases hi:i < s.size
  ·rw [dif_pos hi] at h
   split at h
   ·exact (ih _ _ _ h).mono (by omega)
   ·split at h
    ·exact (ih _ _ _ h).mono (by omega)
    ·split at h
     ·rename_i he
      cases hr:scanGo s f false (i + (tokAt (s.data.toList.drop i)).2) with
      | error e=>rw [hr] at h;cases h
      | ok l' =>
       rw [hr] at h
       cases h
       have hle:=tokAt_le (s.data.toList.drop i)
       rw [List.length_drop,show s.data.toList.length=s.size from Array.length_toList] at hle
       have hsz:(s.extract i (i + (tokAt (s.data.toList.drop i)).2)).size=(tokAt (s.data.toList.drop i)).2:=by rw [ByteArray.size_extract];omega
       exact⟨i,Nat.le_refl _,rfl,⟨hi,by rw [hsz],by rw [hsz];exact he⟩,by rw [hsz];omega,by rw [hsz],by rw [hsz];exact ih _ _ _ hr⟩
     ·cases h
  ·rw [dif_neg hi] at h
   cases h
   trivial
theorem scanGo_err (s:ByteArray):∀ (f:Nat) (note:Bool) (i:Nat) (p e:Int),scanGo s f note i = .error (p,e)→e≠0:=by
 intro f
 induction f with
 | zero =>
  intro note i p e h
  simp only [scanGo] at h
  cases h
 | succ f ih =>
  intro note i p e h
  simp only [scanGo] at h
  by_cases hi:i < s.size
  ·rw [dif_pos hi] at h
   split at h
   ·exact ih _ _ _ _ h
   ·split at h
    ·exact ih _ _ _ _ h
    ·split at h
     ·cases hr:scanGo s f false (i + (tokAt (s.data.toList.drop i)).2) with
      | error e'=>rw [hr] at h;cases h;exact ih _ _ _ _ hr
      | ok l'=>rw [hr] at h;cases h
     ·rename_i he
      injection h with h
      injection h with h1 h2
      rw [← h2];exact he
  ·rw [dif_neg hi] at h
   cases h
theorem scanS_chain (s:ByteArray) (l:List Tok) (p:Int) (h:scanS s=(l,p,0)):Chain s 0 l∧s.size≤5000∧p=0:=by
 unfold scanS at h
 split at h
 ·injection h with h1 h2;injection h2 with h2 h3;cases h3
 ·rename_i hs
  split at h
  ·rename_i l' hl
   injection h with h1 h2
   injection h2 with h2 h3
   subst h1
   unfold scanAt at hl
   exact⟨scanGo_chain _ _ _ _ _ hl,by omega,h2.symm⟩
  ·rename_i p' e hl
   injection h with h1 h2
   injection h2 with h2 h3
   subst h1
   unfold scanAt at hl
   exact absurd h3 (scanGo_err _ _ _ _ _ _ hl)
theorem isTok_eq (kind:Int) (s:ByteArray):isTok kind s=true↔∃ h:0 < s.size,s.size≤5000∧tokAt s.data.toList=(kind,s.size)∧tokErr kind s.size s[0]=0:=by
 unfold isTok
 by_cases h:0 < s.size
 ·rw [dif_pos h]
  simp only [Bool.and_eq_true,decide_eq_true_eq]
  constructor
  ·rintro⟨⟨⟨⟨h1,h2⟩,h3⟩,h4⟩,h5⟩
   exact⟨h,h1,Prod.ext h3 h4,h5⟩
  ·rintro⟨_,h1,h2,h3⟩
   exact⟨⟨⟨⟨h1,tokErr_kind h3⟩,by rw [h2]⟩,by rw [h2]⟩,h3⟩
 ·rw [dif_neg h]
  exact⟨fun h'=>absurd h' Bool.false_ne_true,fun⟨h',_⟩=>absurd h' h⟩
theorem oneS_eq (kind:Int) (s:ByteArray):oneS kind s=isTok kind s:=by
 rw [Bool.eq_iff_iff,isTok_eq]
 constructor
 ·intro h
  unfold oneS at h
  split at h
  ·rename_i t p e hs
   simp only [Bool.and_eq_true,decide_eq_true_eq] at h
   obtain⟨h1,h2,h3⟩:=h
   subst h1
   obtain⟨⟨j,g1,g2,⟨g3,g4,g5⟩,g6,g7,_⟩,hsz,_⟩:=scanS_chain s [t] p hs
   rw [h3] at g4 g5 g6
   have hj:j=0:=by omega
   subst hj
   rw [h2] at g4 g5
   exact⟨g3,hsz,g4,g5⟩
  ·cases h
 ·rintro⟨h,h1,h2,h3⟩
  have:=scan_one s 0 kind s.size h h2 h3
  rw [scanAt_end s false (0 + s.size) (by omega)] at this
  have hext:s.extract 0 (0 + s.size)=s:=bytes_inj (by rw [ext_list,List.drop_zero];exact List.take_of_length_le (Nat.le_of_eq (Array.length_toList (xs:=s.data))))
  rw [hext] at this
  unfold oneS
  rw [scanS_ok s (by omega) _ this]
  simp
def tokOk (t:Tok):Bool:=oneS t.kind t.text
theorem ok_parts {t:Tok} (h:tokOk t=true):∃ h:0 < t.text.size,t.text.size≤5000∧tokAt t.text.data.toList=(t.kind,t.text.size)∧tokErr t.kind t.text.size t.text[0]=0:=by
 unfold tokOk at h
 rw [oneS_eq] at h
 exact (isTok_eq t.kind t.text).1 h
theorem first_byte (u:ByteArray) (h:0 < u.size):∃ l,u.data.toList=u[0]::l:=by
 have:=drop_byte u 0 h
 rw [List.drop_zero] at this
 exact⟨_,this⟩
theorem chain_ok (s:ByteArray) (hs:s.size≤5000):∀ (l:List Tok) (i:Nat),Chain s i l→l.all tokOk=true
 | [],_,_=>rfl
 | t::l,i,h=>by
  obtain⟨j,_,_,⟨hj,h1,h2⟩,h3,h4,h5⟩:=h
  rw [List.all_cons,chain_ok s hs l _ h5,Bool.and_true]
  have hk:=tokErr_kind h2
  have hp:=tokAt_pos (s.data.toList.drop j) (by rw [h1];exact hk)
  rw [h1] at hp
  have hl:t.text.data.toList=(s.data.toList.drop j).take t.text.size:=by
   have e:=congrArg (fun x:ByteArray=>x.data.toList) h4
   rw [ext_list] at e
   exact e
  unfold tokOk
  rw [oneS_eq]
  refine (isTok_eq t.kind t.text).2 ⟨hp,by omega,?_,?_⟩
  ·rw [hl];exact tokAt_take _ _ _ h1 hk
  ·have hb:t.text[0]=s[j]:=by
    obtain⟨l0,hl0⟩:=first_byte t.text hp
    have hd:=drop_byte s j hj
    rw [hd,hl0] at hl
    rw [show t.text.size=(t.text.size - 1) + 1 from by omega,List.take_succ_cons] at hl
    injection hl
   rw [hb]
   exact h2
theorem scanS_all {s:ByteArray} {l:List Tok} {p:Int} (h:scanS s=(l,p,0)):l.all tokOk=true:=by
 obtain⟨h1,h2,_⟩:=scanS_chain s l p h
 exact chain_ok s h2 l 0 h1
end Go.Proofs.YtapciiffpnociabGreatDoor
namespace Go.Proofs
open Go.Shelf
def Tryz.lays172_ren:Go.Shelf.Ren:=⟨fun|172=>116|244=>121|245=>122|247=>128|279=>129|280=>130|281=>131|282=>132|287=>135|316=>136|171=>86|205=>137|321=>138|322=>139|243=>105|246=>115|283=>117|284=>118|285=>119|286=>120|129=>124|317=>123|318=>125|319=>126|320=>127|337=>133|338=>134|n=>n,fun|9=>9|3=>3|75=>60|76=>61|4=>4|5=>5|167=>145|37=>54|0=>0|85=>146|2=>2|168=>148|53=>131|175=>152|46=>143|210=>156|127=>96|145=>163|143=>161|21=>21|171=>130|173=>134|212=>139|51=>140|20=>20|213=>141|232=>158|233=>159|80=>66|n=>n,fun|15=>2|16=>3|17=>1|18=>4|19=>5|n=>n⟩
theorem Tryz.lays172:Go.Proofs.Lays.n172 Tryz.prog Tryz.lays172_ren:={
 mixed:=by kernel_rfl
 f129:=Tryz.func124.trans (congrArg some (by kernel_rfl))
 f171:=Tryz.func86.trans (congrArg some (by kernel_rfl))
 f172:=Tryz.func116.trans (congrArg some (by kernel_rfl))
 f205:=Tryz.func137.trans (congrArg some (by kernel_rfl))
 f243:=Tryz.func105.trans (congrArg some (by kernel_rfl))
 f244:=Tryz.func121.trans (congrArg some (by kernel_rfl))
 f245:=Tryz.func122.trans (congrArg some (by kernel_rfl))
 f246:=Tryz.func115.trans (congrArg some (by kernel_rfl))
 f247:=Tryz.func128.trans (congrArg some (by kernel_rfl))
 f279:=Tryz.func129.trans (congrArg some (by kernel_rfl))
 f280:=Tryz.func130.trans (congrArg some (by kernel_rfl))
 f281:=Tryz.func131.trans (congrArg some (by kernel_rfl))
 f282:=Tryz.func132.trans (congrArg some (by kernel_rfl))
 f283:=Tryz.func117.trans (congrArg some (by kernel_rfl))
 f284:=Tryz.func118.trans (congrArg some (by kernel_rfl))
 f285:=Tryz.func119.trans (congrArg some (by kernel_rfl))
 f286:=Tryz.func120.trans (congrArg some (by kernel_rfl))
 f287:=Tryz.func135.trans (congrArg some (by kernel_rfl))
 f316:=Tryz.func136.trans (congrArg some (by kernel_rfl))
 f317:=Tryz.func123.trans (congrArg some (by kernel_rfl))
 f318:=Tryz.func125.trans (congrArg some (by kernel_rfl))
 f319:=Tryz.func126.trans (congrArg some (by kernel_rfl))
 f320:=Tryz.func127.trans (congrArg some (by kernel_rfl))
 f321:=Tryz.func138.trans (congrArg some (by kernel_rfl))
 f322:=Tryz.func139.trans (congrArg some (by kernel_rfl))
 f337:=Tryz.func133.trans (congrArg some (by kernel_rfl))
 f338:=Tryz.func134.trans (congrArg some (by kernel_rfl))
 t0:=Tryz.underlying0
 a0:=Tryz.isAgg0
 z0:=Tryz.sizeOf0
 v0:=Tryz.zeroValue0
 t2:=Tryz.underlying2
 a2:=Tryz.isAgg2
 z2:=Tryz.sizeOf2
 v2:=Tryz.zeroValue2
 t3:=Tryz.underlying3
 a3:=Tryz.isAgg3
 z3:=Tryz.sizeOf3
 v3:=Tryz.zeroValue3
 t4:=Tryz.underlying4
 a4:=Tryz.isAgg4
 z4:=Tryz.sizeOf4
 v4:=Tryz.zeroValue4
 t5:=Tryz.underlying5
 a5:=Tryz.isAgg5
 z5:=Tryz.sizeOf5
 v5:=Tryz.zeroValue5
 t9:=Tryz.underlying9
 a9:=Tryz.isAgg9
 z9:=Tryz.sizeOf9
 v9:=Tryz.zeroValue9
 t20:=Tryz.underlying20
 a20:=Tryz.isAgg20
 z20:=Tryz.sizeOf20
 v20:=Tryz.zeroValue20
 t21:=Tryz.underlying21
 a21:=Tryz.isAgg21
 z21:=Tryz.sizeOf21
 v21:=Tryz.zeroValue21
 t37:=Tryz.underlying54
 a37:=Tryz.isAgg54
 z37:=Tryz.sizeOf54
 v37:=Tryz.zeroValue54
 t46:=Tryz.underlying143
 a46:=Tryz.isAgg143
 z46:=Tryz.sizeOf143
 v46:=Tryz.zeroValue143
 t51:=Tryz.underlying140
 a51:=Tryz.isAgg140
 z51:=Tryz.sizeOf140
 v51:=Tryz.zeroValue140
 t53:=Tryz.underlying131
 a53:=Tryz.isAgg131
 z53:=Tryz.sizeOf131
 v53:=Tryz.zeroValue131
 t75:=Tryz.underlying60
 a75:=Tryz.isAgg60
 z75:=Tryz.sizeOf60
 v75:=Tryz.zeroValue60
 t76:=Tryz.underlying61
 a76:=Tryz.isAgg61
 z76:=Tryz.sizeOf61
 v76:=Tryz.zeroValue61
 t85:=Tryz.underlying146
 a85:=Tryz.isAgg146
 z85:=Tryz.sizeOf146
 v85:=Tryz.zeroValue146
 t127:=Tryz.underlying96
 a127:=Tryz.isAgg96
 z127:=Tryz.sizeOf96
 v127:=Tryz.zeroValue96
 t143:=Tryz.underlying161
 a143:=Tryz.isAgg161
 z143:=Tryz.sizeOf161
 v143:=Tryz.zeroValue161
 t145:=Tryz.underlying163
 a145:=Tryz.isAgg163
 z145:=Tryz.sizeOf163
 v145:=Tryz.zeroValue163
 t167:=Tryz.underlying145
 a167:=Tryz.isAgg145
 z167:=Tryz.sizeOf145
 v167:=Tryz.zeroValue145
 t168:=Tryz.underlying148
 a168:=Tryz.isAgg148
 z168:=Tryz.sizeOf148
 v168:=Tryz.zeroValue148
 t171:=Tryz.underlying130
 a171:=Tryz.isAgg130
 z171:=Tryz.sizeOf130
 v171:=Tryz.zeroValue130
 t173:=Tryz.underlying134
 a173:=Tryz.isAgg134
 z173:=Tryz.sizeOf134
 v173:=Tryz.zeroValue134
 t175:=Tryz.underlying152
 a175:=Tryz.isAgg152
 z175:=Tryz.sizeOf152
 v175:=Tryz.zeroValue152
 t210:=Tryz.underlying156
 a210:=Tryz.isAgg156
 z210:=Tryz.sizeOf156
 v210:=Tryz.zeroValue156
 t212:=Tryz.underlying139
 a212:=Tryz.isAgg139
 z212:=Tryz.sizeOf139
 v212:=Tryz.zeroValue139
 t213:=Tryz.underlying141
 a213:=Tryz.isAgg141
 z213:=Tryz.sizeOf141
 t232:=Tryz.underlying158
 a232:=Tryz.isAgg158
 z232:=Tryz.sizeOf158
 v232:=Tryz.zeroValue158
 t233:=Tryz.underlying159
 a233:=Tryz.isAgg159
 z233:=Tryz.sizeOf159
 v233:=Tryz.zeroValue159
 g15:=by kernel_rfl
 g16:=by kernel_rfl
 g17:=by kernel_rfl
 g18:=by kernel_rfl
 g19:=by kernel_rfl }
end Go.Proofs
