/- Several texts in one: GxAny GxReg GxSim. Condition: none. -/
import Derived.Test.YtapciiffpnociadGreatT06
open Array renaming mem_toList_iff→Gs,toList_append→Cd
open Bool renaming and_eq_true→Ae,false_or→B9,not_true→E5,or_eq_true→Dz
open List renaming all_append→Dj,all_eq_true→B5,any_eq_true→Ho,cons_append→C6,filterMap_cons→Bn,flatMap_def→Hn,map_congr_left→C7,map_cons→A3,mem_append_left→Ax,mem_append_right→B1,mem_cons→Bh,mem_cons_of_mem→Ag,mem_cons_self→Ac,mem_singleton→A1,pairwise_append→Gu
open Nat renaming beq→Aw,ble→C0,blt→Av,eq_of_beq_eq_true→Ao,le_of_ble_eq_true→Ab,le_refl→Ah,not_lt_zero→A9,zero_le→Ak
namespace Go.Proofs.YtapciiffpnociadGreat
section
open Go Go.RowKit
def iy (ops:List Oper) (ℓ:Nat->SV):Option (Nat×Bool)->Option Bool
 | none=>some true
 | some (j,want)=>match nl ops j with
  | some o=>match o.dst with
   | some t=>match ℓ t with
    | .d (.bool true)=>some want
    | .d (.bool false)=>some (!want)
    | .tup []=>some false
    | _=>none
   | none=>none
  | none=>none
theorem jh (ops:List Oper) (L:Sl) (g:Option (Nat×Bool)):iy ops L.get g=au ops L g:=by
 cases g with
 | none=>rfl
 | some q=>rfl
def ph (ops:List Oper) (i j:Nat):Bool:=match nl ops i with
 | some o=>o.after.toList.any λe=>Region.binds .any e && Aw e.on j
 | none=>false
def t7 (ops:List Oper) (i j:Nat):Bool:=ph ops i j || match nl ops i with
 | some o=>o.after.toList.any λe=>Region.binds .any e && ph ops e.on j
 | none=>false
def tmpOf:Operand->List Nat
 | .tmp t=>[t]
 | _=>[]
def usesG (ops:List Oper):Option (Nat×Bool)->List Nat
 | some (j,_)=>match nl ops j with
  | some oj=>oj.dst.toList
  | none=>[]
 | none=>[]
def usesO (ops:List Oper) (o:Oper):List Nat:=o.op.operands.toList.flatMap tmpOf++usesG ops o.guard
def nin:Option Nat->List Nat->Bool
 | some d,l=>notIn d l
 | none,_=>true
def apartO (ops:List Oper) (a b:Oper):Bool:=nin a.dst (usesO ops b) && (nin b.dst (usesO ops a) && nin a.dst b.dst.toList)
def isCall (o:Oper):Bool:=match o.op with
 | .call { callee:=.value _,.. }=>true
 | .buildSlice _ n _=>Aw n 0
 | .lookup ..=>true
 | _=>false
def SV.nm:SV->Option Nat
 | .loc i _=>some i
 | .row i=>some i
 | .mp i=>some i
 | .prow i _ _ _=>some i
 | .sl i _ _ _=>some i
 | .rsl i _ _ _=>some i
 | _=>none
def rdsR (g:Operand->SV):Op->List Nat
 | .buildSlice _ _ ps=>ps.toList.flatMap λp=>rowsA (g p.2)
 | _=>[]
def ld (g:Operand->SV) (op:Op):List Nat:=(op.operands.toList.filterMap λx=>(g x).nm)++rdsR g op
def vl:List Nat->List Nat->Bool
 | [],_=>true
 | i::r,l=>notIn i l && vl r l
theorem s9:∀ {l r:List Nat},vl l r=true->∀ i,i∈l->i ∉ r
 | [],_,_,i,h=>by simp at h
 | j::l,r,h,i,hi=>by
  simp only [vl,Ae] at h
  rcases List.mem_cons.1 hi with rfl|hi
  ·exact gm _ _ h.1
  ·exact s9 h.2 i hi
theorem disj_of:∀ {l r:List Nat},(∀ i,i∈l->i ∉ r)->vl l r=true
 | [],_,_=>rfl
 | j::l,r,h=>by
  simp only [vl,Ae]
  exact⟨nz (h j (Ac ..)),disj_of λi hi=>h i (Ag _ hi)⟩
abbrev Log:=List (Nat×List Nat×List Nat)
def f8 (ops:List Oper) (i:Nat) (rd wr:List Nat):Log->Bool
 | []=>true
 | q::lg=>((vl q.2.2 rd && (vl wr q.2.1 && vl wr q.2.2)) || (t7 ops i q.1 || ph ops q.1 i)) && f8 ops i rd wr lg
theorem okLog_spec {ops:List Oper} {i:Nat} {rd wr:List Nat}:∀ {lg:Log},f8 ops i rd wr lg=true↔∀ q∈lg,((vl q.2.2 rd && (vl wr q.2.1 && vl wr q.2.2)) || (t7 ops i q.1 || ph ops q.1 i))=true
 | []=>by simp [f8]
 | q::lg=>by simp only [f8,Ae,okLog_spec (lg:=lg),Bh,forall_eq_or_imp]
section
variable {τ : List (Nat×TI)} {g g' : Operand -> SV} {η η' : Nat -> Option HB}
theorem loadC_congr {t:TypeId} {s:SV} (h:∀ i,s.nm=some i->η i=η' i):sy τ t s η=sy τ t s η':=by
 cases s with
 | loc i o=>simp only [sy,h i rfl]
 | _=>rfl
theorem loadP_congr {t:TypeId} {s:SV} (h:∀ i,s.nm=some i->η i=η' i):loadP τ t s η=loadP τ t s η':=by
 cases s with
 | prow i j es o=>simp only [loadP,h i rfl]
 | _=>exact loadC_congr (τ:=τ) (t:=t) h
theorem indexP_congr {t:TypeId} {a b:SV} (h:∀ i,a.nm=some i->η i=η' i):indexP τ t a b η=indexP τ t a b η':=by
 cases a with
 | row i=>simp only [indexP,h i rfl]
 | _=>rfl
theorem lenC_congr {t:TypeId} {s:SV} (h:∀ i,s.nm=some i->η i=η' i):lenC τ t s η=lenC τ t s η':=by
 unfold lenC;split
 ·split
  ·rfl
  ·rfl
  ·rw [h _ rfl]
  ·rfl
  ·rfl
  ·rfl
 ·rfl
 ·rfl
theorem sliceC_congr {t:TypeId} {s:SV} {lo hi:Option SV} (h:∀ i,s.nm=some i->η i=η' i):sliceC τ t s lo hi η=sliceC τ t s lo hi η':=by
 cases s with
 | row i=>simp only [sliceC,h i rfl]
 | d x=>cases x<;>rfl
 | _=>rfl
theorem convC_congr {t t':TypeId} {s:SV} (h:∀ i,s.nm=some i->η i=η' i):convC τ t t' s η=convC τ t t' s η':=by
 unfold convC;split<;>first|rfl|rw [h _ rfl]
theorem evC_congr (op:Op) (hg:∀ x∈op.operands.toList,g x=g' x) (hη:∀ x∈op.operands.toList,∀ i,(g x).nm=some i->η i=η' i):evC τ g η op=evC τ g' η' op:=by
 cases op with
 | move x=>simp only [evC,hg x (by simp [Op.operands])]
 | assign x=>simp only [evC,hg x (by simp [Op.operands])]
 | pick c a b=>simp only [evC,hg c (by simp [Op.operands]),hg a (by simp [Op.operands]),hg b (by simp [Op.operands])]
 | binOp op t x y t'=>simp only [evC,hg x (by simp [Op.operands]),hg y (by simp [Op.operands])]
 | unOp op t x=>cases op<;>simp only [evC,hg x (by simp [Op.operands])]
 | load t x =>
  simp only [evC];rw [loadP_congr (hη x (by simp [Op.operands])),hg x (by simp [Op.operands])]
 | fieldAddr t x f=>simp only [evC,hg x (by simp [Op.operands])]
 | indexAddr t x y =>
  simp only [evC];rw [indexP_congr (hη x (by simp [Op.operands])),hg x (by simp [Op.operands]),hg y (by simp [Op.operands])]
 | index t x y=>simp only [evC,hg x (by simp [Op.operands]),hg y (by simp [Op.operands])]
 | slice t x lo hi mx =>
  cases mx with
  | some _=>rfl
  | none =>
   simp only [evC,hg x (by simp [Op.operands])];have h1:lo.map g=lo.map g':=by cases lo with
    | none=>rfl
    | some z=>simp [hg z (by simp [Op.operands])]
   have h2:hi.map g=hi.map g':=by cases hi with
    | none=>rfl
    | some z=>simp [hg z (by simp [Op.operands])]
   rw [h1,h2];exact sliceC_congr λi hi=>hη x (by simp [Op.operands]) i (by rw [hg x (by simp [Op.operands])];exact hi)
 | convert t t' x =>
  simp only [evC];rw [convC_congr (hη x (by simp [Op.operands])),hg x (by simp [Op.operands])]
 | nilCheck x=>simp only [evC,hg x (by simp [Op.operands])]
 | extract x i=>simp only [evC,hg x (by simp [Op.operands])]
 | makeFunc fn first captured =>
  cases fn with
  | func f =>
   simp only [evC];have:captured.toList.map g=captured.toList.map g':=C7 λx hx=>hg x (by simp [Op.operands] at hx ⊢;exact .inr hx)
   rw [this]
  | _=>rfl
 | build te ps =>
  simp only [evC];have:(ps.toList.map λp=>(p.1,g p.2))=ps.toList.map λp=>(p.1,g' p.2):=C7 λp hp=>by
   rw [hg p.2 (by simp [Op.operands];exact⟨p.1,by simpa using hp⟩)]
  rw [this]
 | call c =>
  obtain⟨callee,args,ts⟩:=c;cases callee with
  | builtin b =>
   cases b<;>try rfl
   case len =>
    obtain⟨al⟩:=args;obtain⟨tl⟩:=ts;simp only [evC];split
    ·rename_i x t;rw [lenC_congr (hη x (by simp [Op.operands,Call.operands])),hg x (by simp [Op.operands,Call.operands])]
    ·rfl
  | _=>rfl
 | _=>rfl
theorem storeC_congr {t:TypeId} {s b:SV} (h:∀ i,s.nm=some i->η i=η' i):qf τ t s b η=qf τ t s b η':=by
 cases s with
 | loc i o=>simp only [qf,h i rfl]
 | prow i j es o=>simp only [qf,h i rfl]
 | _=>rfl
theorem appendC_congr {t z:Nat} {s b:SV} (h:∀ i,s.nm=some i->η i=η' i):appendC τ t s b η z=appendC τ t s b η' z:=by
 rw [u9,u9];unfold ye;split
 ·split
  ·split
   ·rw [h _ rfl]
   ·rfl
  ·rfl
 ·rfl
theorem ry {t len:Nat} {ps:List (Nat×Operand)} (h:∀ p∈ps,g p.2=g' p.2):d9 τ g t len ps=d9 τ g' t len ps:=by
 unfold d9;have:(ps.map λp=>(p.1,g p.2))=ps.map λp=>(p.1,g' p.2):=C7 λp hp=>by rw [h p hp]
 rw [this]
theorem rowsA_congr {ps:List (Nat×Operand)} (h:∀ p∈ps,g p.2=g' p.2):(ps.flatMap λp=>rowsA (g p.2))=ps.flatMap λp=>rowsA (g' p.2):=by
 rw [Hn,Hn];congr 1;exact C7 λp hp=>by rw [h p hp]
theorem buildSliceR_congr {t len:Nat} {ps:List (Nat×Operand)} (h:∀ p∈ps,g p.2=g' p.2) (hη:∀ i∈ps.flatMap (λp=>rowsA (g p.2)),η i=η' i):mv τ g η t len ps=mv τ g' η' t len ps:=by
 unfold mv;rw [<- rowsA_congr h];cases hf:ps.flatMap λp=>rowsA (g p.2) with
 | nil=>exact ry h
 | cons i r =>
  cases r with
  | nil =>
   simp only;rw [hη i (by rw [hf];exact Ac ..)];cases η' i with
   | none=>rfl
   | some b =>
    cases b with
    | blk ty cs=>rfl
    | map kd kvs=>rfl
    | row te es xs =>
     simp only;rw [ry (g:=λx=>vc i es xs (g x)) (g':=λx=>vc i es xs (g' x)) λp hp=>by simp only [h p hp]]
  | cons _ _=>rfl
theorem rdsR_congr (op:Op) (h:∀ x∈op.operands.toList,g x=g' x):rdsR g op=rdsR g' op:=by
 cases op with
 | buildSlice t len ps=>exact rowsA_congr λp hp=>h p.2 (by simp [Op.operands];exact⟨p.1,by simpa using hp⟩)
 | _=>rfl
theorem stepC_congr (z:Nat) (dst:Option Nat) (op:Op) (hg:∀ x∈op.operands.toList,g x=g' x) (hη:∀ x∈op.operands.toList,∀ i,(g x).nm=some i->η i=η' i) (hR:∀ i,i∈rdsR g op->η i=η' i):iz τ g η z dst op=iz τ g' η' z dst op:=by
 have ev:=evC_congr (τ:=τ) op hg hη;cases dst with
 | none =>
  cases op with
  | store t x y =>
   simp only [iz];rw [storeC_congr (hη x (by simp [Op.operands])),hg x (by simp [Op.operands]),hg y (by simp [Op.operands])]
  | _=>rfl
 | some d =>
  simp only [iz];cases op with
  | alloc t=>rfl
  | box t x=>simp only [mj,hg x (by simp [Op.operands])]
  | makeSlice t x y=>simp only [mj,hg x (by simp [Op.operands]),hg y (by simp [Op.operands])]
  | buildSlice t len ps =>
   simp only [mj];exact buildSliceR_congr (λp hp=>hg p.2 (by simp [Op.operands];exact⟨p.1,by simpa using hp⟩)) hR
  | call c =>
   obtain⟨callee,args,ts⟩:=c;cases callee with
   | builtin b =>
    cases b;case append =>
     obtain⟨al⟩:=args;obtain⟨tl⟩:=ts;simp only [mj];split
     ·rename_i x y t t';rw [appendC_congr (hη x (by simp [Op.operands,Call.operands])),hg x (by simp [Op.operands,Call.operands]),hg y (by simp [Op.operands,Call.operands])]
     ·rfl
    all_goals (simp only [mj,ev])
   | _=>simp only [mj,ev]
  | _=>simp only [mj,ev]
end
theorem FS.op_app {s:FS} {z:Nat} {dst:Option Nat} {v:SV} {u:Up} {x:Operand} (h:nin dst (tmpOf x)=true):(s.app z dst v u).op x=s.op x:=by
 cases x with
 | tmp t =>
  cases dst with
  | none=>rfl
  | some d =>
   have:=gm _ _ h
   show (if d=t then v else s.ℓ t)=s.ℓ t;rw [if_neg (λhd=>this (by rw [hd];exact Ac ..))]
 | _=>rfl
theorem Up.app_out {u:Up} {z:Nat} {η:Nat->Option HB} {j:Nat} (h:j ∉ u.names z):u.app z η j=η j:=by
 cases u with
 | no=>rfl
 | new b=>exact if_neg λhj=>h (by rw [<- hj];exact Ac ..)
 | set i b=>exact if_neg λhj=>h (by rw [<- hj];exact Ac ..)
 | del i=>exact if_neg λhj=>h (by rw [<- hj];exact Ac ..)
 | trade i b =>
  show (if z=j then _ else (if i=j then none else η j))=η j;rw [if_neg λhj=>h (by rw [<- hj];simp [Up.names]),if_neg λhj=>h (by rw [<- hj];simp [Up.names])]
theorem Up.app_in {u:Up} {z:Nat} {η η':Nat->Option HB} {j:Nat} (h:j∈u.names z):u.app z η j=u.app z η' j:=by
 cases u with
 | no=>simp [Up.names] at h
 | new b=>simp only [Up.names,A1] at h;subst h;simp [Up.app,fset]
 | set i b=>simp only [Up.names,A1] at h;subst h;simp [Up.app,fset]
 | del i=>simp only [Up.names,A1] at h;subst h;simp [Up.app,fset]
 | trade i b =>
  simp only [Up.names,Bh,List.not_mem_nil,or_false] at h;show (if z=j then _ else (if i=j then none else η j))=(if z=j then _ else (if i=j then none else η' j));rcases h with rfl|rfl
  ·rw [if_pos rfl,if_pos rfl]
  ·rw [if_pos rfl,if_pos rfl]
theorem Up.comm {u u':Up} {z z':Nat} (h:vl (u.names z) (u'.names z')=true) (η:Nat->Option HB):u.app z (u'.app z' η)=u'.app z' (u.app z η):=by
 funext j;by_cases h1:j∈u.names z
 ·have h2:=s9 h j h1;rw [Up.app_out h2];exact Up.app_in h1
 ·rw [Up.app_out h1];by_cases h2:j∈u'.names z'
  ·exact Up.app_in h2
  ·rw [Up.app_out h2,Up.app_out h2,Up.app_out h1]
theorem FS.app_comm {s:FS} {z z':Nat} {d d':Option Nat} {v v':SV} {u u':Up} (hd:nin d d'.toList=true) (h:vl (u.names z) (u'.names z')=true):(s.app z d v u).app z' d' v' u'=(s.app z' d' v' u').app z d v u:=by
 have hl:((s.app z d v u).put d' v').ℓ=((s.app z' d' v' u').put d v).ℓ:=by
  funext t;cases d with
  | none=>cases d'<;>rfl
  | some x =>
   cases d' with
   | none=>rfl
   | some y =>
    have hne:x≠y:=λhe=>gm _ _ hd (by rw [he];exact Ac ..)
    show (if y=t then v' else if x=t then v else s.ℓ t)=(if x=t then v else if y=t then v' else s.ℓ t);by_cases h1:y=t
    ·rw [if_pos h1,if_neg (λh2=>hne (h2.trans h1.symm)),if_pos h1]
    ·rw [if_neg h1,if_neg h1]
 have hh:u'.app z' (u.app z s.η)=u.app z (u'.app z' s.η):=(Up.comm h s.η).symm;unfold FS.app;exact FS.mk.injEq ..▸⟨hl,hh⟩
theorem nin_flat {d:Option Nat} {xs:List Operand} (h:nin d (xs.flatMap tmpOf)=true):∀ x∈xs,nin d (tmpOf x)=true:=by
 intro x hx;cases d with
 | none=>rfl
 | some d=>exact nz λhm=>gm _ _ h (List.mem_flatMap.2 ⟨x,hx,hm⟩)
theorem nin_append {d:Option Nat} {l r:List Nat} (h:nin d (l++r)=true):nin d l=true/\nin d r=true:=by
 cases d with
 | none=>exact⟨rfl,rfl⟩
 | some d=>exact⟨nz λhm=>gm _ _ h (Ax _ hm),nz λhm=>gm _ _ h (B1 _ hm)⟩
theorem nin_uses {ops:List Oper} {d:Option Nat} {o:Oper} (h:nin d (usesO ops o)=true):(∀ x∈o.op.operands.toList,nin d (tmpOf x)=true)/\nin d (usesG ops o.guard)=true :=
 ⟨nin_flat (nin_append h).1,(nin_append h).2⟩
theorem wantedF_app {ops:List Oper} {s:FS} {z:Nat} {dst:Option Nat} {v:SV} {u:Up} {gd:Option (Nat×Bool)} (h:nin dst (usesG ops gd)=true):iy ops (s.app z dst v u).ℓ gd=iy ops s.ℓ gd:=by
 cases dst with
 | none=>rfl
 | some d =>
  cases gd with
  | none=>rfl
  | some q =>
   obtain⟨j,want⟩:=q;simp only [iy,usesG] at h ⊢;cases ho:nl ops j with
   | none=>rfl
   | some o =>
    simp only [ho] at h ⊢;cases hd:o.dst with
    | none=>rfl
    | some t =>
     simp only [hd] at h ⊢;have hne:d≠t:=λhe=>gm _ _ h (by rw [he];exact Ac ..)
     have:(s.app z (some d) v u).ℓ t=s.ℓ t:=if_neg hne
     rw [this]
def knowsF (ρ:Nat->Nat) (η:Nat->Option HB):Hp->Prop
 | []=>True
 | (i,b)::r=>η (ρ i)=some (b.ren ρ)/\knowsF ρ η r
theorem knowsF_is (ρ:Nat->Nat) (H:Hp):∀ Hc:Hp,knowsF ρ (Hp.get H) Hc↔KnowsH ρ H Hc
 | []=>Iff.rfl
 | (_,_)::r=>and_congr Iff.rfl (knowsF_is ρ H r)
theorem uo {ρ:Nat->Nat} {η η':Nat->Option HB}:∀ {Hc:Hp},(∀ i,i∈Hc.map (λp=>ρ p.1)->η i=η' i)->knowsF ρ η Hc->knowsF ρ η' Hc
 | [],_,_=>trivial
 | (i,b)::r,h,⟨h1,h2⟩=>⟨by rw [<- h (ρ i) (Ac ..)];exact h1,uo (λj hj=>h j (Ag _ hj)) h2⟩
def yg (J:Nat):Hp->Bool
 | []=>true
 | (i,_)::r=>Av i J && yg J r
theorem allBelow_spec {J:Nat}:∀ {H:Hp},yg J H=true->∀ p∈H,p.1<J
 | [],_,p,hp=>by simp at hp
 | (i,b)::r,h,p,hp=>by
  simp only [yg,Ae] at h
  rcases List.mem_cons.1 hp with rfl|hp
  ·exact Ab h.1
  ·exact allBelow_spec h.2 p hp
inductive Mv (Γ:Ctx) (ops:List Oper) (κ:Nat) (s:FS) (i:Nat) (o:Oper):Bool->(SV->Up->Prop)->List Nat->List Nat->Prop
 | skip:iy ops s.ℓ o.guard=some false->dstOk Γ o.dst=true->Mv Γ ops κ s i o false (λv u=>v = .tup []/\u = .no) [] []
 | step (p:Prop) (v0:SV) (u0:Up):iy ops s.ℓ o.guard=some true->iz Γ.τ s.op s.η (κ+i) o.dst o.op=some (p,v0,u0)->p->u0.okD Γ.dr->bz o.op=true->dstOk Γ o.dst=true ->
   Mv Γ ops κ s i o false (λv u=>v=v0/\u=u0) (ld s.op o.op) (u0.names (κ+i))
 | call (d:Nat) (f:FuncId) (x:Operand) (caps:List SV) (xs:List Operand) (ts:Array TypeId) (R:SV->Prop):iy ops s.ℓ o.guard=some true->o.op = .call { callee:=.value x,args:=xs.toArray,argTypes:=ts }->o.dst=some d->s.op x = .fn f caps ->
   FnP Γ.dr Γ.P Γ.τ Γ.τok f (xs.map s.op++caps) R->SV.lowL 0 (xs.map s.op++caps)=true->bz o.op=true->Av d Γ.n=true->Mv Γ ops κ s i o true (λv u=>R v/\u = .no) [] []
 | callR (d:Nat) (f:FuncId) (x:Operand) (caps:List SV) (xs:List Operand) (ts:Array TypeId) (ρ:Nat->Nat) (args:List SV) (J:Nat) (Hc:Hp) (R:SV->Prop):iy ops s.ℓ o.guard=some true->o.op = .call { callee:=.value x,args:=xs.toArray,argTypes:=ts }->o.dst=some d->s.op x = .fn f caps ->
   FnOk Γ.dr Γ.P Γ.τ Γ.τok f args J J Hc (λ_ r H2=>R r/\H2=Hc)->xs.map s.op++caps=SV.renL ρ args->SV.lowL J args=true->knowsF ρ s.η Hc->Hp.low J Hc=true->aw (Hc.map λp=>ρ p.1)=true->aw (Hc.map (·.1))=true->yf J (Hc.map (·.1))=true->yg J Hc=true ->
   (∀ r,R r->r.low 0=true/\r.rowsGe J=true)->Hp.rowsGe J Hc=true->bz o.op=true->Av d Γ.n=true->Mv Γ ops κ s i o true (λv u=>R v/\u = .no) (Hc.map λp=>ρ p.1) []
 | callW (d:Nat) (f:FuncId) (x:Operand) (caps:List SV) (xs:List Operand) (ts:Array TypeId) (te:TypeId) (es:Nat) (R:List (List D)->Prop):iy ops s.ℓ o.guard=some true->o.op = .call { callee:=.value x,args:=xs.toArray,argTypes:=ts }->o.dst=some d->s.op x = .fn f caps ->
   FnRow Γ.dr Γ.P Γ.τ Γ.τok f (xs.map s.op++caps) te es R->SV.lowL 0 (xs.map s.op++caps)=true->bz o.op=true->Av d Γ.n=true->Mv Γ ops κ s i o true (λv u=>∃ ys,R ys/\v = .row (κ+i)/\u = .new (.row te es ys)) [] [κ+i]
 | callT (d:Nat) (f:FuncId) (xs:List Operand) (ts:Array TypeId) (j:Nat) (args:List SV) (te0 te:TypeId) (es0 es:Nat) (ds:List (List D)) (R:List (List D)->Prop):iy ops s.ℓ o.guard=some true->o.op = .call { callee:=.value (.func f),args:=xs.toArray,argTypes:=ts }->o.dst=some d ->
   FnTr Γ.dr Γ.P Γ.τ Γ.τok f args te0 es0 ds te es R->xs.map s.op=SV.renL (λ_=>j) args->SV.lowL 1 args=true->s.η j=some (.row te0 es0 ds)->bz o.op=true->Av d Γ.n=true->Γ.dr=false ->
   Mv Γ ops κ s i o true (λv u=>∃ ys,R ys/\v = .row (κ+i)/\u = .trade j (.row te es ys)) [j] [j,κ+i]
 | callB (d:Nat) (f:FuncId) (xs:List Operand) (ts:Array TypeId) (j:Nat) (args:List SV) (ty:TypeId) (cs:List SV) (R:SV->List SV->Prop):iy ops s.ℓ o.guard=some true->o.op = .call { callee:=.value (.func f),args:=xs.toArray,argTypes:=ts }->o.dst=some d ->
   FnBl Γ.dr Γ.P Γ.τ Γ.τok f args ty cs R->xs.map s.op=SV.renL (λ_=>j) args->SV.lowL 1 args=true->s.η j=some (.blk ty cs)->SV.lowL 0 cs=true->bz o.op=true->Av d Γ.n=true ->
   Mv Γ ops κ s i o true (λv u=>∃ cs',R v cs'/\u = .set j (.blk ty cs')) [j] [j]
 | look (d:Nat) (j:Nat) (v0:SV):iy ops s.ℓ o.guard=some true->isCall o=true->o.dst=some d->(∀ (k:Nat->Prop) (L:Sl) (H:Hp),(∀ x∈o.op.operands.toList,ap L x=s.op x)->Hp.get H j=s.η j->Ev Γ k L H o.op o.type v0)->Av d Γ.n=true ->
   Mv Γ ops κ s i o true (λv u=>v=v0/\u = .no) [j] []
 | bs0 (d:Nat) (t te:TypeId) (es:Nat):iy ops s.ℓ o.guard=some true->o.op = .buildSlice t 0 #[]->o.dst=some d->(aj Γ.τ t).sh = .slice te->(aj Γ.τ te).sh.known=true->(aj Γ.τ te).cells=es->Av 0 es=true ->
   gk (aj Γ.τ te).zero=true->Aw (aj Γ.τ te).zero.length (aj Γ.τ te).cells=true->Av d Γ.n=true->Mv Γ ops κ s i o true (λv u=>v = .row (κ+i)/\u = .new (.row te es [])) [] [κ+i]
inductive DR (Γ:Ctx) (ops:List Oper) (κ:Nat):List (Nat×Oper)->Log->(FS->Prop)->FS->Prop
 | nil {lg K s}:K s->DR Γ ops κ [] lg K s
 | cons {i:Nat} {o:Oper} {rest lg K s} (c:Bool) (S:SV->Up->Prop) (rd wr:List Nat):Mv Γ ops κ s i o c S rd wr->f8 ops i rd wr lg=true->(∃ v u,S v u)->(∀ v u,S v u->u.names (κ+i)=wr) ->
   (∀ v u,S v u->DR Γ ops κ rest ((i,rd,wr)::lg) K (s.app (κ+i) o.dst v u))->DR Γ ops κ ((i,o)::rest) lg K s
section
variable {Γ : Ctx} {ops : List Oper} {κ : Nat} {s : FS} {i j : Nat} {o oi oj : Oper} {c : Bool} {S S' : SV -> Up -> Prop} {rd wr rd' wr' : List Nat}
theorem Mv.det (h:Mv Γ ops κ s i o false S rd wr) (h':Mv Γ ops κ s i o false S' rd' wr'):S=S'/\rd=rd'/\wr=wr':=by
 cases h with
 | skip hw _ =>
  cases h' with
  | skip _ _=>exact⟨rfl,rfl,rfl⟩
  | step _ _ _ hw'=>rw [hw] at hw';cases hw'
 | step p v0 u0 hw hs _ _ _ _ =>
  cases h' with
  | skip hw' _=>rw [hw] at hw';cases hw'
  | step p' v0' u0' _ hs' _ _ _ _ =>
   rw [hs] at hs';cases hs';exact⟨rfl,rfl,rfl⟩
theorem Mv.call_is (h:Mv Γ ops κ s i o true S rd wr):isCall o=true:=by
 cases h with
 | call d f x caps xs ts R _ ho=>unfold isCall;rw [ho]
 | callR d f x caps xs ts ρ args J Hc R _ ho=>unfold isCall;rw [ho]
 | callW d f x caps xs ts te es R _ ho=>unfold isCall;rw [ho]
 | callT d f xs ts j args te0 te es0 es ds R _ ho=>unfold isCall;rw [ho]
 | callB d f xs ts j args ty cs R _ ho=>unfold isCall;rw [ho]
 | look d j v0 _ hc=>exact hc
 | bs0 d t te es _ ho=>unfold isCall;rw [ho];rfl
theorem Mv.one (h:Mv Γ ops κ s i o false S rd wr) {v u v' u'} (h1:S v u) (h2:S v' u'):v=v'/\u=u':=by
 cases h with
 | skip=>exact⟨h1.1.trans h2.1.symm,h1.2.trans h2.2.symm⟩
 | step=>exact⟨h1.1.trans h2.1.symm,h1.2.trans h2.2.symm⟩
theorem Mv.move {z:Nat} {dst:Option Nat} {v:SV} {u:Up} (ha:nin dst (usesO ops o)=true) (hd:∀ i,i∈rd->i ∉ u.names z):Mv Γ ops κ (s.app z dst v u) i o c S rd wr↔Mv Γ ops κ s i o c S rd wr:=by
 obtain⟨h1,h2⟩:=nin_uses ha;have hop:∀ x∈o.op.operands.toList,(s.app z dst v u).op x=s.op x:=λx hx=>FS.op_app (h1 x hx)
 have hw:iy ops (s.app z dst v u).ℓ o.guard=iy ops s.ℓ o.guard:=wantedF_app h2;have hrd:ld (s.app z dst v u).op o.op=ld s.op o.op:=by
  unfold ld;rw [n8 (g:=λx=>(s.op x).nm) λx hx=>by rw [hop x hx],rdsR_congr o.op hop]
 have hst:(∀ i,i∈ld s.op o.op->i ∉ u.names z)->iz Γ.τ (s.app z dst v u).op (s.app z dst v u).η (κ+i) o.dst o.op=iz Γ.τ s.op s.η (κ+i) o.dst o.op:=λhd =>
  stepC_congr _ _ _ hop (λx hx i hi=>Up.app_out (hd i (Ax _ (List.mem_filterMap.2 ⟨x,hx,by rw [<- hop x hx];exact hi⟩)))) λi hi=>Up.app_out (hd i (B1 _ (by rw [<- rdsR_congr o.op hop];exact hi)))
 have hcall:∀ (x:Operand) (xs:List Operand) (ts:Array TypeId),o.op = .call { callee:=.value x,args:=xs.toArray,argTypes:=ts }->(s.app z dst v u).op x=s.op x/\xs.map (s.app z dst v u).op=xs.map s.op:=by
  intro x xs ts ho;exact⟨hop x (by rw [ho];simp [Op.operands,Call.operands]),C7 λy hy=>hop y (by rw [ho];simp [Op.operands,Call.operands,hy])⟩
 constructor
 ·intro h;cases h with
  | skip a b=>exact .skip (hw▸a) b
  | step p v0 u0 a b c d e f=>exact hrd▸.step p v0 u0 (hw▸a) (hst (hrd▸hd)▸b) c d e f
  | call d f x caps xs ts R a b c e g h k l =>
   obtain⟨q1,q2⟩:=hcall x xs ts b;rw [q1] at e;rw [q2] at g h;exact .call d f x caps xs ts R (hw▸a) b c e g h k l
  | callR d f x caps xs ts ρ args J Hc R a b c e g h i j k l m n o' p q r t =>
   obtain⟨q1,q2⟩:=hcall x xs ts b;rw [q1] at e;rw [q2] at h;exact .callR d f x caps xs ts ρ args J Hc R (hw▸a) b c e g h i (uo (λy hy=>Up.app_out (hd y hy)) j) k l m n o' p q r t
  | callW d f x caps xs ts te es R a b c e g h k l =>
   obtain⟨q1,q2⟩:=hcall x xs ts b;rw [q1] at e;rw [q2] at g h;exact .callW d f x caps xs ts te es R (hw▸a) b c e g h k l
  | callT d f xs ts j args te0 te es0 es ds R a b c e g h k l m n =>
   obtain⟨_,q2⟩:=hcall (.func f) xs ts b;rw [q2] at g;have k':u.app z s.η j=some (.row te0 es0 ds):=k;rw [Up.app_out (hd j (Ac ..))] at k';exact .callT d f xs ts j args te0 te es0 es ds R (hw▸a) b c e g h k' l m n
  | callB d f xs ts j args ty cs R a b c e g h k l m n =>
   obtain⟨_,q2⟩:=hcall (.func f) xs ts b;rw [q2] at g;have k':u.app z s.η j=some (.blk ty cs):=k;rw [Up.app_out (hd j (Ac ..))] at k';exact .callB d f xs ts j args ty cs R (hw▸a) b c e g h k' l m n
  | look d j v0 a b c e f=>exact .look d j v0 (hw▸a) b c (λk L H h1 h2=>e k L H (λx hx=>(h1 x hx).trans (hop x hx).symm) (h2.trans (Up.app_out (hd j (Ac ..))).symm)) f
  | bs0 d t te es a b c e f g h j k l=>exact .bs0 d t te es (hw▸a) b c e f g h j k l
 ·intro h;cases h with
  | skip a b=>exact .skip (hw▸a) b
  | step p v0 u0 a b c d e f=>exact hrd▸.step p v0 u0 (hw▸a) ((hst hd).symm▸b) c d e f
  | call d f x caps xs ts R a b c e g h k l =>
   obtain⟨q1,q2⟩:=hcall x xs ts b;rw [<- q1] at e;rw [<- q2] at g h;exact .call d f x caps xs ts R (hw▸a) b c e g h k l
  | callR d f x caps xs ts ρ args J Hc R a b c e g h i j k l m n o' p q r t =>
   obtain⟨q1,q2⟩:=hcall x xs ts b;rw [<- q1] at e;rw [<- q2] at h;exact .callR d f x caps xs ts ρ args J Hc R (hw▸a) b c e g h i (uo (λy hy=>(Up.app_out (hd y hy)).symm) j) k l m n o' p q r t
  | callW d f x caps xs ts te es R a b c e g h k l =>
   obtain⟨q1,q2⟩:=hcall x xs ts b;rw [<- q1] at e;rw [<- q2] at g h;exact .callW d f x caps xs ts te es R (hw▸a) b c e g h k l
  | callT d f xs ts j args te0 te es0 es ds R a b c e g h k l m n =>
   obtain⟨_,q2⟩:=hcall (.func f) xs ts b;rw [<- q2] at g;exact .callT d f xs ts j args te0 te es0 es ds R (hw▸a) b c e g h ((Up.app_out (hd j (Ac ..))).trans k) l m n
  | callB d f xs ts j args ty cs R a b c e g h k l m n =>
   obtain⟨_,q2⟩:=hcall (.func f) xs ts b;rw [<- q2] at g;exact .callB d f xs ts j args ty cs R (hw▸a) b c e g h ((Up.app_out (hd j (Ac ..))).trans k) l m n
  | look d j v0 a b c e f=>exact .look d j v0 (hw▸a) b c (λk L H h1 h2=>e k L H (λx hx=>(h1 x hx).trans (hop x hx)) (h2.trans (Up.app_out (hd j (Ac ..))))) f
  | bs0 d t te es a b c e f g h j k l=>exact .bs0 d t te es (hw▸a) b c e f g h j k l
end
end
section
open Go Go.RowKit
section
variable {Γ : Ctx} {ops : List Oper} {κ : Nat} {s : FS} {i j : Nat} {o oi oj : Oper}
theorem okLog_sub {rd wr:List Nat} {lg lg':Log} (h:∀ q∈lg',q∈lg) (hk:f8 ops i rd wr lg=true):f8 ops i rd wr lg'=true :=
 okLog_spec.2 λq hq=>okLog_spec.1 hk q (h q hq)
theorem DR.log_sub {l:List (Nat×Oper)} {lg lg':Log} {K:FS->Prop} (h:DR Γ ops κ l lg K s) (hs:∀ q∈lg',q∈lg):DR Γ ops κ l lg' K s:=by
 induction h generalizing lg' with
 | nil h=>exact .nil h
 | cons c S rd wr hm hl hne hn _ ih =>
  refine .cons c S rd wr hm (okLog_sub hs hl) hne hn λv u hv=>ih v u hv λq hq=>?_
  rcases List.mem_cons.1 hq with rfl|hq
  ·exact Ac ..
  ·exact Ag _ (hs q hq)
theorem notIn_comm {l r:List Nat} (h:vl l r=true):vl r l=true:=disj_of λi hi hl=>s9 h i hl hi
def swapOk (ops:List Oper) (j:Nat) (oj:Oper) (i:Nat) (oi:Oper):Prop :=
 t7 ops i j=false/\ph ops j i=false/\apartO ops oj oi=true/\(isCall oj=true->isCall oi=false)
theorem DR.swap {rest:List (Nat×Oper)} {lg:Log} {K:FS->Prop} (hs:swapOk ops j oj i oi) (h:DR Γ ops κ ((j,oj)::(i,oi)::rest) lg K s):DR Γ ops κ ((i,oi)::(j,oj)::rest) lg K s:=by
 obtain⟨e1,e2,hap,hcc⟩:=hs;simp only [apartO,Ae] at hap;obtain⟨a1,a2,a3⟩:=hap;have a3':nin oi.dst oj.dst.toList=true:=by
  cases hi:oi.dst with
  | none=>rfl
  | some x =>
   cases hj:oj.dst with
   | none=>rfl
   | some y =>
    rw [hi,hj] at a3;refine nz λhm=>gm _ _ a3 ?_
    simp only [Option.toList,A1] at hm ⊢;exact hm.symm
 cases h with
 | cons cj Sj rdj wrj hmj hlj hnej hnj hkj =>
  obtain⟨v0,u0,h0⟩:=hnej;have hk0:=hkj v0 u0 h0;have second:∀ v u,Sj v u->∃ ci Si rdi wri,Mv Γ ops κ s i oi ci Si rdi wri/\f8 ops i rdi wri lg=true/\vl wrj rdi=true/\vl wri rdj=true/\vl wri wrj=true/\(∃ v u,Si v u)/\(∀ v u,Si v u->u.names (κ+i)=wri) /\
    ∀ vi ui,Si vi ui->DR Γ ops κ rest ((i,rdi,wri)::(j,rdj,wrj)::lg) K ((s.app (κ+j) oj.dst v u).app (κ+i) oi.dst vi ui):=by
   intro v u hv;have hk:=hkj v u hv;cases hk with
   | cons ci Si rdi wri hmi hli hnei hni hki =>
    simp only [f8,Ae,e1,e2,Bool.or_false] at hli;obtain⟨⟨d1,d2,d3⟩,hl⟩:=hli;have hmi':=(Mv.move a1 (λx hx hu=>s9 d1 x (by rw [<- hnj v u hv];exact hu) hx)).1 hmi;exact⟨ci,Si,rdi,wri,hmi',hl,d1,d2,d3,hnei,hni,hki⟩
  obtain⟨ci,Si,rdi,wri,hmi,hli,d1,d2,d3,hnei,hni,hki⟩:=second v0 u0 h0;refine .cons ci Si rdi wri hmi hli hnei hni λvi ui hvi=>?_
  have hnui:=hni vi ui hvi;have hmj':Mv Γ ops κ (s.app (κ+i) oi.dst vi ui) j oj cj Sj rdj wrj:=(Mv.move a2 (λx hx hu=>s9 d2 x (by rw [<- hnui];exact hu) hx)).2 hmj;refine .cons cj Sj rdj wrj hmj' ?_ ⟨v0,u0,h0⟩ hnj λvj uj hvj=>?_
  ·simp only [f8,Ae,Dz];exact⟨.inl ⟨d2,d1,notIn_comm d3⟩,hlj⟩
  ·have hcomm:(s.app (κ+i) oi.dst vi ui).app (κ+j) oj.dst vj uj=(s.app (κ+j) oj.dst vj uj).app (κ+i) oi.dst vi ui :=
    FS.app_comm a3' (by rw [hnui,hnj vj uj hvj];exact d3)
   rw [hcomm];have hlog:∀ q∈((j,rdj,wrj)::(i,rdi,wri)::lg),q∈((i,rdi,wri)::(j,rdj,wrj)::lg):=λq hq=>by
    simp only [Bh] at hq ⊢;rcases hq with h|h|h
    ·exact .inr (.inl h)
    ·exact .inl h
    ·exact .inr (.inr h)
   cases cj with
   | false =>
    obtain⟨r1,r2⟩:=Mv.one hmj hvj h0;subst r1;subst r2;exact (hki vi ui hvi).log_sub hlog
   | true =>
    have hci:=hcc (Mv.call_is hmj);obtain⟨ci',Si',rdi',wri',hmi',_,_,_,_,_,_,hki'⟩:=second vj uj hvj;have f1:ci=false:=by
     cases ci with
     | false=>rfl
     | true=>rw [Mv.call_is hmi] at hci;cases hci
    have f2:ci'=false:=by
     cases ci' with
     | false=>rfl
     | true=>rw [Mv.call_is hmi'] at hci;cases hci
    subst f1;subst f2;obtain⟨r1,r2,r3⟩:=Mv.det hmi hmi';subst r1;subst r2;subst r3;exact (hki' vi ui hvi).log_sub hlog
theorem DR.mono {l:List (Nat×Oper)} {lg:Log} {K K':FS->Prop} (h:DR Γ ops κ l lg K s) (hK:∀ s,K s->K' s):DR Γ ops κ l lg K' s:=by
 induction h with
 | nil h=>exact .nil (hK _ h)
 | cons c S rd wr hm hl hne hn _ ih=>exact .cons c S rd wr hm hl hne hn λv u hv=>ih v u hv hK
theorem DR.pull {post:List (Nat×Oper)} {K:FS->Prop}:∀ (pre:List (Nat×Oper)) (lg:Log) (s:FS),(∀ q∈pre,swapOk ops q.1 q.2 i oi)->DR Γ ops κ (pre++(i,oi)::post) lg K s->DR Γ ops κ ((i,oi)::(pre++post)) lg K s
 | [],_,_,_,h=>h
 | (j,oj)::pre,lg,s,hs,h=>by
  refine DR.swap (hs _ (Ac ..)) ?_
  cases h with
  | cons c S rd wr hm hl hne hn hk =>
   exact .cons c S rd wr hm hl hne hn λv u hv=>DR.pull pre _ _ (λq hq=>hs q (Ag _ hq)) (hk v u hv)
def Rep (Γ:Ctx) (k:Nat->Prop) (s:FS) (e:Env) (a:Act) (w:World):Prop:=∃ L H,Models Γ k L H e a w/\ofL L H=s
theorem Models.putO {k:Nat->Prop} {L:Sl} {H:Hp} {e:Env} {a:Act} {w:World} (m:Models Γ k L H e a w) {dst:Option Nat} {v:SV} {u:Value} (hd:dstOk Γ dst=true) (hr:Rel (Γ.X e H) e w v u):Models Γ k (putL dst v L) H e (a.put dst u) w:=by
 cases dst with
 | none=>exact m
 | some d=>exact m.put (Ab hd) hr
theorem appL_get {L:Sl} {H:Hp} (hnd:(H.map (·.1)).Nodup) {dst:Option Nat} {p:Prop} {v:SV} {u:Up} {z:Nat} {op:Op} (h:iz Γ.τ (ap L) (Hp.get H) z dst op=some (p,v,u)):ofL (putL dst v L) (u.appL z H)=(ofL L H).app z dst v u:=by
 have h1:((ofL L H).put dst v).ℓ=(putL dst v L).get:=by rw [l7];rfl
 have h2:Hp.get (u.appL z H)=u.app z (Hp.get H):=by
  funext t;cases u with
  | no=>rfl
  | new b=>exact Hp.get_cons z b H t
  | set i b =>
   have:∃ b0,Hp.get H i=some b0:=by
    cases dst with
    | none =>
     cases op<;>simp only [iz] at h<;>try cases h
     case store te x y =>
      simp only [qf,gg] at h;split at h
      ·split at h
       ·rename_i hH;split at h
        ·cases h;exact⟨_,hH⟩
        ·cases h
       ·cases h
      ·split at h
       ·rename_i hH;split at h
        ·split at h
         ·cases h;exact⟨_,hH⟩
         ·cases h
        ·cases h
       ·cases h
      ·cases h
    | some d =>
     exfalso;simp only [iz] at h;cases op<;>simp only [mj,gg] at h
     case alloc=>split at h<;>cases h
     case box=>split at h<;>cases h
     case buildSlice =>
      unfold mv at h;split at h
      ·have:=yb h;cases this
      ·split at h
       ·split at h<;>cases h
       ·cases h
      ·cases h
     case makeSlice =>
      unfold makeC at h;repeat' (split at h)
      all_goals cases h
     case call c =>
      obtain⟨callee,args,ts⟩:=c;cases callee with
      | builtin bb =>
       cases bb<;>dsimp only at h
       case append =>
        split at h
        ·split at h
         ·rw [u9] at h;unfold ye at h;repeat' (split at h)
          all_goals cases h
         ·cases h
        ·cases h
       all_goals (split at h<;>cases h)
      | _=>dsimp only at h;split at h<;>cases h
     all_goals (split at h<;>cases h)
   obtain⟨b0,hb0⟩:=this;exact Hp.get_set i b H b0 hb0 t
  | del i =>
   show Hp.get (Hp.del H i) t=_;rw [Hp.get_del i H hnd];rfl
  | trade i b =>
   show Hp.get ((z,b)::Hp.del H i) t=_;rw [Hp.get_cons,Hp.get_del i H hnd];rfl
 unfold FS.app;rw [h1];unfold ofL;rw [h2]
mutual
theorem SV.ren_eq {σ ρ:Nat->Nat} {J:Nat} (h:∀ i,i<J->σ i=ρ i):∀ (s:SV),s.low J=true->s.ren σ=s.ren ρ
 | .junk,_=>rfl
 | .d _,_=>rfl
 | .nils,_=>rfl
 | .pd _,_=>rfl
 | .loc i _,hl=>by simp only [SV.ren];rw [h i (Ab hl)]
 | .mp i,hl=>by simp only [SV.ren];rw [h i (Ab hl)]
 | .md _ _,_=>rfl
 | .row i,hl=>by simp only [SV.ren];rw [h i (Ab hl)]
 | .prow i _ _ _,hl=>by simp only [SV.ren];rw [h i (Ab hl)]
 | .sl i _ _ _,hl=>by simp only [SV.ren];rw [h i (Ab hl)]
 | .rsl i _ _ _,hl=>by simp only [SV.ren];rw [h i (Ab hl)]
 | .fn _ caps,hl=>by simp only [SV.ren];rw [SV.renL_eq h caps hl]
 | .agg ss,hl=>by simp only [SV.ren];rw [SV.renL_eq h ss hl]
 | .tup ss,hl=>by simp only [SV.ren];rw [SV.renL_eq h ss hl]
 | .val _,_=>rfl
theorem SV.renL_eq {σ ρ:Nat->Nat} {J:Nat} (h:∀ i,i<J->σ i=ρ i):∀ (ss:List SV),SV.lowL J ss=true->SV.renL σ ss=SV.renL ρ ss
 | [],_=>rfl
 | s::ss,hl=>by
  simp only [SV.lowL,Ae] at hl
  simp only [SV.renL]
  rw [SV.ren_eq h s hl.1,SV.renL_eq h ss hl.2]
end
theorem HB.ren_eq {σ ρ:Nat->Nat} {J:Nat} (h:∀ i,i<J->σ i=ρ i):∀ (b:HB),b.low J=true->b.ren σ=b.ren ρ
 | .blk _ cs,hl=>by simp only [HB.ren];rw [SV.renL_eq h cs hl]
 | .row _ _ _,_=>rfl
 | .map _ _,_=>rfl
mutual
theorem Rel.dom {X X':Nat->Prop} {e e':Env} {w w':World}:∀ (s:SV) (v v':Value),Rel X e w s v->Rel X' e' w' s v'->Rel X' ⟨e'.β,e'.η,e.dom⟩ w' s v'
 | .junk,_,_,_,_=>trivial
 | .d _,_,_,_,h=>h
 | .nils,_,_,_,h=>h
 | .pd _,_,_,_,h=>h
 | .loc _ _,_,_,g,h=>⟨g.1,h.2⟩
 | .row _,_,_,g,h=>⟨g.1,h.2⟩
 | .mp _,_,_,g,h=>⟨g.1,h.2⟩
 | .md _ _,_,_,_,h=>h
 | .prow _ _ _ _,_,_,g,h=>⟨g.1,h.2⟩
 | .sl _ _ _ _,_,_,g,h=>⟨g.1,h.2⟩
 | .rsl _ _ _ _,_,_,g,h=>⟨g.1,h.2⟩
 | .fn _ caps,_,_,⟨us,_,g⟩,⟨vs,h1,h2⟩=>⟨vs,h1,RelL.dom caps us vs g h2⟩
 | .agg ss,_,_,⟨us,_,g⟩,⟨vs,h1,h2⟩=>⟨vs,h1,RelL.dom ss us vs g h2⟩
 | .tup ss,_,_,⟨us,_,g⟩,⟨vs,h1,h2⟩=>⟨vs,h1,RelL.dom ss us vs g h2⟩
 | .val _,_,_,_,h=>h
theorem RelL.dom {X X':Nat->Prop} {e e':Env} {w w':World}:∀ (ss:List SV) (us vs:List Value),RelL X e w ss us->RelL X' e' w' ss vs->RelL X' ⟨e'.β,e'.η,e.dom⟩ w' ss vs
 | [],_,[],_,_=>trivial
 | [],_,_::_,_,h=>h.elim
 | _::_,_,[],_,h=>h.elim
 | _::_,[],_::_,g,_=>g.elim
 | s::ss,u::us,v::vs,⟨g1,g2⟩,⟨h1,h2⟩=>⟨Rel.dom s u v g1 h1,RelL.dom ss us vs g2 h2⟩
end
mutual
theorem Rel.free {X:Nat->Prop} {e:Env} {w:World} {e':Env} {σ:Nat->Nat}:∀ (s:SV) (v:Value),s.low 0=true->Rel X e w (s.ren σ) v->Rel X e' w s v
 | .junk,_,_,_=>trivial
 | .d _,_,_,h=>h
 | .nils,_,_,h=>h
 | .pd _,_,_,h=>h
 | .loc _ _,_,hl,_=>absurd (Ab hl) (A9 _)
 | .row _,_,hl,_=>absurd (Ab hl) (A9 _)
 | .mp _,_,hl,_=>absurd (Ab hl) (A9 _)
 | .md _ _,_,_,h=>h
 | .prow _ _ _ _,_,hl,_=>absurd (Ab hl) (A9 _)
 | .sl _ _ _ _,_,hl,_=>absurd (Ab hl) (A9 _)
 | .rsl _ _ _ _,_,hl,_=>absurd (Ab hl) (A9 _)
 | .fn _ caps,_,hl,⟨vs,h1,h2⟩=>⟨vs,h1,RelL.free caps vs hl h2⟩
 | .agg ss,_,hl,⟨vs,h1,h2⟩=>⟨vs,h1,RelL.free ss vs hl h2⟩
 | .tup ss,_,hl,⟨vs,h1,h2⟩=>⟨vs,h1,RelL.free ss vs hl h2⟩
 | .val _,_,_,h=>h
theorem RelL.free {X:Nat->Prop} {e:Env} {w:World} {e':Env} {σ:Nat->Nat}:∀ (ss:List SV) (vs:List Value),SV.lowL 0 ss=true->RelL X e w (SV.renL σ ss) vs->RelL X e' w ss vs
 | [],[],_,_=>trivial
 | [],_::_,_,h=>h.elim
 | _::_,[],_,h=>h.elim
 | s::ss,v::vs,hl,⟨h1,h2⟩=>by
  simp only [SV.lowL,Ae] at hl
  exact⟨Rel.free s v hl.1 h1,RelL.free ss vs hl.2 h2⟩
end
theorem Models.back {k k':Nat->Prop} {L:Sl} {H:Hp} {e e':Env} {a:Act} {w w':World} (m:Models Γ k L H e a w) (m':Models Γ k' L H e' a w'):Models Γ k L H ⟨e'.β,e'.η,k⟩ a w':=by
 have hd:e.dom=k:=funext λi=>propext (m.top i)
 have hol:ah ⟨e'.β,e'.η,k⟩ H=ah e' H:=rfl;refine⟨⟨λ_=>Iff.rfl,λp hp=>⟨(m.top _).1 (m.heap p hp).1,?_⟩,m.ids,m'.nodup,m'.mine,m'.os,m'.tape,m'.output,m'.drawn,m'.size,m'.block,m'.obound,m.jle,m'.anchor⟩,m'.defers,m.len,λt=>?_⟩
 ·have h1:=(m.heap p hp).2;have h2:=(m'.heap p hp).2;obtain⟨i,b⟩:=p;cases b with
  | blk ty cs =>
   obtain⟨us,_,g2,_⟩:=h1;obtain⟨vs,q1,q2,q3⟩:=h2;exact⟨vs,q1,hd▸RelL.dom cs us vs g2 q2,q3⟩
  | row ty es xs=>exact h2
  | map kd kvs=>exact h2
 ·exact hd▸Rel.dom _ _ _ (m.slot t) (m'.slot t)
theorem get_app {H H2:Hp}:∀ (A:Hp) (i:Nat),(∀ p∈A,Hp.get H2 p.1=some p.2)->(∀ j,j ∉ A.map (·.1)->Hp.get H j=Hp.get H2 j)->Hp.get (A++H) i=Hp.get H2 i
 | [],i,_,h=>h i (by simp)
 | (j,b)::A,i,h1,h2=>by
  rw [C6,Hp.get_cons];split
  ·rename_i hj;subst hj;exact (h1 (j,b) (Ac ..)).symm
  ·rename_i hj;by_cases hi:i∈A.map (·.1)
   ·obtain⟨p,hp,rfl⟩:=List.mem_map.1 hi;have hg:∀ (A:Hp),p∈A->(∀ q∈A,Hp.get H2 q.1=some q.2)->Hp.get (A++H) p.1=Hp.get H2 p.1:=by
     intro A;induction A with
     | nil=>intro hp;simp at hp
     | cons q A ih =>
      intro hp hq;obtain⟨qi,qb⟩:=q;rw [C6,Hp.get_cons];split
      ·rename_i he;subst he;exact (hq (_,qb) (Ac ..)).symm
      ·rename_i he;rcases List.mem_cons.1 hp with hp|hp
       ·rw [hp] at he;exact absurd rfl he
       ·exact ih hp λq hq'=>hq q (Ag _ hq')
    exact hg A hp λq hq=>h1 q (Ag _ hq)
   ·have hout:∀ (A:Hp),i ∉ A.map (·.1)->Hp.get (A++H) i=Hp.get H i:=by
     intro A;induction A with
     | nil=>intro _;rfl
     | cons q A ih =>
      intro hq;obtain⟨qi,qb⟩:=q;rw [C6,Hp.get_cons,if_neg (λhe=>hq (by rw [A3];exact he▸Ac ..))];exact ih λh=>hq (Ag _ h)
    rw [hout A hi];exact h2 i (by rw [A3,Bh];rintro (h|h);exact hj h.symm;exact hi h)
theorem get_rest {H:Hp} {ids:List Nat} {i:Nat} (h:i ∉ ids):Hp.get (oz H ids) i=Hp.get H i:=by
 unfold oz;induction H with
 | nil=>rfl
 | cons p H ih =>
  obtain⟨j,b⟩:=p;rw [List.filter_cons];split
  ·rw [Hp.get_cons,Hp.get_cons,ih]
  ·rename_i hj;rw [Hp.get_cons,if_neg,ih];rintro rfl;exact hj (nz h)
theorem ofL_new (L:Sl) (H:Hp) (d:Nat) (v:SV) (z:Nat) (b:HB):ofL ((d,v)::L) ((z,b)::H)=(ofL L H).app z (some d) v (.new b):=by
 have h1:((ofL L H).put (some d) v).ℓ=(putL (some d) v L).get:=by rw [l7];rfl
 have h2:Hp.get ((z,b)::H)=(Up.new b).app z (Hp.get H):=funext λt=>Hp.get_cons z b H t
 unfold FS.app;rw [h1];unfold ofL;rw [h2];rfl
theorem ofL_trade (L:Sl) (H:Hp) (d:Nat) (v:SV) (z j:Nat) (b:HB) (hnd:(H.map (·.1)).Nodup):ofL ((d,v)::L) ((z,b)::Hp.del H j)=(ofL L H).app z (some d) v (.trade j b):=by
 have h1:((ofL L H).put (some d) v).ℓ=(putL (some d) v L).get:=by rw [l7];rfl
 have h2:Hp.get ((z,b)::Hp.del H j)=(Up.trade j b).app z (Hp.get H):=funext λt=>by
  rw [Hp.get_cons,Hp.get_del j H hnd];rfl
 unfold FS.app;rw [h1];unfold ofL;rw [h2];rfl
theorem ofL_set (L:Sl) (H:Hp) (d:Nat) (v:SV) (z j:Nat) (b b0:HB) (hb:Hp.get H j=some b0):ofL ((d,v)::L) (Hp.set H j b)=(ofL L H).app z (some d) v (.set j b):=by
 have h1:((ofL L H).put (some d) v).ℓ=(putL (some d) v L).get:=by rw [l7];rfl
 have h2:Hp.get (Hp.set H j b)=(Up.set j b).app z (Hp.get H):=funext λt=>by
  rw [Hp.get_set j b H b0 hb t];rfl
 unfold FS.app;rw [h1];unfold ofL;rw [h2];rfl
theorem Mv.sound {k:Nat->Prop} {c:Bool} {S:SV->Up->Prop} {rd wr:List Nat} (h:Mv Γ ops κ s i o c S rd wr) {e:Env} {a:Act} {w:World} (hr:Rep Γ k s e a w) (hbd:∃ N,∀ x,k x->x<N) (hz:¬ k (κ+i)) (hi:ops[i]?=some o) (Q:Exit->Act->World->Prop) (K:Act->World->Prop)
  (hK:∀ v u a' w' e',S v u->Rep Γ (mg k (κ+i)) (s.app (κ+i) o.dst v u) e' a' w'->K a' w'):wpOp Γ.P ops.toArray Q i K a w:=by
 obtain⟨L,H,m,rfl⟩:=hr;have hwanted:∀ b,iy ops (ofL L H).ℓ o.guard=some b->Region.wanted o (yielded ops.toArray a.tmps)=b:=λb hb=>k8 m ((jh ops L o.guard)▸hb)
 unfold wpOp;have hi':ops.toArray[i]?=some o:=by simpa using hi
 rw [hi'];cases h with
 | skip hw hd =>
  simp only [hwanted _ hw];obtain⟨e',m'⟩:=(m.putO (v:=.tup []) (u:=undef) hd ⟨[],rfl,trivial⟩).widen (κ+i);exact hK _ _ _ _ e' ⟨rfl,rfl⟩ ⟨_,_,m',(l7 L H o.dst (.tup [])).symm▸by cases o.dst<;>rfl⟩
 | step p v0 u0 hw hs hp hu hok hd =>
  simp only [hwanted _ hw,if_true];rw [jt] at hs;have hss:=stepC_sound (k:=k) (ty:=o.type) (pos:=o.pos) (af:=o.after) (gd:=o.guard) hs hp hu hok hd hz;refine .inl (Oper.wp_mono ?_ (hss e a w Q m));rintro a' w' ⟨e',m'⟩;exact hK _ _ _ _ e' ⟨rfl,rfl⟩ ⟨_,_,m',appL_get m.ids hs⟩
 | bs0 d t te es hw ho hdst h1 h2 h3 h4 h5 h6 hd =>
  simp only [hwanted _ hw,if_true];obtain⟨dst,op,ty,pos,af,g⟩:=o;simp only at ho hdst;subst ho;subst hdst;refine .inl (Oper.wp_mono ?_ (op_bs0 (ty:=ty) (pos:=pos) (af:=af) (g:=g) hz h1 h2 h3 h4 h5 h6 hd e a w Q m));rintro a' w' ⟨e',m'⟩;exact hK _ _ _ _ e' ⟨rfl,rfl⟩ ⟨_,_,m',ofL_new L H d (.row (κ+i)) (κ+i) (.row te es [])⟩
 | call d f x caps xs ts R hw ho hdst hx hc hlow hok hd =>
  simp only [hwanted _ hw,if_true];rw [jt] at hx;have e1:xs.map (ofL L H).op=nb L xs:=by rw [jt,jo]
  rw [e1] at hc hlow;have hok':dh x=true/\eb xs=true:=by
   unfold bz at hok;rw [ho] at hok;simp only [Op.operands,Call.operands,Dj,Cd,Ae] at hok;exact⟨by simpa using hok.1,ny _ (by simpa using hok.2)⟩
  refine .inl ?_;have hrx:=m.op x (ce hok'.1);rw [hx] at hrx;obtain⟨us,hu,hru⟩:=hrx;obtain⟨dst,op,ty,pos,af,gd⟩:=o;simp only at ho hdst;subst ho;subst hdst;unfold Oper.wp;rw [sf hc.1 a x us hu,Oper.upon_enter];refine (hc.use (τ:=Γ.τ) (τok:=Γ.τok) (Γ:=Γ) m hlow _ (RelL.append _ _ _ _ (ij m xs hok'.2) hru)).mono ?_;rintro en w' ⟨r,v,hR,rfl,hb,hlr,hrel⟩;obtain⟨e',m'⟩:=((m.below hb).put (Ab hd) (Rel.keep (Ah _) (λ_ _ _=>rfl) (λ_ _ hy=>hy) _ _ hrel)).widen (κ+i);exact hK r .no _ _ e' ⟨hR,rfl⟩ ⟨_,_,m',(l7 L H (some d) r).symm⟩
 | callW d f x caps xs ts te es R hw ho hdst hx hc hlow hok hd =>
  simp only [hwanted _ hw,if_true];rw [jt] at hx;have e1:xs.map (ofL L H).op=nb L xs:=by rw [jt,jo]
  rw [e1] at hc hlow;have hok':dh x=true/\eb xs=true:=by
   unfold bz at hok;rw [ho] at hok;simp only [Op.operands,Call.operands,Dj,Cd,Ae] at hok;exact⟨by simpa using hok.1,ny _ (by simpa using hok.2)⟩
  refine .inl ?_;have hrx:=m.op x (ce hok'.1);rw [hx] at hrx;obtain⟨us,hu,hru⟩:=hrx;obtain⟨dst,op,ty,pos,af,gd⟩:=o;simp only at ho hdst;subst ho;subst hdst;unfold Oper.wp;rw [sf hc.1 a x us hu,Oper.upon_enter];refine (hc.use (τ:=Γ.τ) (τok:=Γ.τok) (Γ:=Γ) m hlow _ (RelL.append _ _ _ _ (ij m xs hok'.2) hru) (κ+i)).mono ?_;rintro en w' ⟨ys,v,hR,rfl,hb,hone,hfresh,hrow⟩;have hze:¬ e.dom (κ+i):=λh=>hz ((m.top _).1 h)
  have hη:(e.bindRow (κ+i) v).η (κ+i)=v:=if_pos rfl;have hext:=e.bindRow_ext (κ+i) v hze;have hol:ah (e.bindRow (κ+i) v) H=ah e H:=ma hext H λp hp=>(m.heap p hp).1
  have m2:=m.new hz (hb:=.row te es ys) (e':=e.bindRow (κ+i) v) (w':=w') (λi=>or_congr (m.top i) Iff.rfl) hext hb
   (λb ho=>hfresh b (by rw [<- hη];exact ho)) (λ_=>hrow _ _ hη λb hx=>by
    rcases hx with hx|hx
    ·exact .inl (.inl hx)
    ·unfold ah at hx;rw [Bn] at hx;split at hx
     ·exact .inl (.inr (hol▸hx))
     ·rename_i c hc;rcases List.mem_cons.1 hx with rfl|hx
      ·exact .inr (by rw [<- hη];exact hc)
      ·exact .inl (.inr (hol▸hx)))
  exact hK _ _ _ _ _ ⟨ys,hR,rfl,rfl⟩ ⟨_,_,m2.put (s:=.row (κ+i)) (v:=v) (Ab hd) ⟨.inr rfl,hη.symm,hone⟩,ofL_new L H d (.row (κ+i)) (κ+i) (.row te es ys)⟩
 | callT d f xs ts j args te0 te es0 es ds R hw ho hdst hc hargs hlow hH hok hd hdr =>
  simp only [hwanted _ hw,if_true];have e1:xs.map (ofL L H).op=nb L xs:=by rw [jt,jo]
  rw [e1] at hargs;have hok':eb xs=true:=by
   unfold bz at hok;rw [ho] at hok;simp only [Op.operands,Call.operands,Dj,Cd,Ae] at hok;exact ny _ (by simpa using hok.2)
  refine .inl ?_;obtain⟨dst,op,ty,pos,af,gd⟩:=o;simp only at ho hdst;subst ho;subst hdst;have hH':Hp.get H j=some (.row te0 es0 ds):=hH;unfold Oper.wp;rw [j9 hc.1,Oper.upon_enter];refine (hc.use m hH' hlow _ (hargs▸ij m xs hok') (κ+i)).mono ?_;rintro en w' ⟨ys,v,hR,rfl,h1,h2,h3,h4,_,hone,hblk,hfresh,hrow⟩;have hze:¬ e.dom (κ+i):=λh=>hz ((m.top _).1 h)
  have hη:(e.bindRow (κ+i) v).η (κ+i)=v:=if_pos rfl;have hext:=e.bindRow_ext (κ+i) v hze;have hdm:=Hp.del_mem (i:=j) H m.ids;have hol:ah (e.bindRow (κ+i) v) (Hp.del H j)=ah e (Hp.del H j):=ma hext _ λp hp=>(m.heap p (hdm p hp).1).1
  have m2:=m.trade (hb:=.row te es ys) hH' hz (e':=e.bindRow (κ+i) v) (w':=w') (λi=>or_congr (m.top i) Iff.rfl) hext h1 h2 h3 h4 (λhd=>by rw [hdr] at hd;cases hd) hblk
   (λc hc'=>hfresh c (by rw [<- hη];exact hc')) (λ_=>hrow _ _ hη λb hx=>by
    rcases hx with hx|hx
    ·exact .inl (.inl hx)
    ·unfold ah at hx;rw [Bn] at hx;split at hx
     ·exact .inl (.inr (hol▸hx))
     ·rename_i c hc';rcases List.mem_cons.1 hx with rfl|hx
      ·exact .inr (by rw [<- hη];exact hc')
      ·exact .inl (.inr (hol▸hx)))
  exact hK _ _ _ _ _ ⟨ys,hR,rfl,rfl⟩ ⟨_,_,m2.put (s:=.row (κ+i)) (v:=v) (Ab hd) ⟨.inr rfl,hη.symm,hone⟩,ofL_trade L H d (.row (κ+i)) (κ+i) j (.row te es ys) m.ids⟩
 | look d j v0 hw hci hdst hE hd =>
  simp only [hwanted _ hw,if_true];obtain⟨v,h1,h2⟩:=hE k L H (λx _=>by rw [jt]) rfl e a w m;obtain⟨dst,op,ty',pos,af,gd⟩:=o;simp only at hdst;subst hdst;refine .inl ?_;unfold Oper.wp;rw [h1 (some d) pos af gd w (Below.refl _ _)];obtain⟨e',m'⟩:=(m.put (Ab hd) h2).widen (κ+i);exact hK v0 .no _ _ e' ⟨rfl,rfl⟩ ⟨_,_,m',(l7 L H (some d) v0).symm⟩
 | callB d f xs ts j args ty cs R hw ho hdst hc hargs hlow hH hcs hok hd =>
  simp only [hwanted _ hw,if_true];have e1:xs.map (ofL L H).op=nb L xs:=by rw [jt,jo]
  rw [e1] at hargs;have hok':eb xs=true:=by
   unfold bz at hok;rw [ho] at hok;simp only [Op.operands,Call.operands,Dj,Cd,Ae] at hok;exact ny _ (by simpa using hok.2)
  refine .inl ?_;obtain⟨dst,op,ty',pos,af,gd⟩:=o;simp only at ho hdst;subst ho;subst hdst;have hH':Hp.get H j=some (.blk ty cs):=hH;unfold Oper.wp;rw [j9 hc.1,Oper.upon_enter];refine (hc.use m hH' hcs hlow _ (hargs▸ij m xs hok')).mono ?_;rintro en w' ⟨r,cs',v,hR,rfl,h1,h2,h3,h4,h5,hblk,hrel,hv⟩;have m2:=m.turn (b':=.blk ty cs') hH' h1 h2 h3 h4 h5 hblk rfl hrel;have hX:Γ.X e (Hp.set H j (.blk ty cs'))=Γ.X e H:=by unfold Ctx.X;rw [Hp.set_owned (b:=.blk ty cs) (b':=.blk ty cs') rfl H hH']
  obtain⟨e',m'⟩:=(m2.put (Ab hd) (Rel.keep (Ah _) (λ_ _ _=>rfl) (λb _ hy=>by rw [hX] at hy;exact hy) _ _ hv)).widen (κ+i);exact hK r (.set j (.blk ty cs')) _ _ e' ⟨cs',hR,rfl⟩ ⟨_,_,m',ofL_set L H d r (κ+i) j (.blk ty cs') _ hH'⟩
 | callR d f x caps xs ts ρ args J Hc R hw ho hdst hx hc hargs hlA hKF hlow hdis hdis' hall hbel hR hrows hok hd =>
  simp only [hwanted _ hw,if_true];rw [jt] at hx;have e1:xs.map (ofL L H).op=nb L xs:=by rw [jt,jo]
  rw [e1] at hargs;have hok':dh x=true/\eb xs=true:=by
   unfold bz at hok;rw [ho] at hok;simp only [Op.operands,Call.operands,Dj,Cd,Ae] at hok;exact⟨by simpa using hok.1,ny _ (by simpa using hok.2)⟩
  refine .inl ?_;have hrx:=m.op x (ce hok'.1);rw [hx] at hrx;obtain⟨us,hu,hru⟩:=hrx;obtain⟨dst,op,ty,pos,af,gd⟩:=o;simp only at ho hdst;subst ho;subst hdst;unfold Oper.wp;rw [sf hc.1 a x us hu,Oper.upon_enter];obtain⟨N,hN⟩:=hbd;obtain⟨e1',m1⟩:=m.widenTo (k':=lo N) hN;have hKH:KnowsH ρ H Hc:=(knowsF_is ρ H Hc).1 hKF;have hrx':=m1.op x (ce hok'.1);rw [hx] at hrx';obtain⟨us',hu',hru'⟩:=hrx';have hus:us'=us:=by
   rw [hu] at hu';simpa using hu'.symm
  subst hus;refine (hc.use ρ m1 hlA hKH hlow hdis hdis' (by simp) hall _ (hargs▸RelL.append _ _ _ _ (ij m1 xs hok'.2) hru') (λk2 r H2 hh=>⟨(hR r hh.1).2,hh.2▸hrows⟩)).mono ?_;rintro en w' ⟨k2,r,H2,v,e'',⟨hRr,hH2⟩,rfl,hm,hrel⟩;rw [hH2] at hm hrel;have hsig:∀ i,i<J->sig ρ J N i=ρ i:=λi hi=>tn hi
  have hlo:=Hp.low_spec Hc hlow;have hmem:=KnowsH.mem Hc hKH;have hgetH:∀ p∈Hc,Hp.get H (ρ p.1)=some (p.2.ren ρ):=λp hp=>Hp.mem_get H m.ids _ (hmem p hp)
  have hmap:(Hc.map λp=>(sig ρ J N p.1,p.2.ren (sig ρ J N)))=Hc.map λp=>(ρ p.1,p.2.ren ρ) :=
   C7 λp hp=>by rw [hsig _ (allBelow_spec hbel p hp),HB.ren_eq hsig p.2 (hlo p hp).2]
  rw [hmap] at hm hrel;have hsame:∀ i,Hp.get ((Hc.map λp=>(ρ p.1,p.2.ren ρ))++oz H (Hc.map λp=>ρ p.1)) i=Hp.get H i:=λi =>
   get_app _ i (λp hp=>by
    obtain⟨q,hq,rfl⟩:=List.mem_map.1 hp;exact hgetH q hq) λj hj=>get_rest (by simpa [List.map_map,Function.comp_def] using hj)
  have m2:=hm.same (L':=L) (H':=H) (λ_=>rfl) hsame m.ids;have m3:=m.back m2;have hlr:=(hR r hRr).1;have hrel2:Rel (Γ.X ⟨e''.β,e''.η,k⟩ H) ⟨e''.β,e''.η,k⟩ w' r v:=by
   refine Rel.keep (Ah _) (λ_ _ _=>rfl) (λb _ hy=>?_) _ _ (Rel.free r v hlr hrel);refine hy.imp id λhb=>?_
   have hb':b∈ah e'' H:=hb;obtain⟨p,hp,ho⟩:=List.mem_filterMap.1 hb';have hg:=Hp.mem_get H m.ids p hp;rw [<- hsame] at hg;exact List.mem_filterMap.2 ⟨p,Hp.get_mem _ p.1 p.2 hg,ho⟩
  obtain⟨e',m'⟩:=(m3.put (Ab hd) hrel2).widen (κ+i);exact hK r .no _ _ e' ⟨hRr,rfl⟩ ⟨_,_,m',(l7 L H (some d) r).symm⟩
end
end
section
open Go Go.RowKit
def ee:Nat->List Oper->List (Nat×Oper)
 | _,[]=>[]
 | i,o::l=>(i,o)::ee (i+1) l
theorem ew:∀ (l:List Oper) (b:Nat) (q:Nat×Oper),q∈ee b l↔b<=q.1/\l[q.1-b]?=some q.2
 | [],b,q=>by simp [ee]
 | o::l,b,q=>by
  simp only [ee,Bh,ew l (b+1) q]
  constructor
  ·rintro (rfl|⟨h1,h2⟩)
   ·exact⟨Ah _,by simp⟩
   ·refine⟨by omega,?_⟩
    rw [show q.1-b=(q.1-(b+1))+1 by omega]
    simpa using h2
  ·rintro⟨h1,h2⟩
   by_cases h:q.1=b
   ·left
    rw [h,Nat.sub_self] at h2
    simp at h2
    exact Prod.ext h h2.symm
   ·right
    refine⟨by omega,?_⟩
    rw [show q.1-b=(q.1-(b+1))+1 by omega] at h2
    simpa using h2
theorem uz:∀ (l:List Oper) (b:Nat),(ee b l).Pairwise (λp q=>p.1<q.1)
 | [],_=>.nil
 | o::l,b=>by
  refine List.pairwise_cons.2 ⟨λq hq=>?_,uz l (b+1)⟩
  have:=((ew l (b+1) q).1 hq).1
  show b<q.1
  omega
def ka (l:List Oper):Bool:=(ee 0 l).all λq=>q.2.after.toList.all λe=>!Region.binds .any e || Av e.on q.1
def regPairB (l:List Oper):Bool:=(ee 0 l).all λq=>(ee 0 l).all λr=>C0 q.1 r.1 || (ph l q.1 r.1 || apartO l r.2 q.2)
def reachB (l:List Oper):Nat->Nat->Nat->Bool
 | 0,_,_=>false
 | n+1,i,j=>match nl l i with
  | none=>false
  | some o=>o.after.toList.any λe=>Region.binds .any e && (Aw e.on j || (Av j e.on && reachB l n e.on j))
def regCallB (l:List Oper):Bool:=(ee 0 l).all λq=>!isCall q.2 || (ee 0 l).all λr=>C0 q.1 r.1 || (!isCall r.2 || reachB l l.length q.1 r.1)
def rm (l:List Oper):Bool:=ka l && (regPairB l && regCallB l)
theorem edgeB_spec {l:List Oper} {i j:Nat}:ph l i j=true↔∃ o,l[i]?=some o/\∃ e∈o.after,Region.binds .any e=true/\e.on=j:=by
 unfold ph;rw [xf];cases h:l[i]? with
 | none=>simp
 | some o =>
  simp only [Ho,Ae,Gs,Option.some.injEq,exists_eq_left'];constructor
  ·rintro⟨e,h1,h2,h3⟩;exact⟨e,h1,h2,Ao h3⟩
  ·rintro⟨e,h1,h2,h3⟩;exact⟨e,h1,h2,by rw [h3];exact Nat.beq_refl j⟩
section
variable {Γ : Ctx} {l : List Oper} {κ : Nat}
structure Going (l:List Oper) (listed:Array Bool) (rem:List (Nat×Oper)):Prop where
 size:listed.size=l.length
 closed:∀ j o,l[j]?=some o->listed.getD j false=true->∀ e∈o.after,Region.binds .any e=true->listed.getD e.on false=true
 left:∀ q,q∈rem↔l[q.1]?=some q.2/\listed.getD q.1 true=false
 sorted:rem.Pairwise (λp q=>p.1<q.1)
theorem path2_false {listed:Array Bool} {i q:Nat} {o:Oper} (hio:l[i]?=some o) (hall:∀ e∈o.after,Region.binds .any e=true->listed.getD e.on false=true)
  (hcl:∀ j oj,l[j]?=some oj->listed.getD j false=true->∀ e∈oj.after,Region.binds .any e=true->listed.getD e.on false=true) (hq:listed.getD q false=false):t7 l i q=false:=by
 have one:∀ (x:Nat) (ox:Oper),l[x]?=some ox->(∀ e∈ox.after,Region.binds .any e=true->listed.getD e.on false=true)->ph l x q=false:=by
  intro x ox hx hl;cases he:ph l x q with
  | false=>rfl
  | true =>
   obtain⟨o',ho',e',he',hb',hon⟩:=edgeB_spec.1 he;rw [hx] at ho';cases ho';have:=hl e' he' hb'
   rw [hon,hq] at this;cases this
 unfold t7;rw [one i o hio hall,xf,hio,B9];simp only;rw [List.any_eq_false];intro e he;rw [Ae];rintro⟨hb,hed⟩;have hle:=hall e (by simpa using he) hb;obtain⟨ox,hox,_⟩:=edgeB_spec.1 hed;rw [one e.on ox hox (hcl e.on ox hox hle)] at hed;cases hed
theorem path2_edge {i q:Nat} (h:t7 l i q=false):ph l i q=false:=by
 unfold t7 at h;rw [Bool.or_eq_false_iff] at h;exact h.1
theorem jc {listed:Array Bool} {j:Nat} (hj:j<listed.size):listed.getD j true=listed.getD j false:=by simp [hj]
theorem df {o:Oper} {j:Nat} (h:l[j]?=some o):j<l.length:=(List.getElem?_eq_some_iff.1 h).1
theorem Going.rest {listed:Array Bool} {rem pre post:List (Nat×Oper)} {i:Nat} {o:Oper} (g:Going l listed rem) (hr:i∈Region.ready .any l.toArray listed) (he:rem=pre++(i,o)::post) (hi:l[i]?=some o):Going l (listed.setIfInBounds i true) (pre++post) where
 size:=by simp [g.size]
 closed j oj hj hl e he' hb:=by
  have key:∀ x,listed.getD x false=true->(listed.setIfInBounds i true).getD x false=true:=by
   intro x hx;by_cases hix:i=x
   ·subst hix;have:i<listed.size:=by rw [g.size];exact df hi
    simp [this]
   ·rw [getD_set_ne false hix];exact hx
  by_cases hij:i=j
  ·subst hij;obtain⟨_,o',ho',hall⟩:=mem_ready.1 hr;have ho2:l[i]?=some o':=by simpa using ho'
   rw [hj] at ho2;cases ho2;exact key _ (hall e he' hb)
  ·rw [getD_set_ne false hij] at hl;exact key _ (g.closed j oj hj hl e he' hb)
 left q:=by
  have hs:=g.sorted;rw [he] at hs;have hne:∀ q∈pre++post,q.1≠i:=by
   intro q hq hqi;rw [Gu] at hs;obtain⟨_,h2,h3⟩:=hs;rcases List.mem_append.1 hq with h|h
   ·have:=h3 q h (i,o) (Ac ..);simp at this;omega
   ·have:=(List.pairwise_cons.1 h2).1 q h;simp at this;omega
  constructor
  ·intro hq;have h1:q∈rem:=by rw [he];rcases List.mem_append.1 hq with h|h<;>simp [h]
   obtain⟨a,b⟩:=(g.left q).1 h1;exact⟨a,by rw [getD_set_ne true (Ne.symm (hne q hq))];exact b⟩
  ·rintro⟨a,b⟩;have hqi:i≠q.1:=by
    intro h;have:i<listed.size:=by rw [g.size];exact df hi
    rw [<- h] at b;simp [this] at b
   rw [getD_set_ne true hqi] at b;have h1:=(g.left q).2 ⟨a,b⟩;rw [he] at h1;simp only [List.mem_append,Bh] at h1 ⊢;rcases h1 with h|h|h
   ·exact .inl h
   ·exact absurd (by rw [h]) hqi
   ·exact .inr h
 sorted:=by
  have hs:=g.sorted;rw [he] at hs;exact hs.sublist (List.Sublist.append (List.Sublist.refl _) (List.sublist_cons_self _ _))
theorem tv {listed:Array Bool} {rem:List (Nat×Oper)} (g:Going l listed rem) {j:Nat}:∀ (n i:Nat) (oi:Oper),reachB l n i j=true->l[i]?=some oi ->
  (∀ e∈oi.after,Region.binds .any e=true->listed.getD e.on false=true)->listed.getD j false=true
 | 0,_,_,h,_,_=>by cases h
 | n+1,i,oi,h,hi,hall=>by
  unfold reachB at h;rw [xf,hi] at h;simp only [Ho,Ae,Dz,Gs] at h;obtain⟨e,hea,heb,he⟩:=h;have hl:=hall e hea heb;rcases he with he|⟨_,he⟩
  ·rw [<- Ao he];exact hl
  ·cases ho:l[e.on]? with
   | none =>
    have h1:¬ e.on<listed.size:=by rw [g.size];intro h;rw [List.getElem?_eq_getElem h] at ho;cases ho
    rw [Array.getD_eq_getD_getElem?,Array.getElem?_eq_none (by omega)] at hl;cases hl
   | some o'=>exact tv g n e.on o' he ho (g.closed e.on o' ho hl)
theorem calls_done {listed:Array Bool} {rem:List (Nat×Oper)} (g:Going l listed rem) (hc:regCallB l=true) {j:Nat} {oj:Oper} (hj:l[j]?=some oj) (hcj:isCall oj=true)
  (i:Nat) (oi:Oper) (hi:l[i]?=some oi) (hci:isCall oi=true) (hji:j<i) (hall:∀ e∈oi.after,Region.binds .any e=true->listed.getD e.on false=true):listed.getD j false=true:=by
 unfold regCallB at hc;rw [B5] at hc;have h1:=hc (i,oi) ((ew l 0 (i,oi)).2 ⟨Ak _,by simpa using hi⟩);simp only [hci,E5,B9,B5] at h1;have h2:=h1 (j,oj) ((ew l 0 (j,oj)).2 ⟨Ak _,by simpa using hj⟩);have hnb:C0 i j=false:=by
  cases hb:C0 i j with
  | false=>rfl
  | true=>have:=Ab hb;omega
 simp only [hnb,B9,hcj,E5] at h2;exact tv g l.length i oi h2 hi hall
theorem any_sim (hB:rm l=true) {K:FS->Prop} {Q:Exit->Act->World->Prop} (hQ:∀ s e a w,K s->Rep Γ (lo (κ+l.length)) s e a w->Q .normal a w) :
  ∀ (fuel:Nat) (listed:Array Bool) (a:Act) (w:World) (s:FS) (e:Env) (D:Nat->Prop) (rem:List (Nat×Oper)) (lg:Log),Going l listed rem->rem.length=fuel->Rep Γ D s e a w ->
   (∀ x,D x->x<κ+l.length/\∀ j,x=κ+j->listed.getD j false=true)->DR Γ l κ rem lg K s->wpAny Γ.P .any l.toArray Q fuel listed a w:=by
 simp only [rm,Ae] at hB;obtain⟨hdown,hpair,hcall⟩:=hB;have down:∀ j o,l[j]?=some o->∀ e∈o.after,Region.binds .any e=true->e.on<j:=by
  intro j o hj e he hb;unfold ka at hdown;rw [B5] at hdown;have h1:=hdown (j,o) ((ew l 0 (j,o)).2 ⟨Ak _,by simpa using hj⟩);rw [B5] at h1;have h2:=h1 e (by simpa using he);simp only [hb,E5,B9] at h2;exact Ab h2
 intro fuel;induction fuel with
 | zero =>
  intro listed a w s e D rem lg g hlen hr hD hd;have hrem:rem=[]:=List.eq_nil_of_length_eq_zero hlen;subst hrem;refine⟨?_,?_⟩
  ·apply List.eq_nil_iff_forall_not_mem.2;intro j hj;obtain⟨h1,o,ho,_⟩:=mem_ready.1 hj;have:=(g.left (j,o)).2 ⟨by simpa using ho,h1⟩
   simp at this
  ·cases hd with
   | nil hk =>
    obtain⟨L,H,m,hs⟩:=hr;obtain⟨e',m'⟩:=m.widenTo (k':=lo (κ+l.length)) λx hx=>(hD x hx).1
    exact hQ s e' a w hk ⟨L,H,m',hs⟩
 | succ fuel ih =>
  intro listed a w s e D rem lg g hlen hr hD hd;refine⟨λh0=>?_,λi hi=>?_⟩
  ·exfalso;cases rem with
   | nil=>simp at hlen
   | cons q rem' =>
    obtain⟨h1,h2⟩:=(g.left q).1 (Ac ..);have:q.1∈Region.ready .any l.toArray listed:=by
     refine mem_ready.2 ⟨h2,q.2,by simpa using h1,λe' he hb=>?_⟩;have hlt:=down q.1 q.2 h1 e' he hb;have hln:e'.on<listed.size:=by rw [g.size];have:=df h1;omega
     cases hx:listed.getD e'.on false with
     | true=>rfl
     | false =>
      exfalso;have hx':listed.getD e'.on true=false:=(jc hln).trans hx;have hlen':e'.on<l.length:=by rw [<- g.size];exact hln
      have hm:=(g.left (e'.on,l[e'.on])).2 ⟨by simp [hlen'],hx'⟩;rcases List.mem_cons.1 hm with h|h
      ·have:e'.on=q.1:=by rw [<- h]
       omega
      ·have:=(List.pairwise_cons.1 g.sorted).1 _ h
       simp at this;omega
    rw [h0] at this;simp at this
  ·obtain⟨h1,o,ho,hall⟩:=mem_ready.1 hi;have hio:l[i]?=some o:=by simpa using ho
   obtain⟨pre,post,hre⟩:=List.append_of_mem ((g.left (i,o)).2 ⟨hio,h1⟩);have g':=g.rest hi hre hio;have hpull:DR Γ l κ ((i,o)::(pre++post)) lg K s:=by
    refine DR.pull pre lg s (λq hq=>?_) (hre▸hd);have hqr:q∈rem:=by rw [hre];exact Ax _ hq
    obtain⟨hq1,hq2⟩:=(g.left q).1 hqr;have hqi:q.1<i:=by
     have hs:=g.sorted;rw [hre,Gu] at hs;have:=hs.2.2 q hq (i,o) (Ac ..)
     simpa using this
    have hqs:q.1<listed.size:=by rw [g.size];exact df hq1
    have hq2':listed.getD q.1 false=false:=(jc hqs).symm.trans hq2;have e0:t7 l i q.1=false:=path2_false hio hall g.closed hq2';have e1:=path2_edge e0;have e2:ph l q.1 i=false:=by
     cases hx:ph l q.1 i with
     | false=>rfl
     | true =>
      obtain⟨o',ho',e',he',hb',hon⟩:=edgeB_spec.1 hx;have:=down q.1 o' ho' e' he' hb'
      omega
    refine⟨e0,e2,?_,λhcq=>?_⟩
    ·unfold regPairB at hpair;rw [B5] at hpair;have p1:=hpair (i,o) ((ew l 0 (i,o)).2 ⟨Ak _,by simpa using hio⟩);rw [B5] at p1;have p2:=p1 q ((ew l 0 q).2 ⟨Ak _,by simpa using hq1⟩);have hnb:C0 i q.1=false:=by
      cases hb:C0 i q.1 with
      | false=>rfl
      | true=>have:=Ab hb;omega
     simp only [hnb,B9,e1] at p2;exact p2
    ·cases hci:isCall o with
     | false=>rfl
     | true =>
      have:=calls_done g hcall hq1 hcq i o hio hci hqi hall
      rw [hq2'] at this;cases this
   cases hpull with
   | cons c S rd wr hm hl hne hn hk =>
    have hz:¬ D (κ+i):=by
     intro hx;have:=(hD _ hx).2 i rfl
     have hin:i<listed.size:=by rw [g.size];exact df hio
     rw [<- jc hin,h1] at this;cases this
    refine Mv.sound hm hr ⟨κ+l.length,λx hx=>(hD x hx).1⟩ hz hio Q _ λv u a' w' e' hv hr'=>?_
    refine ih (listed.setIfInBounds i true) a' w' _ e' _ (pre++post) _ g' ?_ hr' (λx hx=>?_) (hk v u hv)
    ·rw [hre] at hlen;simp only [List.length_append,List.length_cons] at hlen ⊢;omega
    ·have hin:i<listed.size:=by rw [g.size];exact df hio
     rcases hx with hx|hx
     ·refine⟨(hD x hx).1,λj hj=>?_⟩
      have:=(hD x hx).2 j hj
      by_cases hij:i=j
      ·subst hij;simp [hin]
      ·rw [getD_set_ne false hij];exact this
     ·subst hx;refine⟨by have:=df hio;omega,λj hj=>?_⟩
      have:i=j:=by omega
      subst this;simp [hin]
def endK (Γ:Ctx) (m:Nat) (Q:cy):FS->Prop:=λs=>∀ e a w,Rep Γ (lo m) s e a w->∃ (k':Nat) (L':Sl) (H':Hp) (e':Env),Models Γ k' L' H' e' a w/\Q k' L' H'
theorem dw_region_any {id k:Nat} {L:Sl} {H:Hp} {Q:gh} (hm:Γ.P.follows .mixedOrders=true) (hB:rm l=true) (hnd:d6 l=true) (h:DR Γ l k (ee 0 l) [] (endK Γ (k+l.length) (Q .normal)) (ofL L H)):DW Γ (.region id l.toArray true) Q k L H:=by
 intro e a w m;refine wpIn_mono (wpIn_region_any hm (vm (ik (Γ:=Γ) (K:=Q .normal)) hnd _ _ _ _ ?_)) (p8 (λex k' L' H' (⟨h1,h2⟩:fh (Q .normal) ex k' L' H')=>h1▸h2));have m0:=m.below (w':={ w with drawn:=w.drawn+1 }) ((Beld.refl _ _ _).drew);have hg:Going l (Array.replicate l.length false) (ee 0 l):=by
  refine⟨by simp,λj o hj hl=>?_,λq=>?_,uz l 0⟩
  ·have hlt:=df hj;simp [hlt] at hl
  ·rw [ew l 0 q];simp only [Ak,Nat.sub_zero,true_and];constructor
   ·intro hq;exact⟨hq,by have:=df hq;simp [this]⟩
   ·exact λh=>h.1
 have hlen:(ee 0 l).length=l.toArray.size:=by
  have:∀ (l:List Oper) b,(ee b l).length=l.length:=by
   intro l;induction l with
   | nil=>intro b;rfl
   | cons o l ih=>intro b;simp [ee,ih]
  simp [this]
 refine any_sim hB (K:=endK Γ (k+l.length) (Q .normal)) (Q:=vh Γ (fh (Q .normal))) (λs e a w hk hr=>?_) _ _ a _ (ofL L H) e (lo k) (ee 0 l) [] (by simpa using hg) hlen ⟨L,H,m0,rfl⟩ (λx hx=>⟨Nat.lt_of_lt_of_le hx (Nat.le_add_right _ _),λj hj=>?_⟩) h
 ·obtain⟨k',L',H',e',m',hq⟩:=hk e a w hr;exact .inl ⟨k',L',H',e',m',rfl,hq⟩
 ·have:x<k:=hx
  omega
end
end
end Go.Proofs.YtapciiffpnociadGreat
