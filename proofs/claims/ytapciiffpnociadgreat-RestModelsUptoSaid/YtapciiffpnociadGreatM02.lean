/- Several texts in one: GxCall GxImp GxSto GxApp. Condition: none. -/
import Derived.Test.YtapciiffpnociadGreatM01
import Derived.Deep.QuietTactic
set_option linter.all false
open Array renaming length_toList→A4,mapM_eq_mapM_toList→Fg,replicate→E3
open Bool renaming and_eq_true→Ad
open List renaming append_nil→B0,filterMap_cons→Bf,getElem?_append_left→Bi,getElem?_append_right→A8,getElem?_map→Bl,getElem?_range→Ef,mapM_cons→Ho,map_cons→A7,mem_append→Bq,mem_cons_of_mem→Ah,mem_cons_self→Ae,mem_of_mem_drop→Bv,mem_of_mem_take→B1,replicate→An
open Nat renaming beq→Aw,ble→B6,blt→As,eq_of_beq_eq_true→Aj,le_of_ble_eq_true→Ac,le_refl→Af,le_trans→Ar,lt_of_lt_of_le→Aq,ne_of_beq_eq_false→Bj,not_lt_zero→A6
open Option renaming map_some→B3
namespace Go.Proofs.YtapciiffpnociadGreat
section
open Go Go.RowKit
variable [Bnds]
def nl:Nat->List SV->Sl
 | _,[]=>[]
 | i,s::ss=>(i,s)::nl (i+1) ss
def resOne (L:Sl) (H:Hp) (τ:List (Nat×TI)):ResultVar->Option SV
 | .tmp t=>some (L.get t)
 | .cell a t=>match L.get a with
  | .loc i o=>match Hp.get H i with
   | some (.blk _ cs)=>match (aj τ t).sh with
    | .struct _=>match B6 (o+(aj τ t).cells) cs.length with
     | true=>some (.agg ((cs.drop o).take (aj τ t).cells))
     | false=>none
    | .other=>none
    | _=>cs[o]?
   | _=>none
  | _=>none
def resL (L:Sl) (H:Hp) (τ:List (Nat×TI)):List ResultVar->Option (List SV)
 | []=>some []
 | r::rs=>match resOne L H τ r,resL L H τ rs with
  | some s,some ss=>some (s::ss)
  | _,_=>none
def resSV (L:Sl) (H:Hp) (τ:List (Nat×TI)) (rs:List ResultVar):Option SV :=
 match resL L H τ rs with
 | some [s]=>some s
 | some ss=>some (.tup ss)
 | none=>none
def RetQ (τ:List (Nat×TI)) (rs:List ResultVar) (R:Nat->SV->Hp->Prop):d6:=λx k L H =>
 (x = .ret∨x = .normal)/\∃ r,resSV L H τ rs=some r/\R k r H
def d9 (P:Program) (f:FuncId):Bool:=match P.funcs[f]? with
 | some fn => !(fn.name == "runtime.NumGoroutine") && fn.body.isSome
 | none=>false
def FnOk (dr:Bool) (P:Program) (τ:List (Nat×TI)) (τok:dc P τ) (f:FuncId) (args:List SV) (J k:Nat) (H:Hp) (R:Nat->SV->Hp->Prop):Prop :=
 d9 P f=true /\
 ∀ (O:Nat->Prop) (e:Env) (w:World) (vs:List Value),
  Heap ⟨P,τ,τok,O,w,λb=>b∈ae e H,0,J,e.an,none,cy,true,dr⟩ k H e w->RelL (Ctx.X ⟨P,τ,τok,O,w,λb=>b∈ae e H,0,J,e.an,none,cy,true,dr⟩ e H) e w args vs ->
  Calls P f vs.toArray w (λen w'=>∃ k' r H' e' v,R k' r H'/\en = .returned v/\Heap ⟨P,τ,τok,O,w,λb=>b∈ae e H,0,J,e.an,none,cy,true,dr⟩ k' H' e' w' /\
   Rel (Ctx.X ⟨P,τ,τok,O,w,λb=>b∈ae e H,0,J,e.an,none,cy,true,dr⟩ e' H') e' w' r v)
def FnOkE (dr:Bool) (P:Program) (τ:List (Nat×TI)) (τok:dc P τ) (f:FuncId) (args:List SV) (J k:Nat) (H:Hp) (R:Nat->SV->Hp->Prop) (E:Value->Prop):Prop :=
 d9 P f=true /\
 ∀ (O:Nat->Prop) (e:Env) (w:World) (vs:List Value),
  Heap ⟨P,τ,τok,O,w,λb=>b∈ae e H,0,J,e.an,none,cy,true,dr⟩ k H e w->RelL (Ctx.X ⟨P,τ,τok,O,w,λb=>b∈ae e H,0,J,e.an,none,cy,true,dr⟩ e H) e w args vs ->
  Calls P f vs.toArray w (λen w'=>(∃ k' r H' e' v,R k' r H'/\en = .returned v/\Heap ⟨P,τ,τok,O,w,λb=>b∈ae e H,0,J,e.an,none,cy,true,dr⟩ k' H' e' w' /\
   Rel (Ctx.X ⟨P,τ,τok,O,w,λb=>b∈ae e H,0,J,e.an,none,cy,true,dr⟩ e' H') e' w' r v) ∨
   ∃ (v:Value) (k':Nat) (e':Env),E v/\en = .panicked [{ v,recovered:=false }]/\Heap ⟨P,τ,τok,O,w,λb=>b∈ae e H,0,J,e.an,none,cy,true,dr⟩ k' [] e' w')
theorem FnOkE.ok {dr:Bool} {P:Program} {τ:List (Nat×TI)} {τok:dc P τ} {f:FuncId} {args:List SV} {J k:Nat} {H:Hp} {R:Nat->SV->Hp->Prop} (h:FnOkE dr P τ τok f args J k H R λ_=>False):FnOk dr P τ τok f args J k H R :=
 ⟨h.1,λO e w vs hH hr=>(h.2 O e w vs hH hr).mono λ_ _ hx=>hx.elim id fun⟨_,_,_,hE,_⟩=>hE.elim⟩
theorem Heap.reframe {P τ τok O w0 E0 n n' J β0 rd rd' pan pan' mk mk' dr} {k:Nat->Prop} {H:Hp} {e:Env} {w:World} (h:Heap ⟨P,τ,τok,O,w0,E0,n,J,β0,rd,pan,mk,dr⟩ k H e w):Heap ⟨P,τ,τok,O,w0,E0,n',J,β0,rd',pan',mk',dr⟩ k H e w :=
 ⟨h.top,h.heap,h.ids,h.nodup,h.mine,h.os,h.tape,h.output,h.drawn,h.size,h.block,h.obound,h.tabs,h.jle,h.anchor⟩
theorem Heap.bare {Γ:Ctx} {k:Nat->Prop} {H:Hp} {e:Env} {w:World} (h:Heap Γ k H e w):Heap Γ k [] e w :=
 ⟨h.top,λ_ hp=>(nomatch hp),.nil,.nil,λ_ hb=>(nomatch hb),h.os,h.tape,h.output,h.drawn,h.size,h.block,h.obound,h.tabs,h.jle,h.anchor⟩
def KeepsCells (w w':World):Prop:=∀ (b:Nat) (o:Obj),plainObj o=true->w.heap[b]?=some o->w'.heap[b]?=some o
theorem KeepsCells.cell {w w':World} (h:KeepsCells w w') {a:Addr} {v:Value} (hc:w.cell? a=some v):w'.cell? a=some v:=by
 unfold World.cell? at hc ⊢;split at hc
 ·rename_i c ty p hh;rw [h _ _ rfl hh];exact hc
 ·cases hc
theorem KeepsCells.fro {w w':World} (h:KeepsCells w w') {a:Addr} {v:Value} (hc:w.cell? a=some v) (hz:w.frozen? a=false):w'.frozen? a=false:=by
 unfold World.cell? at hc;split at hc
 ·rename_i c ty p hh;rw [<- hz];simp only [World.frozen?,h _ _ rfl hh,hh]
 ·cases hc
theorem RepC.turned {X:Nat->Prop} {w w':World} (hs:w.heap.size<=w'.heap.size) (hk:KeepsCells w w') {v:Value} {x:D} (h:RepC X w v x):RepC X w' v x:=by
 induction h with
 | int h=>exact .int h
 | bool=>exact .bool
 | str h=>exact .str h
 | nil=>exact .nil
 | zero=>exact .zero
 | slice c hn hc hm hX hb he hcell hrep hz ih=>exact .slice c hn hc hm hX (Aq hb hs) he (λi h j hj=>hk.cell (hcell i h j hj)) (λi h j hj=>ih i h j hj hs hk) (λhF i h j hj=>hk.fro (hcell i h j hj) (hz hF i h j hj))
 | ptr c hX hb hcell hrep hz ih=>exact .ptr c hX (Aq hb hs) (λj hj=>hk.cell (hcell j hj)) (λj hj=>ih j hj hs hk) (λhF j hj=>hk.fro (hcell j hj) (hz hF j hj))
 | own h ih=>exact .own (ih hs hk)
theorem ShpC.turned {X:Nat->Prop} {w w':World} (hs:w.heap.size<=w'.heap.size) (hk:KeepsCells w w') {v:Value} {x:D} (h:ShpC X w v x):ShpC X w' v x:=by
 induction h with
 | int h=>exact .int h
 | bool=>exact .bool
 | str h=>exact .str h
 | nil=>exact .nil
 | zero=>exact .zero
 | slice c hn hc hm hX hb he hcell hrep hz ih=>exact .slice c hn hc hm hX (Aq hb hs) he (λi h j hj=>hk.cell (hcell i h j hj)) ih (λhF i h j hj=>hk.fro (hcell i h j hj) (hz hF i h j hj))
 | ptr c hX hb hcell hrep hz ih=>exact .ptr c hX (Aq hb hs) (λj hj=>hk.cell (hcell j hj)) ih (λhF j hj=>hk.fro (hcell j hj) (hz hF j hj))
 | own h ih=>exact .own ih
theorem RgC.turned {X:Nat->Prop} {w w':World} {B q:Nat} (hs:w.heap.size<=w'.heap.size) (hk:KeepsCells w w') {v:Value} {x:D} (h:RgC X w B q v x):RgC X w' B q v x:=by
 refine⟨Ar h.1 hs,?_⟩
 have h2:=h.2;split
 ·exact ShpC.turned hs hk h2
 ·split at h2
  ·rename_i h5;exact absurd rfl h5
  ·exact RepC.turned hs hk h2
mutual
theorem Rel.turned {X:Nat->Prop} {e:Env} {w w':World} (hs:w.heap.size<=w'.heap.size) (hk:KeepsCells w w'):∀ (s:SV) (v:Value),Rel X e w s v->Rel X e w' s v
 | .junk,_,_=>trivial
 | .d _,_,h=>RepC.turned hs hk h
 | .nils,_,h=>h
 | .pd _,_,⟨b,off,h1,h2,h3,h4⟩=>⟨b,off,h1,Aq h2 hs,h3,λj hj =>
   let ⟨u,g1,g2⟩:=h4 j hj
   ⟨u,hk.cell g1,RepC.turned hs hk g2⟩⟩
 | .loc _ _,_,h=>h
 | .row _,_,h=>h
 | .mp _,_,h=>h
 | .md _ _,_,⟨b,h1,h2,h3,h4⟩=>⟨b,h1,Aq h2 hs,h3,h4.keep λ_ _ hh=>hk _ _ rfl hh⟩
 | .prow _ _ _ _,_,h=>h
 | .sl _ _ _ _,_,h=>h
 | .rsl _ _ _ _,_,h=>h
 | .rg _ _ _,_,h=>RgC.turned hs hk h
 | .fn _ caps,_,⟨vs,h1,h2⟩=>⟨vs,h1,RelL.turned hs hk caps vs h2⟩
 | .agg ss,_,⟨vs,h1,h2⟩=>⟨vs,h1,RelL.turned hs hk ss vs h2⟩
 | .tup ss,_,⟨vs,h1,h2⟩=>⟨vs,h1,RelL.turned hs hk ss vs h2⟩
 | .val _,_,h=>h
theorem RelL.turned {X:Nat->Prop} {e:Env} {w w':World} (hs:w.heap.size<=w'.heap.size) (hk:KeepsCells w w'):∀ (ss:List SV) (vs:List Value),RelL X e w ss vs->RelL X e w' ss vs
 | [],[],_=>trivial
 | [],_::_,h=>h.elim
 | _::_,[],h=>h.elim
 | s::ss,v::vs,⟨h1,h2⟩=>⟨Rel.turned hs hk s v h1,RelL.turned hs hk ss vs h2⟩
end
theorem HRel.turned {X:Nat->Prop} {e:Env} {w w':World} (hs:w.heap.size<=w'.heap.size) (hk:KeepsCells w w') (p:Nat×HB) (h:HRel X e w p):HRel X e w' p:=by
 obtain⟨id,hbk⟩:=p;cases hbk with
 | blk ty cs =>
  obtain⟨vs,h1,h2,h3⟩:=h;exact⟨vs,hk _ _ rfl h1,RelL.turned hs hk _ _ h2,h3⟩
 | row ty es xs =>
  obtain⟨vs,h1,h2,h3,h4⟩:=h;refine⟨vs,⟨h1.1,?_⟩,h2,h3,λi hi j hj=>?_⟩
  ·rcases h1.2 with h5|⟨g,cap,cur,hv,hg,hh,r⟩
   ·exact Or.inl h5
   ·exact Or.inr ⟨g,cap,cur,hv,hg,hk _ _ rfl hh,r⟩
  ·obtain⟨v,g1,g2⟩:=h4 i hi j hj;exact⟨v,g1,RepC.turned hs hk g2⟩
 | map kd kvs=>exact MapIs.keep h λes clock h1=>hk _ _ rfl h1
theorem Heap.turned {Γ:Ctx} {k:Nat->Prop} {H:Hp} {e:Env} {w w':World} (h:Heap Γ k H e w) (hs:w.heap.size<=w'.heap.size) (hk:KeepsCells w w') (hos:w'.os=w.os) (ht:w'.tape=w.tape) (ho:w'.output=w.output) (hdr:w'.drawn=w.drawn)
  (hb:∀ b,b<Γ.w0.heap.size->¬ Γ.E0 b->w'.heap[b]?=w.heap[b]?):Heap Γ k H e w' where
 top:=h.top
 heap p hp:=⟨(h.heap p hp).1,HRel.turned hs hk p (h.heap p hp).2⟩
 ids:=h.ids
 nodup:=h.nodup
 mine:=h.mine
 os:=hos.trans h.os
 tape:=ht.trans h.tape
 output:=ho.trans h.output
 drawn hd:=hdr▸h.drawn hd
 size:=Ar h.size hs
 block b h1 h2:=(hb b h1 h2).trans (h.block b h1 h2)
 obound:=h.obound
 tabs:=h.tabs
 jle:=h.jle
 anchor:=h.anchor
theorem nh {w:World} {r:Nat} {o o':Obj} (h:w.heap[r]?=some o) (hn:plainObj o=false):KeepsCells w (w.putObj r o'):=by
 intro b o2 hp hb;by_cases hbr:b=r
 ·subst hbr;rw [h] at hb;cases hb;rw [hn] at hp;cases hp
 ·rw [World.putObj_heap_other hbr];exact hb
theorem xq {Γ:Ctx} {fn:Func} {u:FrameMode} (hu:u≠.run) {R:Ending->World->Prop} {tmps:Array Value}:∀ (rs:List Nat) (w:World),rs.Nodup->(∀ r∈rs,Γ.w0.heap.size<=r/\w.heap[r]?=some (Obj.deferred (some []))) ->
  (∀ w',w.heap.size<=w'.heap.size->KeepsCells w w'->w'.os=w.os->w'.tape=w.tape->w'.output=w.output->w'.drawn=w.drawn->(∀ b,b<Γ.w0.heap.size->w'.heap[b]?=w.heap[b]?)->LeavesInM Fence.wide 0 Γ.P fn tmps R [] u w') ->
  LeavesInM Fence.wide 0 Γ.P fn tmps R (rs.map mark) u w
 | [],w,_,_,h=>h w (Af _) (λ_ _ _ h=>h) rfl rfl rfl rfl (λ_ _=>rfl)
 | r::rs,w,hn,hr,h=>by
  obtain⟨h1,h2⟩:=List.nodup_cons.1 hn
  obtain⟨hr1,hr2⟩:=hr r (Ae ..)
  refine⟨hu,.inl ⟨r,_,rfl,run_takeDeferred hr2,?_⟩⟩
  have hk:KeepsCells w (w.putObj r (.deferred none)):=nh hr2 rfl
  refine xq hu rs _ h2 (λx hx=>⟨(hr x (Ah _ hx)).1,?_⟩) λw' g1 g2 g3 g4 g5 gd g6=>h w' (by rw [World.putObj_size] at g1;exact g1) (λb o hp hb=>g2 _ _ hp (hk _ _ hp hb)) g3 g4 g5 gd λb hb=>(g6 b hb).trans ?_
  ·rw [World.putObj_heap_other (λhxr=>h1 (by rw [<- hxr];exact hx))];exact (hr x (Ah _ hx)).2
  ·rw [World.putObj_heap_other (by omega)]
theorem xy {X e w}:∀ (ss:List SV) (vs more:List Value) (i:Nat) (pre:List Value),pre.length=i->RelL X e w ss vs->∀ t,Rel X e w ((nl i ss).get t) ((pre++vs++more).toArray.getD t undef)
 | [],_,_,_,_,_,_,_=>trivial
 | _::_,[],_,_,_,_,h,_=>h.elim
 | s::ss,v::vs,more,i,pre,hp,⟨h1,h2⟩,t=>by
  simp only [nl,Sl.get_cons];split
  ·rename_i ht;subst ht;have:(pre++v::vs++more).toArray.getD i undef=v:=by
    simp [Array.getD_eq_getD_getElem?,<- hp]
   rw [this];exact h1
  ·have:=xy ss vs more (i+1) (pre++[v]) (by simp [hp]) h2 t
   simpa using this
theorem resOne_run {Γ:Ctx} {k:Nat->Prop} {L H e a w} (m:Models Γ k L H e a w) (r:ResultVar) (s:SV) (h:resOne L H Γ.τ r=some s) :
  ∃ v,(match r with|.tmp t=>(pure (a.tmps.getD t undef):Sem Value)|.cell p t=>do loadVar t (<- asAddr (a.tmps.getD p undef))).run Γ.P w = .ok v w/\Rel (Γ.X e H) e w s v:=by
 cases r with
 | tmp t =>
  simp only [resOne,Option.some.injEq] at h;exact⟨_,by simp,h▸m.slot t⟩
 | cell p t =>
  simp only [resOne] at h;have hp:=m.slot p;cases hL:L.get p with
  | loc i o =>
   simp only [hL] at h hp;obtain⟨_,hv⟩:=hp;cases hH:Hp.get H i with
   | none=>simp [hH] at h
   | some b =>
    cases b with
    | row ty es xs=>simp [hH] at h
    | map kd kvs=>simp [hH] at h
    | blk ty cs =>
     simp only [hH] at h;have hb:=(m.heap _ (Hp.mem_of hH)).2;have one:(aj Γ.τ t).sh≠.other->(aj Γ.τ t).sh.isAgg=false->cs[o]?=some s->∃ v,(do loadVar t (<- asAddr (a.tmps.getD p undef)):Sem Value).run Γ.P w = .ok v w/\Rel (Γ.X e H) e w s v:=by
      intro ho hg hc;obtain⟨v,g1,g2⟩:=HRel.blk_cell hb hc;exact⟨v,by simp [hv,asAddr,loadVar,Ctx.agg (Γ:=Γ) (t:=t) ho,Ctx.sh,hg,g1],g2⟩
     cases hs:(aj Γ.τ t).sh with
     | struct l =>
      simp only [hs] at h;cases hn:B6 (o+(aj Γ.τ t).cells) cs.length with
      | false=>simp [hn] at h
      | true =>
       simp only [hn,Option.some.injEq] at h;obtain⟨vs,g1,g2,g3,_⟩:=HRel.blk_cells hb o (Γ.cells t) (Ac hn);have ht:Γ.sh t = .struct l:=hs;have hr:=m8 (Γ:=Γ) (t:=t) (w':=w) (p:=⟨e.β i,o,none⟩) (by rw [ht];intro h;cases h) (by rw [ht];rfl) g1 g2;exact⟨.agg vs.toArray,by simp [hv,asAddr,hr],h▸⟨vs,rfl,g3⟩⟩
     | other=>simp [hs] at h
     | int _=>simp only [hs] at h;exact one (by simp [hs]) (by simp [hs,Sh.isAgg]) h
     | bool=>simp only [hs] at h;exact one (by simp [hs]) (by simp [hs,Sh.isAgg]) h
     | str=>simp only [hs] at h;exact one (by simp [hs]) (by simp [hs,Sh.isAgg]) h
     | slice _=>simp only [hs] at h;exact one (by simp [hs]) (by simp [hs,Sh.isAgg]) h
     | ptr _=>simp only [hs] at h;exact one (by simp [hs]) (by simp [hs,Sh.isAgg]) h
     | map _ _=>simp only [hs] at h;exact one (by simp [hs]) (by simp [hs,Sh.isAgg]) h
  | _=>simp [hL] at h
theorem results_run {Γ:Ctx} {k:Nat->Prop} {L H e a w} (m:Models Γ k L H e a w) (fn:Func) (s:SV) (h:resSV L H Γ.τ fn.results.toList=some s) :
  ∃ v,(results fn a.tmps).run Γ.P w = .ok v w/\Rel (Γ.X e H) e w s v:=by
 have key:∀ (rs:List ResultVar) (ss:List SV),resL L H Γ.τ rs=some ss->∃ vs:List Value,(rs.mapM λ(r:ResultVar)=>match r with|.tmp t=>(pure (a.tmps.getD t undef):Sem Value)|.cell p t=>do loadVar t (<- asAddr (a.tmps.getD p undef))).run Γ.P w = .ok vs w/\RelL (Γ.X e H) e w ss vs:=by
  intro rs;induction rs with
  | nil=>intro ss h;simp only [resL,Option.some.injEq] at h;subst h;exact⟨[],by simp,trivial⟩
  | cons r rs ih =>
   intro ss h;simp only [resL] at h;cases h1:resOne L H Γ.τ r with
   | none=>simp [h1] at h
   | some s1 =>
    cases h2:resL L H Γ.τ rs with
    | none=>simp [h1,h2] at h
    | some ss2 =>
     simp only [h1,h2,Option.some.injEq] at h;subst h;obtain⟨v,g1,g2⟩:=resOne_run m r s1 h1;obtain⟨vs,g3,g4⟩:=ih ss2 h2;refine⟨v::vs,?_,g2,g4⟩
     rw [Ho];simp only [Sem.run_bind,Sem.run_pure];cases r<;>simp_all
 unfold resSV at h;cases hL:resL L H Γ.τ fn.results.toList with
 | none=>simp [hL] at h
 | some ss =>
  obtain⟨vs,g1,g2⟩:=key _ _ hL;have hr:(results fn a.tmps).run Γ.P w = .ok (if h:vs.toArray.size=1 then vs.toArray[0] else .tuple vs.toArray) w:=by
   unfold results;rw [Fg];rw [map_eq_pure_bind];simp only [Sem.run_bind,Sem.run_pure];exact congrArg (λr:Result (List Value)=>(r.andThen λa w'=>Result.ok a.toArray w').andThen λa w'=>Result.ok (if h:a.size=1 then a[0] else Value.tuple a) w') g1
  have hlen:=RelL.length _ _ g2;rw [hL] at h;refine⟨_,hr,?_⟩
  clear hr g1 hL key;cases ss with
  | nil =>
   cases vs with
   | nil=>cases h;exact⟨[],rfl,trivial⟩
   | cons v vs=>exact g2.elim
  | cons s1 ss =>
   cases vs with
   | nil=>exact g2.elim
   | cons v1 vs =>
    cases ss with
    | nil =>
     cases vs with
     | nil=>cases h;exact g2.1
     | cons v vs=>exact g2.2.elim
    | cons s2 ss =>
     cases vs with
     | nil=>exact g2.2.elim
     | cons v2 vs=>cases h;exact⟨v1::v2::vs,by simp,g2⟩
theorem fn_enterE {dr:Bool} {P:Program} {τ:List (Nat×TI)} {τok:dc P τ} {f:FuncId} {fn:Func} {c:Code} {args:List SV} {J k:Nat} {H:Hp} {R:Nat->SV->Hp->Prop} {E:Value->Prop} (N:Nat) (hf:P.funcs[f]?=some fn) (hb:fn.body=some c)
  (hN:args.length+(fn.ntmps-args.length)=N) (hcall:d9 P f=true)
  (h:∀ (O:Nat->Prop) (w0:World) (E0:Nat->Prop) (β0:Nat->Nat×Value),DW ⟨P,τ,τok,O,w0,E0,N,J,β0,none,⟨λv _ _=>E v,[]⟩,true,dr⟩ c (RetQ τ fn.results.toList R) k (nl 0 args) H):FnOkE dr P τ τok f args J k H R E:=by
 refine⟨hcall,?_⟩
 intro O e w vs hH hr;have hl:=RelL.length _ _ hr;have hstart:Models ⟨P,τ,τok,O,w,λb=>b∈ae e H,N,J,e.an,none,⟨λv _ _=>E v,[]⟩,true,dr⟩ k (nl 0 args) H e { tmps:=vs.toArray++E3 (fn.ntmps-vs.toArray.size) undef,defers:=[] } w:=by
  refine⟨hH.reframe,Marks.nil,?_,λt=>?_⟩
  ·simp [<- hN,hl]
  ·have:=xy args vs (An (fn.ntmps-vs.length) undef) 0 [] rfl hr t
   have he:vs.toArray++E3 (fn.ntmps-vs.toArray.size) undef=([]++vs++An (fn.ntmps-vs.length) undef).toArray:=by simp
   rw [he];exact this
 refine callsIn_wide.1 (callsIn_of_wp_marks (F:=Fence.wide) (n:=0) hf hb trivial (wpIn_mono (h O w (λb=>b∈ae e H) e.an e _ w hstart) ?_));rintro ex a' w' (⟨k',L',H',e',m',hx,r,hres,hR⟩|⟨v,k',L',H',e',rfl,hE,m'⟩)
 ·obtain⟨rs,hrs,_,hnd,hm⟩:=m'.defers;have key:LeavesInM Fence.wide 0 P fn a'.tmps (λen w'=>(∃ k' r H' e' v,R k' r H'/\en = .returned v/\Heap ⟨P,τ,τok,O,w,λb=>b∈ae e H,0,J,e.an,none,cy,true,dr⟩ k' H' e' w' /\
   Rel (Ctx.X ⟨P,τ,τok,O,w,λb=>b∈ae e H,0,J,e.an,none,cy,true,dr⟩ e' H') e' w' r v) ∨
   ∃ (v:Value) (k':Nat) (e':Env),E v/\en = .panicked [{ v,recovered:=false }]/\Heap ⟨P,τ,τok,O,w,λb=>b∈ae e H,0,J,e.an,none,cy,true,dr⟩ k' [] e' w') a'.defers .returning w':=by
   rw [hrs,B0];refine xq (Γ:=⟨P,τ,τok,O,w,λb=>b∈ae e H,N,J,e.an,none,⟨λv _ _=>E v,[]⟩,true,dr⟩) (by simp) rs w' hnd hm λw2 g1 g2 g3 g4 g5 gd g6=>?_
   have hH2:=m'.toHeap.turned g1 g2 g3 g4 g5 gd (λb hb _=>g6 b hb);have m2:Models ⟨P,τ,τok,O,w,λb=>b∈ae e H,N,J,e.an,none,⟨λv _ _=>E v,[]⟩,true,dr⟩ k' L' H' e' { a' with defers:=[] } w2:=⟨hH2,Marks.nil,m'.len,λt=>Rel.turned g1 g2 _ _ (m'.slot t)⟩
   obtain⟨v,g7,g8⟩:=results_run m2 fn r hres;exact⟨v,g7,.inl ⟨k',r,H',e',v,hR,rfl,hH2.reframe,g8⟩⟩
  rcases hx with rfl|rfl
  ·exact key
  ·exact key
 ·obtain⟨rs,hrs,_,hnd,hm⟩:=m'.defers;show LeavesInM Fence.wide 0 P fn a'.tmps _ a'.defers (.panicking _) w';rw [hrs,B0];refine xq (Γ:=⟨P,τ,τok,O,w,λb=>b∈ae e H,N,J,e.an,none,⟨λv _ _=>E v,[]⟩,true,dr⟩) (by simp) rs w' hnd hm λw2 g1 g2 g3 g4 g5 gd g6=>?_
  exact .inr ⟨v,k',e',hE,rfl,(m'.toHeap.bare.turned g1 g2 g3 g4 g5 gd (λb hb _=>g6 b hb)).reframe⟩
theorem fn_enter {dr:Bool} {P:Program} {τ:List (Nat×TI)} {τok:dc P τ} {f:FuncId} {fn:Func} {c:Code} {args:List SV} {J k:Nat} {H:Hp} {R:Nat->SV->Hp->Prop} (N:Nat) (hf:P.funcs[f]?=some fn) (hb:fn.body=some c)
  (hN:args.length+(fn.ntmps-args.length)=N) (hcall:d9 P f=true)
  (h:∀ (O:Nat->Prop) (w0:World) (E0:Nat->Prop) (β0:Nat->Nat×Value),DW ⟨P,τ,τok,O,w0,E0,N,J,β0,none,cy,true,dr⟩ c (RetQ τ fn.results.toList R) k (nl 0 args) H):FnOk dr P τ τok f args J k H R :=
 FnOkE.ok (fn_enterE N hf hb hN hcall h)
theorem foE {dr:Bool} {P:Program} {τ:List (Nat×TI)} {τok:dc P τ} {f:FuncId} {fn:Func} {c:Code} {args:List SV} {J k:Nat} {H:Hp} {R:Nat->SV->Hp->Prop} {N:Nat} (hf:P.funcs[f]?=some fn) (h:∀ (O:Nat->Prop) (w0:World) (E0:Nat->Prop) (β0:Nat->Nat×Value),DW ⟨P,τ,τok,O,w0,E0,N,J,β0,none,cy,true,dr⟩ c (RetQ τ fn.results.toList R) k (nl 0 args) H) (hb:fn.body=some c:=by exact rfl) (hN:args.length+(fn.ntmps-args.length)=N:=by exact rfl) (hcall:d9 P f=true:=by kernel_rfl):FnOk dr P τ τok f args J k H R :=fn_enter N hf hb hN hcall h
mutual
theorem Rel.env {X e e' w}:∀ (s:SV) (v:Value),s.low 0=true->Rel X e w s v->Rel X e' w s v
 | .junk,_,_,_=>trivial
 | .d _,_,_,h=>h
 | .nils,_,_,h=>h
 | .pd _,_,_,h=>h
 | .loc _ _,_,hb,_=>by simp [SV.low,As] at hb
 | .row _,_,hb,_=>by simp [SV.low,As] at hb
 | .mp _,_,hb,_=>by simp [SV.low,As] at hb
 | .md _ _,_,_,h=>h
 | .prow _ _ _ _,_,hb,_=>by simp [SV.low,As] at hb
 | .sl _ _ _ _,_,hb,_=>by simp [SV.low,As] at hb
 | .rsl _ _ _ _,_,hb,_=>by simp [SV.low,As] at hb
 | .rg _ _ _,_,_,h=>h
 | .fn _ caps,_,hb,⟨vs,h1,h2⟩=>⟨vs,h1,RelL.env caps vs hb h2⟩
 | .agg ss,_,hb,⟨vs,h1,h2⟩=>⟨vs,h1,RelL.env ss vs hb h2⟩
 | .tup ss,_,hb,⟨vs,h1,h2⟩=>⟨vs,h1,RelL.env ss vs hb h2⟩
 | .val _,_,_,h=>h
theorem RelL.env {X e e' w}:∀ (ss:List SV) (vs:List Value),SV.lowL 0 ss=true->RelL X e w ss vs->RelL X e' w ss vs
 | [],[],_,_=>trivial
 | [],_::_,_,h=>h.elim
 | _::_,[],_,h=>h.elim
 | s::ss,v::vs,hb,h=>by
  simp only [SV.lowL,Ad] at hb
  exact⟨Rel.env s v hb.1 h.1,RelL.env ss vs hb.2 h.2⟩
end
mutual
def SV.weak:SV->SV
 | .rg _ 0 x=>.d x
 | .rg _ 1 x=>.d x
 | .d (.own _ x)=>.d x
 | .agg ss=>.agg (SV.weakL ss)
 | .tup ss=>.tup (SV.weakL ss)
 | s=>s
def SV.weakL:List SV->List SV
 | []=>[]
 | s::ss=>SV.weak s::SV.weakL ss
end
section
variable {X : Nat -> Prop} {e : Env} {w : World}
theorem RepC.anyX {X Y:Nat->Prop} {w:World} {v:Value} {x:D} (hY:∀ b,b<w.heap.size->Y b->X b) (h:RepC X w v x):RepC Y w v x:=RepC.keep (Af _) (λ_ _ _=>rfl) hY h
mutual
theorem Rel.weak:∀ (s:SV) (v:Value),Rel X e w s v->Rel X e w s.weak v
 | .rg _ 0 _,_,h=>RepC.anyX (λ_ _ hy=>.inl hy) h.2
 | .rg _ 1 _,_,h=>RepC.anyX (λ_ _ hy=>.inl hy) h.2
 | .rg _ (_+2) _,_,h=>h
 | .agg ss,_,⟨vs,g1,g2⟩=>⟨vs,g1,RelL.weak ss vs g2⟩
 | .tup ss,_,⟨vs,g1,g2⟩=>⟨vs,g1,RelL.weak ss vs g2⟩
 | .junk,_,h=>h
 | .d (.own _ _),_,h=>by
  have h:RepC _ _ _ _:=h
  cases h with
  | own h=>exact RepC.anyX (λ_ _ hy=>.inl hy) h
 | .d (.int _ _),_,h=>h
 | .d (.bool _),_,h=>h
 | .d (.str _),_,h=>h
 | .d (.slice _ _),_,h=>h
 | .d (.ptr _),_,h=>h
 | .nils,_,h=>h
 | .pd _,_,h=>h
 | .loc _ _,_,h=>h
 | .row _,_,h=>h
 | .mp _,_,h=>h
 | .md _ _,_,h=>h
 | .prow _ _ _ _,_,h=>h
 | .sl _ _ _ _,_,h=>h
 | .rsl _ _ _ _,_,h=>h
 | .fn _ _,_,h=>h
 | .val _,_,h=>h
theorem RelL.weak:∀ (ss:List SV) (vs:List Value),RelL X e w ss vs->RelL X e w (SV.weakL ss) vs
 | [],[],_=>trivial
 | [],_::_,h=>h.elim
 | _::_,[],h=>h.elim
 | s::ss,v::vs,h=>⟨Rel.weak s v h.1,RelL.weak ss vs h.2⟩
end
end
def FnP (dr:Bool) (P:Program) (τ:List (Nat×TI)) (τok:dc P τ) (f:FuncId) (args:List SV) (R:SV->Prop):Prop:=FnOk dr P τ τok f args 0 0 [] (λ_ r H'=>H'=[]/\r.low 0=true/\R r)
section
variable {Γ : Ctx} {k : Nat -> Prop} {L : Sl} {H : Hp} {K : ca} {ops : List Oper} {rest : List Oper}
def mz (L:Sl):List Operand->List SV
 | []=>[]
 | x::xs=>ai L x::mz L xs
def dy:List Operand->Bool
 | []=>true
 | x::xs=>de x && dy xs
theorem e7 {a w e} (m:Models Γ k L H e a w):∀ (xs:List Operand),dy xs=true->RelL (Γ.X e H) e w (mz L xs) (xs.map a.eval)
 | [],_=>trivial
 | x::xs,h=>by
  simp only [dy,Ad] at h
  exact⟨m.op x (b7 h.1),e7 m xs h.2⟩
theorem wx {P:Program} {f:FuncId} (hc:d9 P f=true) (args:Array Value) (w:World):(callFunc f args).run P w = .ok (.enter f args) w:=by
 unfold d9 at hc;cases hf:P.funcs[f]? with
 | none=>simp [hf] at hc
 | some fn =>
  simp only [hf,Ad,Bool.not_eq_true'] at hc;have h1 : fn.name ≠ "runtime.NumGoroutine" := by simpa using hc.1
  have h2:fn.body≠none:=by intro hb;simp [hb] at hc
  simp [callFunc,hf,h1,h2]
theorem jc {P:Program} {f:FuncId} (hc:d9 P f=true) (a:Act) (xs:List Operand) (ts:Array TypeId) (dst:Option Tmp) (ty:TypeId) (pos) (after) (guard) (w:World) :
  (execOp a.eval ⟨dst,.call { callee:=.value (.func f),args:=xs.toArray,argTypes:=ts },ty,pos,after,guard⟩).run P w = .ok (.enter f (xs.map a.eval).toArray) w:=by
 simp only [execOp,resolve];have:a.eval (.func f) = .func (.func f) #[] #[]:=rfl
 simp [this,Deferred.ofValue,invoke,wx hc]
theorem FnP.use {dr:Bool} {Γ:Ctx} {τ:List (Nat×TI)} {τok:dc Γ.P τ} {f:FuncId} {args:List SV} {R:SV->Prop} (hc:FnP dr Γ.P τ τok f args R) {e:Env} {w:World} {a:Act} (m:Models Γ k L H e a w) (hlow:SV.lowL 0 args=true)
  (vs:List Value) (hr:RelL (Γ.X e H) e w args vs) :
  Calls Γ.P f vs.toArray w (λen w'=>∃ r v,R r/\en = .returned v/\Beld dr w.heap.size w w'/\r.low 0=true/\Rel (Γ.X e H) e w' r v):=by
 have hO:∀ b,Γ.X e H b->b<w.heap.size:=λb hb=>hb.elim (λh=>Aq (m.obound b h).1 m.size) (m.lt b)
 have hX:∀ e' b,Ctx.X ⟨Γ.P,τ,τok,Γ.X e H,w,λb=>b∈ae (e.ren id 0) [],0,0,(e.ren id 0).an,none,cy,true,dr⟩ e' [] b↔Γ.X e H b:=by
  intro e' b;unfold Ctx.X;simp [ae]
 refine (hc.2 (Γ.X e H) (e.ren id 0) w vs ⟨λ_=>Iff.rfl,by simp,by simp,by simp [ae],by simp [ae],rfl,rfl,rfl,λ_=>Af _,Af _,λ_ _ _=>rfl,λb hb=>⟨hO b hb,by simp [ae]⟩,m.tabsAt.sub (by simp [ae]),λj hj=>absurd hj (A6 j),λj hj=>absurd hj (A6 j)⟩ ?_).mono ?_
 ·exact RelL.keep (Af _) (λ_ _ _=>rfl) (λb _ hy=>(hX _ b).1 hy) _ _ (RelL.env _ _ hlow hr)
 ·rintro en w' ⟨k',r,H',e',v,⟨rfl,hlr,hR⟩,rfl,hH,hrel⟩;refine⟨r,v,hR,rfl,⟨⟨hH.os,hH.tape,hH.output,hH.size,λb hb=>hH.block b hb (by simp [ae])⟩,hH.drawn⟩,hlr,?_⟩
  exact Rel.keep (Af _) (λ_ _ _=>rfl) (λb _ hy=>(hX _ b).2 hy) _ _ (Rel.env _ _ hlr hrel)
end
section
variable {Γ : Ctx} {k : Nat} {L : Sl} {H : Hp} {K : ca} {ops : List Oper} {rest : List Oper}
theorem dl_call {f:FuncId} {xs:List Operand} {ts:Array TypeId} {ty:TypeId} {pos:String} {af:Array Edge} {g:Option (Nat×Bool)} {d:Nat} {args:List SV} {R:SV->Prop} (hw:aq ops L g=some true)
  (hc:FnP Γ.dr Γ.P Γ.τ Γ.τok f args R) (ha:mz L xs=args) (hok:dy xs=true) (hlow:SV.lowL 0 args=true) (hd:As d Γ.n=true)
  (hk:∀ r,R r->DL Γ ops rest K k ((d,r)::L) H) :
  DL Γ ops (⟨some d,.call { callee:=.value (.func f),args:=xs.toArray,argTypes:=ts },ty,pos,af,g⟩::rest) K k L H:=by
 refine jk hw λe a w m=>?_
 unfold Oper.wp;rw [jc hc.1];rw [Oper.upon_enter];refine (hc.use (τ:=Γ.τ) (τok:=Γ.τok) (Γ:=Γ) m hlow _ (ha▸e7 m xs hok)).mono ?_;rintro en w' ⟨r,v,hR,rfl,hb,hlr,hrel⟩;exact⟨k,_,H,e,(m.below hb).put (Ac hd) (Rel.keep (Af _) (λ_ _ _=>rfl) (λ_ _ hy=>hy) _ _ hrel),hk r hR⟩
def DQ (Γ:Ctx) (ops:List Oper) (rest:List Oper) (K:ca) (k:Nat) (L:Sl) (H:Hp):Prop :=
 ∀ e a w,Models Γ k L H e a w->wpQuiet Γ.P ops.toArray (λw'=>Beld Γ.dr w.heap.size w w') (λa'=>∃ L',Models Γ k L' H e a' w/\K k L' H) rest a
theorem dq_nil (h:K k L H):DQ Γ ops [] K k L H:=λ_ _ _ m=>wpQuiet_nil ⟨L,m,h⟩
theorem dq_ev {d:Nat} {op:Op} {ty:TypeId} {pos:String} {af:Array Edge} {g:Option (Nat×Bool)} {s:SV} (hw:aq ops L g=some true) (h:Ev Γ k L H op ty s) (hd:As d Γ.n=true)
  (hk:DQ Γ ops rest K k ((d,s)::L) H):DQ Γ ops (⟨some d,op,ty,pos,af,g⟩::rest) K k L H:=by
 intro e a w m;refine wpQuiet_step λK' hK'=>?_
 rw [if_pos (ie m hw)];obtain⟨v,h1,h2⟩:=h e a w m;refine⟨v,λw' hw'=>?_,hK' _ (hk e _ w (m.put (Ac hd) h2))⟩
 unfold Oper.quietAt;rw [h1 (some d) pos af g w' hw'.toBelow];exact⟨rfl,rfl⟩
theorem dq_skip {op:Op} {ty:TypeId} {pos:String} {af:Array Edge} {g:Option (Nat×Bool)} {d:Nat} (hw:aq ops L g=some false) (hd:As d Γ.n=true)
  (h:DQ Γ ops rest K k ((d,.tup [])::L) H):DQ Γ ops (⟨some d,op,ty,pos,af,g⟩::rest) K k L H:=by
 intro e a w m;refine wpQuiet_step λK' hK'=>?_
 rw [if_neg (by rw [ie m hw];exact Bool.false_ne_true)];exact hK' _ (h e _ w (m.put (s:=.tup []) (Ac hd) ⟨[],rfl,trivial⟩))
theorem models_bool {k:Nat->Prop} {e a w} {t:Nat} {b:Bool} (m:Models Γ k L H e a w) (hb:L.get t = .d (.bool b)) (b':Bool) (hb':b=b'):Models Γ k ((t,.d (.bool b'))::L) H e a w :=
 ⟨m.toHeap,m.defers,m.len,λt'=>by
  rw [Sl.get_cons]
  split
  ·rename_i h;subst h;rw [<- hb',<- hb];exact m.slot t
  ·exact m.slot t'⟩
theorem dq_split {t:Nat} {b:Bool} (hb:L.get t = .d (.bool b)) (ht:b=true->DQ Γ ops rest K k ((t,.d (.bool true))::L) H) (hf:b=false->DQ Γ ops rest K k ((t,.d (.bool false))::L) H) :
  DQ Γ ops rest K k L H:=by
 intro e a w m;cases b with
 | true=>exact ht rfl e a w (models_bool m hb true rfl)
 | false=>exact hf rfl e a w (models_bool m hb false rfl)
def DS (q:Bool) (Γ:Ctx) (ops:List Oper) (rest:List Oper) (K:ca) (k:Nat) (L:Sl) (H:Hp):Prop:=match q with
 | true=>DQ Γ ops rest K k L H
 | false=>DL Γ ops rest K k L H
section
variable {q : Bool}
theorem jj (h:K k L H):DS q Γ ops [] K k L H:=by
 cases q
 ·exact dl_nil h
 ·exact dq_nil h
theorem jo {d:Nat} {op:Op} {ty:TypeId} {pos:String} {af:Array Edge} {g:Option (Nat×Bool)} {s:SV} (h:Ev Γ k L H op ty s) (hw:aq ops L g=some true) (hd:As d Γ.n=true)
  (hk:DS q Γ ops rest K k ((d,s)::L) H):DS q Γ ops (⟨some d,op,ty,pos,af,g⟩::rest) K k L H:=by
 cases q
 ·exact dl_ev hw h hd hk
 ·exact dq_ev hw h hd hk
theorem ds_skip {op:Op} {ty:TypeId} {pos:String} {af:Array Edge} {g:Option (Nat×Bool)} {d:Nat} (hw:aq ops L g=some false) (hd:As d Γ.n=true)
  (h:DS q Γ ops rest K k ((d,.tup [])::L) H):DS q Γ ops (⟨some d,op,ty,pos,af,g⟩::rest) K k L H:=by
 cases q
 ·exact dl_skip hw hd h
 ·exact dq_skip hw hd h
theorem ds_split {t:Nat} {b:Bool} (hb:L.get t = .d (.bool b)) (ht:b=true->DS q Γ ops rest K k ((t,.d (.bool true))::L) H) (hf:b=false->DS q Γ ops rest K k ((t,.d (.bool false))::L) H) :
  DS q Γ ops rest K k L H:=by
 cases q
 ·exact dl_split hb ht hf
 ·exact dq_split hb ht hf
theorem s8 {id:Nat} {l:List Oper} {Q:d6} (hn:dd l=true) (h:DS false Γ l l (Q .normal) k L H):DW Γ (.region id l.toArray false) Q k L H:=dw_region hn h
theorem ow {f:FuncId} {xs:List Operand} {ts:Array TypeId} {ty:TypeId} {pos:String} {af:Array Edge} {g:Option (Nat×Bool)} {d:Nat} {args:List SV} {R:SV->Prop} (hw:aq ops L g=some true)
  (ha:mz L xs=args) (hc:FnP Γ.dr Γ.P Γ.τ Γ.τok f args R) (hok:dy xs=true) (hlow:SV.lowL 0 args=true) (hd:As d Γ.n=true)
  (hk:∀ r,R r->DS false Γ ops rest K k ((d,r)::L) H) :
  DS false Γ ops (⟨some d,.call { callee:=.value (.func f),args:=xs.toArray,argTypes:=ts },ty,pos,af,g⟩::rest) K k L H:=dl_call hw hc ha hok hlow hd hk
end
end
theorem fnp_enter' {dr:Bool} {P:Program} {τ:List (Nat×TI)} {τok:dc P τ} {f:FuncId} {fn:Func} {c:Code} {args:List SV} {R:SV->Prop} (N:Nat) (hf:P.funcs[f]?=some fn) (hb:fn.body=some c)
  (hN:args.length+(fn.ntmps-args.length)=N) (hcall:d9 P f=true)
  (h:∀ (O:Nat->Prop) (w0:World) (E0:Nat->Prop) (β0:Nat->Nat×Value),DW ⟨P,τ,τok,O,w0,E0,N,0,β0,none,cy,true,dr⟩ c (RetQ τ fn.results.toList λ_ r _=>r.low 0=true/\R r) 0 (nl 0 args) []):FnP dr P τ τok f args R:=by
 have h2:=fn_enter (J:=0) (k:=0) (H:=[]) N hf hb hN hcall (R:=λ_ r _=>r.low 0=true/\R r) h;refine⟨h2.1,λO e w vs hH hr=>(h2.2 O e w vs hH hr).mono ?_⟩
 rintro en w' ⟨k',r,H',e',v,⟨hl,hR⟩,rfl,hH',hrel⟩;obtain⟨g1,g2⟩:=hH'.ren id 0 [] trivial rfl rfl rfl rfl rfl;exact⟨0,r,[],e'.ren id 0,v,⟨rfl,hl,hR⟩,rfl,g1,Rel.keep (Af _) (λ_ _ _=>rfl) (λb _ hy=>g2 b hy) _ _ (Rel.env _ _ hl hrel)⟩
theorem fqE {dr:Bool} {P:Program} {τ:List (Nat×TI)} {τok:dc P τ} {f:FuncId} {fn:Func} {c:Code} {args:List SV} {R:SV->Prop} {N:Nat} (hf:P.funcs[f]?=some fn) (h:∀ (O:Nat->Prop) (w0:World) (E0:Nat->Prop) (β0:Nat->Nat×Value),DW ⟨P,τ,τok,O,w0,E0,N,0,β0,none,cy,true,dr⟩ c (RetQ τ fn.results.toList λ_ r _=>r.low 0=true/\R r) 0 (nl 0 args) []) (hb:fn.body=some c:=by exact rfl) (hN:args.length+(fn.ntmps-args.length)=N:=by exact rfl) (hcall:d9 P f=true:=by kernel_rfl):FnP dr P τ τok f args R:=fnp_enter' N hf hb hN hcall h
theorem ak {Γ:Ctx} {k:Nat} {L:Sl} {H:Hp} {Q:d6} {ι:Type} {c:Code} (I:ι->St) (pre:ι->Prop) (μ:ι->Nat) (x0:ι) (p0:pre x0) (h0:Ent Γ k L H (I x0).k (I x0).L (I x0).H)
  (round:∀ x,pre x->DW Γ c (dp (λk' L' H'=>∃ y,pre y/\Ent Γ k' L' H' (I y).k (I y).L (I y).H/\μ y<μ x) Q) (I x).k (I x).L (I x).H):DW Γ (.loop c) Q k L H:=by
 refine dw_loop (ι:={ x // pre x }) (λx=>I x.1) (λx=>μ x.1) ⟨x0,p0⟩ h0 λx=>?_
 intro e a w m;refine wpIn_mono (round x.1 x.2 e a w m) (p7 ?_);intro ex k' L' H' hq;cases ex with
 | normal =>
  obtain⟨y,py,hy,hlt⟩:=hq;exact⟨⟨y,py⟩,hy,hlt⟩
 | _=>exact hq
theorem bi {Γ:Ctx} {k:Nat} {L:Sl} {H:Hp} {Q:d6} {c:Operand} {x y:Code} {p:Prop} {_:Decidable p} (hc:ai L c = .d (.bool (decide p))) (ht:p->DW Γ x Q k L H) (hf:¬ p->DW Γ y Q k L H):DW Γ (.cond c x y) Q k L H :=
 ff hc (λh=>ht (of_decide_eq_true h)) (λh=>hf (of_decide_eq_false h))
theorem dw_condT {Γ:Ctx} {k:Nat} {L:Sl} {H:Hp} {Q:d6} {c:Operand} {x y:Code} (hc:ai L c = .d (.bool true)) (h:DW Γ x Q k L H):DW Γ (.cond c x y) Q k L H:=ff hc (λ_=>h) (λh=>by cases h)
theorem dw_condF {Γ:Ctx} {k:Nat} {L:Sl} {H:Hp} {Q:d6} {c:Operand} {x y:Code} (hc:ai L c = .d (.bool false)) (h:DW Γ y Q k L H):DW Γ (.cond c x y) Q k L H:=ff hc (λh=>by cases h) (λ_=>h)
section
variable {Γ : Ctx} {k : Nat} {L : Sl} {H : Hp} {Q : d6} {K : ca}
theorem dw_seq2 {x y:Code} (h:DW Γ x (dp (DW Γ y Q) Q) k L H):DW Γ (.seq x y) Q k L H:=dw_seq λ_ hK=>by
 intro e a w m
 refine wpIn_mono (h e a w m) (p7 ?_)
 intro ex k' L' H' hq
 cases ex with
 | normal=>exact hK _ _ _ hq
 | _=>exact hq
theorem i6 (h:K k L H):dp K Q .normal k L H:=h
theorem yl {id:Nat} (h:Q (.exit id) k L H):dp K Q (.exit id) k L H:=h
theorem thenD_r (h:Q .ret k L H):dp K Q .ret k L H:=h
theorem inB_n {id:Nat} (h:Q .normal k L H):bh id Q .normal k L H:=h
theorem inB_r {id:Nat} (h:Q .ret k L H):bh id Q .ret k L H:=h
theorem inB_e {id i:Nat} (hb:Aw i id=true) (h:Q .normal k L H):bh id Q (.exit i) k L H:=by simp only [bh,hb];exact h
theorem inB_x {id i:Nat} (hb:Aw i id=false) (h:Q (.exit i) k L H):bh id Q (.exit i) k L H:=by simp only [bh,hb];exact h
end
section
variable {Γ : Ctx} {k : Nat} {L : Sl} {H : Hp} {Q : d6} {c : Code}
theorem l9 {t es:Nat} {xs:List (List D)} (h:L.get t = .d (.slice es xs)) (hk:xs.length<=9223372036854775807->DW Γ c Q k L H):DW Γ c Q k L H:=by
 intro e a w m;have hr:=m.slot t;rw [h] at hr;obtain⟨ao,cap,_,h1,h2,_⟩:=hr.slice_inv;exact hk (by unfold maxLen at h2;omega) e a w m
theorem c8 {α:Type} {t es:Nat} {l:List α} {f:α->List D} (h:L.get t = .d (.slice es (l.map f))) (hk:l.length<=9223372036854775807->DW Γ c Q k L H):DW Γ c Q k L H :=
 l9 h (by simpa using hk)
end
section
variable {k : Nat} {L : Sl} {H : Hp} {τ : List (Nat×TI)} {rs : List ResultVar}
theorem cm {b b':Bool} (hr:resSV L H τ rs=some (.d (.bool b))) (h:b=b'):RetQ τ rs (λ_ r _=>r.low 0=true/\r = .d (.bool b')) .ret k L H:=⟨.inl rfl,_,hr,rfl,by rw [h]⟩
theorem br {i:IntKind} {n n':Int} (hr:resSV L H τ rs=some (.d (.int i n))) (h:n=n'):RetQ τ rs (λ_ r _=>r.low 0=true/\r = .d (.int i n')) .ret k L H:=⟨.inl rfl,_,hr,rfl,by rw [h]⟩
theorem sg {x y x' y':D} (hr:resSV L H τ rs=some (.tup [.d x,.d y])) (h:x=x'/\y=y'):RetQ τ rs (λ_ r _=>r.low 0=true/\r = .tup [.d x',.d y']) .ret k L H:=⟨.inl rfl,_,hr,rfl,by rw [h.1,h.2]⟩
theorem ret_3 {x y z x' y' z':D} (hr:resSV L H τ rs=some (.tup [.d x,.d y,.d z])) (h:x=x'/\y=y'/\z=z'):RetQ τ rs (λ_ r _=>r.low 0=true/\r = .tup [.d x',.d y',.d z']) .ret k L H:=⟨.inl rfl,_,hr,rfl,by rw [h.1,h.2.1,h.2.2]⟩
end
end
section
open Go Go.RowKit
variable [Bnds]
section
variable {Γ : Ctx} {k : Nat -> Prop} {L : Sl} {H : Hp} {K : ca} {ops : List Oper} {rest : List Oper} {a : Act} {w : World} {e : Env} {t t' ty : TypeId} {x y : Operand}
mutual
theorem Rel.ext {X} {e e':Env} {w} (hk:∀ i,e.dom i->e'.dom i) (he:∀ i,e.dom i->e'.β i=e.β i/\e'.η i=e.η i):∀ (s:SV) (v:Value),Rel X e w s v->Rel X e' w s v
 | .junk,_,_=>trivial
 | .d _,_,h=>h
 | .nils,_,h=>h
 | .pd _,_,h=>h
 | .loc i _,_,h=>⟨hk i h.1,by rw [(he i h.1).1];exact h.2⟩
 | .mp i,_,h=>⟨hk i h.1,by rw [(he i h.1).1];exact h.2⟩
 | .md _ _,_,h=>h
 | .sl i _ _ _,_,h=>⟨hk i h.1,by rw [(he i h.1).1];exact h.2⟩
 | .row i,_,h=>⟨hk i h.1,by rw [(he i h.1).2];exact h.2⟩
 | .rsl i _ _ _,_,h=>⟨hk i h.1,by rw [(he i h.1).2];exact h.2⟩
 | .rg _ _ _,_,h=>h
 | .prow i _ _ _,_,h=>⟨hk i h.1,by rw [(he i h.1).2];exact h.2⟩
 | .fn _ caps,_,⟨vs,h1,h2⟩=>⟨vs,h1,RelL.ext hk he caps vs h2⟩
 | .agg ss,_,⟨vs,h1,h2⟩=>⟨vs,h1,RelL.ext hk he ss vs h2⟩
 | .tup ss,_,⟨vs,h1,h2⟩=>⟨vs,h1,RelL.ext hk he ss vs h2⟩
 | .val _,_,h=>h
theorem RelL.ext {X} {e e':Env} {w} (hk:∀ i,e.dom i->e'.dom i) (he:∀ i,e.dom i->e'.β i=e.β i/\e'.η i=e.η i):∀ (ss:List SV) (vs:List Value),RelL X e w ss vs->RelL X e' w ss vs
 | [],[],_=>trivial
 | [],_::_,h=>h.elim
 | _::_,[],h=>h.elim
 | s::ss,v::vs,⟨h1,h2⟩=>⟨Rel.ext hk he s v h1,RelL.ext hk he ss vs h2⟩
end
theorem HRel.ext {X} {e e':Env} {w} (hk:∀ i,e.dom i->e'.dom i) (he:∀ i,e.dom i->e'.β i=e.β i/\e'.η i=e.η i) (p:Nat×HB) (hp:e.dom p.1) (h:HRel X e w p):HRel X e' w p:=by
 obtain⟨i,b⟩:=p;cases b with
 | blk ty cs =>
  obtain⟨vs,h1,h2,h3⟩:=h;exact⟨vs,by rw [(he i hp).1];exact h1,RelL.ext hk he _ _ h2,h3⟩
 | row ty es xs =>
  obtain⟨vs,h1,h2⟩:=h;exact⟨vs,by rw [(he i hp).2];exact h1,h2⟩
 | map kd kvs=>show MapIs w (e'.β i) kd kvs;rw [(he i hp).1];exact h
theorem yw {e e':Env} (he:∀ i,e.dom i->e'.β i=e.β i/\e'.η i=e.η i) (p:Nat×HB) (hp:e.dom p.1):HB.owned e' p=HB.owned e p:=by
 obtain⟨i,b⟩:=p;cases b with
 | blk ty cs=>simp [HB.owned,(he i hp).1]
 | row ty es xs=>simp [HB.owned,(he i hp).2]
 | map kd kvs=>simp [HB.owned,(he i hp).1]
theorem l7 {e e':Env} (he:∀ i,e.dom i->e'.β i=e.β i/\e'.η i=e.η i):∀ (H:Hp),(∀ p∈H,e.dom p.1)->ae e' H=ae e H
 | [],_=>rfl
 | p::H,h=>by
  have ih:=l7 he H λq hq=>h q (Ah _ hq)
  unfold ae at ih ⊢
  rw [Bf,Bf,yw he p (h p (Ae ..)),ih]
def Env.bind (e:Env) (x b:Nat):Env:=⟨λi=>if i=x then b else e.β i,e.η,λi=>e.dom i∨i=x⟩
def Env.bindRow (e:Env) (x:Nat) (v:Value):Env:=⟨e.β,λi=>if i=x then v else e.η i,λi=>e.dom i∨i=x⟩
def m5 (k:Nat->Prop) (x:Nat):Nat->Prop:=λi=>k i∨i=x
theorem gv (k i:Nat):m5 (lo k) k i↔lo (k+1) i:=by unfold m5 lo;omega
theorem Env.bind_ext (e:Env) (x b:Nat) (hx:¬ e.dom x):∀ i,e.dom i->(e.bind x b).β i=e.β i/\(e.bind x b).η i=e.η i:=λi hi=>⟨if_neg (λh:i=x=>hx (h▸hi)),rfl⟩
theorem Env.bindRow_ext (e:Env) (x:Nat) (v:Value) (hx:¬ e.dom x):∀ i,e.dom i->(e.bindRow x v).β i=e.β i/\(e.bindRow x v).η i=e.η i:=λi hi=>⟨rfl,if_neg (λh:i=x=>hx (h▸hi))⟩
theorem Heap.cast {k k':Nat->Prop} (h:Heap Γ k H e w) (hk:∀ i,k i↔k' i):Heap Γ k' H e w :=
 ⟨λi=>(h.top i).trans (hk i),h.heap,h.ids,h.nodup,h.mine,h.os,h.tape,h.output,h.drawn,h.size,h.block,h.obound,h.tabs,λj hj=>(hk j).1 (h.jle j hj),h.anchor⟩
theorem Models.cast {k k':Nat->Prop} (m:Models Γ k L H e a w) (hk:∀ i,k i↔k' i):Models Γ k' L H e a w:=⟨m.toHeap.cast hk,m.defers,m.len,m.slot⟩
theorem Models.new (m:Models Γ k L H e a w) {x:Nat} (hx:¬ k x) {e':Env} {w':World} {hb:HB} (hek:∀ i,e'.dom i↔m5 k x i) (he:∀ i,e.dom i->e'.β i=e.β i/\e'.η i=e.η i) (hw:Beld Γ.dr w.heap.size w w')
  (ho:∀ b,HB.owned e' (x,hb)=some b->w.heap.size<=b)
  (hr0:(∀ b,b<w.heap.size->Γ.X e' ((x,hb)::H) b->Γ.X e H b)->HRel (Γ.X e' ((x,hb)::H)) e' w' (x,hb)) :
  Models Γ (m5 k x) L ((x,hb)::H) e' a w':=by
 have hlt:∀ p∈H,e.dom p.1:=λp hp=>(m.heap p hp).1
 have hk:∀ i,e.dom i->e'.dom i:=λi hi=>(hek i).2 (.inl ((m.top i).1 hi))
 have hol:ae e' H=ae e H:=l7 he H hlt;have hcons:∀ b,b∈ae e' ((x,hb)::H)->HB.owned e' (x,hb)=some b∨b∈ae e H:=by
  intro b hbm;unfold ae at hbm;rw [Bf] at hbm;split at hbm
  ·exact .inr (hol▸hbm)
  ·rename_i c hc;rcases List.mem_cons.1 hbm with rfl|h
   ·exact .inl hc
   ·exact .inr (hol▸h)
 have hX:∀ b,b<w.heap.size->Γ.X e' ((x,hb)::H) b->Γ.X e H b:=by
  intro b hbl hx;rcases hx with hx|hx
  ·exact .inl hx
  ·rcases hcons b hx with h|h
   ·have:=ho b h;omega
   ·exact .inr h
 have hr:=hr0 hX;have hkeep:∀ b,b<w.heap.size->¬ Γ.X e H b->w'.heap[b]?=w.heap[b]?:=λb hbl _=>hw.block b hbl
 refine⟨⟨hek,λp hp=>?_,?_,?_,λb hbm=>?_,hw.os.trans m.os,hw.tape.trans m.tape,hw.output.trans m.output,λhdr=>Ar (m.drawn hdr) (hw.drawn hdr),Ar m.size hw.size,λb h1 h2=>(hw.block b (Aq h1 m.size)).trans (m.block b h1 h2),m.obound,m.tabs,λj hj=>.inl (m.jle j hj),λj hj=>(Env.an_ext (he j ((m.top j).2 (m.jle j hj)))).trans (m.anchor j hj)⟩,m.defers.below hw.toBelow,m.len,λt=>?_⟩
 ·rcases List.mem_cons.1 hp with rfl|hp
  ·exact⟨(hek x).2 (.inr rfl),hr⟩
  ·refine⟨hk _ (hlt p hp),?_⟩
   have h1:=HRel.ext hk he p (hlt p hp) (m.heap p hp).2;refine HRel.keep hw.size hkeep hX p (λb hob=>?_) h1;rw [yw he p (hlt p hp)] at hob;exact hw.block b (m.lt b (List.mem_filterMap.2 ⟨p,hp,hob⟩))
 ·refine List.nodup_cons.2 ⟨λhm=>?_,m.ids⟩;obtain⟨p,hp,hpk⟩:=List.mem_map.1 hm;have:=(m.top _).1 (hlt p hp)
  simp at hpk;exact hx (hpk▸this)
 ·unfold ae;rw [Bf];split
  ·exact (show (ae e' H).Nodup from hol▸m.nodup)
  ·rename_i c hc;refine List.nodup_cons.2 ⟨λhm=>?_,(show (ae e' H).Nodup from hol▸m.nodup)⟩;have h1:=ho c hc;have h2:=m.lt c (show c∈ae e H from hol▸hm);omega
 ·rcases hcons b hbm with h|h
  ·have h1:=ho b h;exact⟨.inr (Ar m.size h1),λhO=>by have:=(m.obound b hO).1;have:=m.size;omega⟩
  ·exact m.mine b h
 ·exact Rel.keep hw.size hkeep hX _ _ (Rel.ext hk he _ _ (m.slot t))
def SV.cells:SV->List SV
 | .agg ss=>ss
 | s=>[s]
def SV.isCell:SV->Bool
 | .d _|.nils|.pd _|.loc _ _|.mp _|.md _ _|.prow _ _ _ _|.fn _ _|.row _|.sl _ _ _ _|.rsl _ _ _ _|.rg _ _ _=>true
 | .val u=>u.oneCell'
 | _=>false
def allCell:List SV->Bool
 | []=>true
 | s::ss=>s.isCell && allCell ss
def SV.isVar:SV->Bool
 | .agg ss=>allCell ss
 | s=>s.isCell
theorem RepC.one {X w v x} (h:RepC X w v x):v.oneCell'=true/\v.cells = #[v]:=by
 induction h with
 | own h ih=>exact ih
 | _=>exact⟨rfl,rfl⟩
theorem ShpC.one {X w v x} (h:ShpC X w v x):v.oneCell'=true/\v.cells = #[v]:=by
 induction h with
 | own h ih=>exact ih
 | _=>exact⟨rfl,rfl⟩
theorem RgC.one {X:Nat->Prop} {w:World} {B q:Nat} {v:Value} {x:D} (h:RgC X w B q v x):v.oneCell'=true/\v.cells = #[v]:=by
 have h2:=h.2;split at h2
 ·exact h2.one
 ·exact RepC.one h2
theorem rz {v:Value} (h:v.oneCell'=true):v.cells = #[v]:=by
 cases v<;>first|rfl|(simp [Value.oneCell'] at h)
theorem isCell_spec {X e w} {s:SV} {v:Value} (hs:s.isCell=true) (h:Rel X e w s v):v.oneCell'=true/\v.cells = #[v]:=by
 cases s with
 | d x=>exact RepC.one h
 | nils=>cases h;exact⟨rfl,rfl⟩
 | pd ds=>obtain⟨b,off,rfl,_⟩:=h;exact⟨rfl,rfl⟩
 | loc i o=>obtain⟨_,rfl⟩:=h;exact⟨rfl,rfl⟩
 | mp i=>obtain⟨_,rfl⟩:=h;exact⟨rfl,rfl⟩
 | md kd kvs=>obtain⟨_,rfl,_⟩:=h;exact⟨rfl,rfl⟩
 | prow i j es o=>obtain⟨_,g,n,cap,_,rfl⟩:=h;exact⟨rfl,rfl⟩
 | fn f caps=>obtain⟨vs,rfl,_⟩:=h;exact⟨rfl,rfl⟩
 | row i=>exact⟨h.2.2,rz h.2.2⟩
 | rsl i es k n=>exact⟨h.2.1,rz h.2.1⟩
 | rg B q x=>exact RgC.one h
 | sl i o n c=>obtain⟨_,_,_,_,rfl,_⟩:=h;exact⟨rfl,rfl⟩
 | val u=>have h:v=u:=h;subst h;exact⟨hs,rz hs⟩
 | _=>simp [SV.isCell] at hs
theorem allCell_spec {X e w}:∀ {ss:List SV} {vs:List Value},allCell ss=true->RelL X e w ss vs->∀ v∈vs,v.oneCell'=true
 | [],[],_,_,_,h=>by simp at h
 | [],_::_,_,h,_,_=>h.elim
 | _::_,[],_,h,_,_=>h.elim
 | s::ss,v::vs,hs,⟨h1,h2⟩,u,hu=>by
  simp only [allCell,Ad] at hs
  rcases List.mem_cons.1 hu with rfl|hu
  ·exact (isCell_spec hs.1 h1).1
  ·exact allCell_spec hs.2 h2 u hu
theorem cells_spec {X e w} {s:SV} {v:Value} (hs:s.isVar=true) (h:Rel X e w s v):RelL X e w s.cells v.cells.toList/\∀ u∈v.cells.toList,u.oneCell'=true:=by
 cases s with
 | agg ss =>
  obtain⟨vs,rfl,hr⟩:=h;exact⟨by simpa [SV.cells,Value.cells] using hr,by simpa [Value.cells] using allCell_spec hs hr⟩
 | _ =>
  have h1:=isCell_spec (by simpa [SV.isVar] using hs) h;rw [h1.2];exact⟨⟨h,trivial⟩,by simpa using h1.1⟩
theorem fi (dr:Bool) (w:World) (o:Obj):Beld dr w.heap.size w (w.alloc o):=⟨(Below.refl _ _).alloc (Af _) o,λ_=>Af _⟩
theorem Models.alloc (m:Models Γ k L H e a w) {x:Nat} (hx:¬ k x) {cs:List SV} {vs:List Value} (te:TypeId) (hr:RelL (Γ.X e H) e w cs vs) (h1:∀ v∈vs,v.oneCell'=true) :
  Models Γ (m5 k x) L ((x,.blk te cs)::H) (e.bind x w.heap.size) a (w.alloc (.cells vs.toArray te)):=by
 have hxe:¬ e.dom x:=λh=>hx ((m.top x).1 h)
 have hβ:(e.bind x w.heap.size).β x=w.heap.size:=if_pos rfl;refine m.new hx (λi=>or_congr (m.top i) Iff.rfl) (e.bind_ext _ _ hxe) (fi Γ.dr _ _) (λb hb=>?_) ?_
 ·simp only [HB.owned,hβ,Option.some.injEq] at hb;omega
 ·intro hX;refine⟨vs,by rw [hβ];exact heap_alloc_new w _,?_,h1⟩
  exact RelL.keep (fi Γ.dr _ _).size (λb hb _=>(fi Γ.dr _ _).block b hb) (λb hb hx=>hX b hb hx) _ _ (RelL.ext (e:=e) (λi hi=>Or.inl hi) (e.bind_ext _ _ hxe) _ _ hr)
theorem jf (k:Nat):¬ lo k k:=Nat.lt_irrefl k
def ly (τ:List (Nat×TI)) (t:TypeId):List SV:=(aj τ t).zero.map cSV
def ek:List Value->Bool
 | []=>true
 | v::vs=>cOkB v && (v.oneCell' && ek vs)
theorem fg {X e w}:∀ (vs:List Value),ek vs=true->RelL X e w (vs.map cSV) vs/\∀ v∈vs,v.oneCell'=true
 | [],_=>⟨trivial,by simp⟩
 | v::vs,h=>by
  simp only [ek,Ad] at h
  obtain⟨h1,h2⟩:=fg (X:=X) (e:=e) (w:=w) vs h.2.2
  refine⟨⟨cSV_rel v (b7 (x:=.const v) h.1),h1⟩,λu hu=>?_⟩
  rcases List.mem_cons.1 hu with rfl|hu
  ·exact h.2.1
  ·exact h2 u hu
theorem op_alloc {d x:Nat} {te ty:TypeId} {pos:String} {af:Array Edge} {g:Option (Nat×Bool)} {cs:List SV} (hx:¬ k x) (hkn:(Γ.sh te).known=true) (hz:ek (aj Γ.τ te).zero=true) (hcs:ly Γ.τ te=cs) (hd:As d Γ.n=true) :
  OpOk Γ ⟨some d,.alloc te,ty,pos,af,g⟩ k L H (m5 k x) ((d,.loc x 0)::L) ((x,.blk te cs)::H):=by
 intro e a w Q m;obtain⟨inf,z,hi,hzz,hs,hb,hzc⟩:=Ctx.info (Sh.known_ne hkn);have hrun:(execOp a.eval ⟨some d,.alloc te,ty,pos,af,g⟩).run Γ.P w = .ok (.value (.pointer (some ⟨w.heap.size,0,none⟩))) (w.alloc (.cells z.cells te)):=by
  simp [execOp,Instr.alloc,zeroValue,typeInfo,hi,hzz,newVar,newRow]
 unfold Oper.wp;rw [hrun];obtain⟨g1,g2⟩:=fg (X:=Γ.X e H) (e:=e) (w:=w) _ hz;have m2:=m.alloc hx te g1 g2;rw [<- hzc] at m2;subst hcs;unfold ly;rw [<- hzc];refine⟨_,m2.put (s:=.loc x 0) (v:=.pointer (some ⟨w.heap.size,0,none⟩)) (Ac hd) ⟨.inr rfl,?_⟩⟩
 show _=Value.pointer (some ⟨(if x=x then w.heap.size else e.β x),0,none⟩);rw [if_pos rfl]
theorem op_box {d z:Nat} {te ty:TypeId} {pos:String} {af:Array Edge} {g:Option (Nat×Bool)} {x:Operand} {s:SV} (hz:¬ k z) (hx:ai L x=s) (hxo:de x=true) (hv:s.isVar=true) (hd:As d Γ.n=true) :
  OpOk Γ ⟨some d,.box te x,ty,pos,af,g⟩ k L H (m5 k z) ((d,.loc z 0)::L) ((z,.blk te s.cells)::H):=by
 intro e a w Q m;have hrun:(execOp a.eval ⟨some d,.box te x,ty,pos,af,g⟩).run Γ.P w = .ok (.value (.pointer (some ⟨w.heap.size,0,none⟩))) (w.alloc (.cells (a.eval x).cells te)):=by
  simp [execOp,Instr.box,newVar,newRow]
 unfold Oper.wp;rw [hrun];have hr:=m.op x (b7 hxo);rw [hx] at hr;obtain⟨g1,g2⟩:=cells_spec hv hr;have m2:=m.alloc hz te g1 g2;refine⟨_,m2.put (s:=.loc z 0) (v:=.pointer (some ⟨w.heap.size,0,none⟩)) (Ac hd) ⟨.inr rfl,?_⟩⟩
 show _=Value.pointer (some ⟨(if z=z then w.heap.size else e.β z),0,none⟩);rw [if_pos rfl]
theorem OpOk.cast {o:Oper} {k1 k2:Nat->Prop} {L':Sl} {H':Hp} (h:OpOk Γ o k L H k1 L' H') (hk:∀ i,k1 i↔k2 i):OpOk Γ o k L H k2 L' H':=by
 intro e a w Q m;refine Oper.wp_mono ?_ (h e a w Q m);rintro a' w' ⟨e',m'⟩;exact⟨e',m'.cast hk⟩
end
section
variable {Γ : Ctx} {k : Nat} {L : Sl} {H : Hp} {K : ca} {ops : List Oper} {rest : List Oper} {a : Act} {w : World} {e : Env} {t t' ty : TypeId} {x y : Operand}
end
end
section
open Go Go.RowKit
variable [Bnds]
def Hp.set:Hp->Nat->HB->Hp
 | [],_,_=>[]
 | (d,s)::H,i,b=>match Aw d i with|true=>(d,b)::H|false=>(d,s)::Hp.set H i b
def Hp.del:Hp->Nat->Hp
 | [],_=>[]
 | (d,s)::H,i=>match Aw d i with|true=>H|false=>(d,s)::Hp.del H i
theorem Hp.set_ids (i:Nat) (b:HB):∀ (H:Hp),(Hp.set H i b).map (·.1)=H.map (·.1)
 | []=>rfl
 | (d,s)::H=>by
  simp only [Hp.set]
  cases h:Aw d i with
  | true=>rfl
  | false=>simp [Hp.set_ids i b H]
theorem Hp.set_mem {i:Nat} {b:HB}:∀ (H:Hp),(H.map (·.1)).Nodup->∀ p∈Hp.set H i b,p=(i,b)∨(p∈H/\p.1≠i)
 | [],_,p,hp=>by simp [Hp.set] at hp
 | (d,s)::H,hn,p,hp=>by
  obtain⟨h1,h2⟩:=List.nodup_cons.1 hn
  simp only [Hp.set] at hp
  cases h:Aw d i with
  | true =>
   have hd:=Aj h
   subst hd
   rw [h] at hp
   rcases List.mem_cons.1 hp with rfl|hp
   ·exact .inl rfl
   ·refine .inr ⟨Ah _ hp,λhe=>h1 ?_⟩
    exact List.mem_map.2 ⟨p,hp,he⟩
  | false =>
   have hd:=Bj h
   rw [h] at hp
   rcases List.mem_cons.1 hp with rfl|hp
   ·exact .inr ⟨Ae ..,hd⟩
   ·rcases Hp.set_mem H h2 p hp with h3|⟨h3,h4⟩
    ·exact .inl h3
    ·exact .inr ⟨Ah _ h3,h4⟩
theorem Hp.set_owned {e:Env} {i:Nat} {b b':HB} (ho:HB.owned e (i,b')=HB.owned e (i,b)):∀ (H:Hp),Hp.get H i=some b->ae e (Hp.set H i b')=ae e H
 | [],h=>by simp [Hp.get] at h
 | (d,s)::H,h=>by
  simp only [Hp.get] at h
  simp only [Hp.set]
  cases hb:Aw d i with
  | true =>
   have hd:=Aj hb
   subst hd
   rw [hb] at h
   cases h
   unfold ae
   rw [Bf,Bf,ho]
  | false =>
   rw [hb] at h
   have ih:=Hp.set_owned ho H h
   unfold ae at ih ⊢
   rw [Bf,Bf,ih]
theorem Hp.del_mem {i:Nat}:∀ (H:Hp),(H.map (·.1)).Nodup->∀ p∈Hp.del H i,p∈H/\p.1≠i
 | [],_,p,hp=>by simp [Hp.del] at hp
 | (d,s)::H,hn,p,hp=>by
  obtain⟨h1,h2⟩:=List.nodup_cons.1 hn
  simp only [Hp.del] at hp
  cases h:Aw d i with
  | true =>
   have hd:=Aj h
   subst hd
   rw [h] at hp
   exact⟨Ah _ hp,λhe=>h1 (List.mem_map.2 ⟨p,hp,he⟩)⟩
  | false =>
   rw [h] at hp
   rcases List.mem_cons.1 hp with rfl|hp
   ·exact⟨Ae ..,Bj h⟩
   ·obtain⟨h3,h4⟩:=Hp.del_mem H h2 p hp
    exact⟨Ah _ h3,h4⟩
theorem Hp.del_ids {i:Nat}:∀ (H:Hp),(H.map (·.1)).Nodup->((Hp.del H i).map (·.1)).Nodup
 | [],_=>by simp [Hp.del]
 | (d,s)::H,hn=>by
  obtain⟨h1,h2⟩:=List.nodup_cons.1 hn
  simp only [Hp.del]
  cases h:Aw d i with
  | true=>exact h2
  | false =>
   refine List.nodup_cons.2 ⟨λhm=>h1 ?_,Hp.del_ids H h2⟩
   obtain⟨p,hp,he⟩:=List.mem_map.1 hm
   exact List.mem_map.2 ⟨p,(Hp.del_mem H h2 p hp).1,he⟩
section
variable {Γ : Ctx} {k : Nat -> Prop} {L : Sl} {H : Hp} {K : ca} {ops : List Oper} {rest : List Oper} {a : Act} {w : World} {e : Env} {t t' ty : TypeId} {x y : Operand}
theorem nb {l:Hp} (h:(l.map (·.1)).Nodup):l.Nodup :=
 List.Pairwise.of_map (f:=λp:Nat×HB=>p.1) (S:=(·≠·)) (λ_ _ hab he=>hab (by rw [he])) h
theorem Models.owned_ne (m:Models Γ k L H e a w) {p q:Nat×HB} (hp:p∈H) (hq:q∈H) (hne:p.1≠q.1) {b:Nat} (h1:HB.owned e p=some b) (h2:HB.owned e q=some b):False :=
 hne (by rw [r5 _ H m.nodup p q b hp hq h1 h2])
theorem Models.turn (m:Models Γ k L H e a w) {i:Nat} {b b':HB} (hH:Hp.get H i=some b) {w':World} (hs:w.heap.size<=w'.heap.size) (hos:w'.os=w.os) (htape:w'.tape=w.tape) (hout:w'.output=w.output) (hdr:Γ.dr=true->w.drawn<=w'.drawn)
  (hblk:∀ c,c<w.heap.size->HB.owned e (i,b)≠some c->w'.heap[c]?=w.heap[c]?) (ho:HB.owned e (i,b')=HB.owned e (i,b)) (hr:HRel (Γ.X e H) e w' (i,b')):Models Γ k L (Hp.set H i b') e a w':=by
 have hmem:=Hp.mem_of hH;have hol:ae e (Hp.set H i b')=ae e H:=Hp.set_owned ho H hH;have hX:Γ.X e (Hp.set H i b')=Γ.X e H:=by unfold Ctx.X;rw [hol]
 have hno:∀ c,HB.owned e (i,b)=some c->c∈ae e H:=λc hc=>List.mem_filterMap.2 ⟨_,hmem,hc⟩
 have hkeep:∀ c,c<w.heap.size->¬ Γ.X e H c->w'.heap[c]?=w.heap[c]?:=λc hc hx=>hblk c hc λh=>hx (.inr (hno c h))
 refine⟨⟨m.top,λp hp=>?_,by rw [Hp.set_ids];exact m.ids,by rw [hol];exact m.nodup,λc hc=>m.mine c (hol▸hc),hos.trans m.os,htape.trans m.tape,hout.trans m.output,λhd=>Ar (m.drawn hd) (hdr hd),Ar m.size hs,
  λc h1 h2=>(hblk c (Aq h1 m.size) λh=>?_).trans (m.block c h1 h2),m.obound,m.tabs,m.jle,m.anchor⟩,m.defers.keep λr hr=>hblk r (co hr) λho=>m.owned_mark hr (hno r ho),m.len,λt=>?_⟩
 ·rw [hX];rcases Hp.set_mem H m.ids p hp with rfl|⟨hp,hne⟩
  ·exact⟨(m.heap _ hmem).1,hr⟩
  ·refine⟨(m.heap p hp).1,HRel.keep hs hkeep (λ_ _ h=>h) p (λc hc=>hblk c (m.lt c (List.mem_filterMap.2 ⟨p,hp,hc⟩)) λh=>m.owned_ne hp hmem hne hc h) (m.heap p hp).2⟩
 ·rcases (m.mine c (hno c h)).1 with h3|h3
  ·exact h2 h3
  ·omega
 ·rw [hX];exact Rel.keep hs hkeep (λ_ _ h=>h) _ _ (m.slot t)
theorem Models.trade (m:Models Γ k L H e a w) {i:Nat} {b:HB} (hH:Hp.get H i=some b) {x:Nat} (hx:¬ k x) {e':Env} {w':World} {hb:HB} (hek:∀ i,e'.dom i↔m5 k x i) (he:∀ i,e.dom i->e'.β i=e.β i/\e'.η i=e.η i)
  (hs:w.heap.size<=w'.heap.size) (hos:w'.os=w.os) (htape:w'.tape=w.tape) (hout:w'.output=w.output) (hdr:Γ.dr=true->w.drawn<=w'.drawn)
  (hblk:∀ c,c<w.heap.size->HB.owned e (i,b)≠some c->w'.heap[c]?=w.heap[c]?)
  (ho:∀ c,HB.owned e' (x,hb)=some c->HB.owned e (i,b)=some c∨w.heap.size<=c)
  (hr0:(∀ c,c<w.heap.size->Γ.X e' ((x,hb)::Hp.del H i) c->Γ.X e H c)->HRel (Γ.X e' ((x,hb)::Hp.del H i)) e' w' (x,hb)):Models Γ (m5 k x) L ((x,hb)::Hp.del H i) e' a w':=by
 have hmem:=Hp.mem_of hH;have hlt:∀ p∈H,e.dom p.1:=λp hp=>(m.heap p hp).1
 have hd:=Hp.del_mem (i:=i) H m.ids;have hk:∀ i,e.dom i->e'.dom i:=λi hi=>(hek i).2 (.inl ((m.top i).1 hi))
 have hol:ae e' (Hp.del H i)=ae e (Hp.del H i):=l7 he _ λp hp=>hlt p (hd p hp).1
 have hsub:∀ c,c∈ae e (Hp.del H i)->c∈ae e H/\HB.owned e (i,b)≠some c:=by
  intro c hc;obtain⟨p,hp,hpc⟩:=List.mem_filterMap.1 hc;exact⟨List.mem_filterMap.2 ⟨p,(hd p hp).1,hpc⟩,λh=>m.owned_ne (hd p hp).1 hmem (hd p hp).2 hpc h⟩
 have hno:∀ c,HB.owned e (i,b)=some c->c∈ae e H:=λc hc=>List.mem_filterMap.2 ⟨_,hmem,hc⟩
 have hcons:∀ c,c∈ae e' ((x,hb)::Hp.del H i)->HB.owned e' (x,hb)=some c∨c∈ae e (Hp.del H i):=by
  intro c hbm;unfold ae at hbm;rw [Bf] at hbm;split at hbm
  ·exact .inr (hol▸hbm)
  ·rename_i c' hc;rcases List.mem_cons.1 hbm with rfl|h
   ·exact .inl hc
   ·exact .inr (hol▸h)
 have hX:∀ c,c<w.heap.size->Γ.X e' ((x,hb)::Hp.del H i) c->Γ.X e H c:=by
  intro c hcl hx;rcases hx with hx|hx
  ·exact .inl hx
  ·rcases hcons c hx with h|h
   ·rcases ho c h with h|h
    ·exact .inr (hno c h)
    ·omega
   ·exact .inr (hsub c h).1
 have hr:=hr0 hX;have hkeep:∀ c,c<w.heap.size->¬ Γ.X e H c->w'.heap[c]?=w.heap[c]?:=λc hc hx=>hblk c hc λh=>hx (.inr (hno c h))
 have hnd:(ae e (Hp.del H i)).Nodup:=gr _ H m.nodup _ (nb (Hp.del_ids H m.ids)) λp hp=>(hd p hp).1
 refine⟨⟨hek,λp hp=>?_,?_,?_,λc hbm=>?_,hos.trans m.os,htape.trans m.tape,hout.trans m.output,λhd=>Ar (m.drawn hd) (hdr hd),Ar m.size hs,
  λc h1 h2=>(hblk c (Aq h1 m.size) λh=>?_).trans (m.block c h1 h2),m.obound,m.tabs,λj hj=>.inl (m.jle j hj),λj hj=>(Env.an_ext (he j ((m.top j).2 (m.jle j hj)))).trans (m.anchor j hj)⟩,m.defers.keep λr hr=>hblk r (co hr) λho=>m.owned_mark hr (hno r ho),m.len,λt=>?_⟩
 ·rcases List.mem_cons.1 hp with rfl|hp
  ·exact⟨(hek x).2 (.inr rfl),hr⟩
  ·obtain⟨hp,hne⟩:=hd p hp;refine⟨hk _ (hlt p hp),?_⟩
   have h1:=HRel.ext hk he p (hlt p hp) (m.heap p hp).2;refine HRel.keep hs hkeep hX p (λc hob=>?_) h1;rw [yw he p (hlt p hp)] at hob;exact hblk c (m.lt c (List.mem_filterMap.2 ⟨p,hp,hob⟩)) λh=>m.owned_ne hp hmem hne hob h
 ·refine List.nodup_cons.2 ⟨λhm=>?_,Hp.del_ids H m.ids⟩;obtain⟨p,hp,hpk⟩:=List.mem_map.1 hm;have:=(m.top _).1 (hlt p (hd p hp).1)
  simp at hpk;exact hx (hpk▸this)
 ·unfold ae;rw [Bf];split
  ·exact (show (ae e' (Hp.del H i)).Nodup from hol▸hnd)
  ·rename_i c hc;refine List.nodup_cons.2 ⟨λhm=>?_,(show (ae e' (Hp.del H i)).Nodup from hol▸hnd)⟩;have h2:=hsub c (show c∈ae e (Hp.del H i) from hol▸hm);rcases ho c hc with h1|h1
   ·exact h2.2 h1
   ·have:=m.lt c h2.1;omega
 ·rcases hcons c hbm with h|h
  ·rcases ho c h with h1|h1
   ·exact m.mine c (hno c h1)
   ·exact⟨.inr (Ar m.size h1),λhO=>by have:=(m.obound c hO).1;have:=m.size;omega⟩
  ·exact m.mine c (hsub c h).1
 ·rcases (m.mine c (hno c h)).1 with h3|h3
  ·exact h2 h3
  ·omega
 ·exact Rel.keep hs hkeep hX _ _ (Rel.ext hk he _ _ (m.slot t))
def fm (cs:List SV) (o:Nat) (ss:List SV):List SV:=cs.take o++ss++cs.drop (o+ss.length)
theorem op_store {te tb ty:TypeId} {pos:String} {af:Array Edge} {g:Option (Nat×Bool)} {i o:Nat} {cs:List SV} {s:SV} (hx:ai L x = .loc i o) (hH:Hp.get H i=some (.blk tb cs)) (hy:ai L y=s) (hyo:de y=true) (hv:s.isVar=true)
  (hkn:(Γ.sh te).known=true) (hn:Aw s.cells.length (Γ.cells te)=true) (hle:B6 (o+s.cells.length) cs.length=true) :
  OpOk Γ ⟨none,.store te x y,ty,pos,af,g⟩ k L H k L (Hp.set H i (.blk tb (fm cs o s.cells))):=by
 intro e a w Q m;obtain⟨inf,z,hi,_,hs,_⟩:=Ctx.info (Sh.known_ne hkn);obtain⟨_,hp⟩:=evT m hx (cSV_loc · _ _);have hr:=m.op y (b7 hyo);rw [hy] at hr;obtain⟨g1,g2⟩:=cells_spec hv hr;obtain⟨vs,h1,h2,h3⟩:=(m.heap _ (Hp.mem_of hH)).2;have hl:=RelL.length _ _ h2;have hl2:=RelL.length _ _ g1;have hle':=Ac hle;have hn':=Aj hn;have hst:=run_storeCells_at Γ.P (e.β i) o tb (a.eval y).cells.toList 0 vs.toArray w h1 (by simp;rw [<- hl,<- A4,<- hl2];omega) g2;have hrun:(execOp a.eval ⟨none,.store te x y,ty,pos,af,g⟩).run Γ.P w = .ok .skip (w.setRow (e.β i) (vs.take o++(a.eval y).cells.toList++vs.drop (o+(a.eval y).cells.toList.length)).toArray):=by
  have hsz:(a.eval y).cells.size=inf.size:=by rw [<- A4,<- hl2,hn',hs]
  simp only [execOp,Instr.storeAt,hp,Instr.sureAddr];simp [storeVar,cw hi,hsz,hst]
 unfold Oper.wp;rw [hrun];refine⟨e,m.turn (b':=.blk tb (fm cs o s.cells)) hH ?_ rfl rfl rfl (λ_=>Af _) (λc _ hc=>setRow_other w _ c _ (λh=>hc (by simp [HB.owned,h]))) rfl ?_⟩
 ·simp [World.setRow]
 ·refine⟨_,setRow_heap w (e.β i) vs.toArray _ tb (0,0) h1,?_,λv hv=>?_⟩
  ·have hkeep:∀ b,b<w.heap.size->¬ Γ.X e H b->(w.setRow (e.β i) (vs.take o++(a.eval y).cells.toList++vs.drop (o+(a.eval y).cells.toList.length)).toArray).heap[b]?=w.heap[b]?:=λb _ hb=>setRow_other w _ b _ (λh=>hb (.inr (List.mem_filterMap.2 ⟨_,Hp.mem_of hH,by simp [HB.owned,h]⟩)))
   refine RelL.keep (by simp [World.setRow]) hkeep (λ_ _ h=>h) _ _ ?_;unfold fm;rw [hl2];exact RelL.append _ _ _ _ (RelL.append _ _ _ _ (RelL.take _ _ h2 o) g1) (RelL.drop _ _ h2 _)
  ·simp only [Bq] at hv;rcases hv with (hv|hv)|hv
   ·exact h3 v (B1 hv)
   ·exact g2 v hv
   ·exact h3 v (Bv hv)
end
section
variable {Γ : Ctx} {k : Nat} {L : Sl} {H : Hp} {K : ca} {ops : List Oper} {rest : List Oper} {a : Act} {w : World} {e : Env} {t t' ty : TypeId} {x y : Operand}
end
end
section
open Go Go.RowKit
variable [Bnds]
theorem foldl_splice:∀ (vs:List Value) (o j:Nat) (cs:Array Value),o+j+vs.length<=cs.size ->
  ((vs.zipIdx j).foldl (λ(cs:Array Value) (p:Value×Nat)=>cs.setIfInBounds (o+p.2) p.1) cs).toList=cs.toList.take (o+j)++vs++cs.toList.drop (o+j+vs.length)
 | [],o,j,cs,_=>by simp
 | v::vs,o,j,cs,h=>by
  have h':o+(j+1)+vs.length<=(cs.setIfInBounds (o+j) v).size:=by simp at h ⊢;omega
  rw [List.zipIdx_cons,List.foldl_cons,foldl_splice vs o (j+1) _ h'];have hlt:o+j<cs.toList.length:=by simp at h ⊢;omega
  simp only [Array.toList_setIfInBounds];have e1:(cs.toList.set (o+j) v).take (o+(j+1))=cs.toList.take (o+j)++[v]:=by
   rw [show o+(j+1)=(o+j)+1 by omega,List.take_succ_eq_append_getElem (by simpa using hlt)];simp only [List.take_set,List.getElem_set_self];rw [List.set_eq_of_length_le (by simp;omega)]
  have e2:(cs.toList.set (o+j) v).drop (o+(j+1)+vs.length)=cs.toList.drop (o+j+(v::vs).length):=by
   rw [List.drop_set_of_lt (by omega)];congr 1;simp;omega
  rw [e1,e2];simp
def nk (place:Nat->Option (Nat×Nat)) (cs:List SV):List (Nat×SV)->Option (List SV)
 | []=>some cs
 | (i,s)::rest=>match place i with
  | none=>none
  | some (off,size)=>match Aw s.cells.length size && (s.isVar && B6 (off+size) cs.length) with
   | true=>nk place (fm cs off s.cells) rest
   | false=>none
def PartsRel (X:Nat->Prop) (e:Env) (w:World):List (Nat×SV)->List (Nat×Value)->Prop
 | [],[]=>True
 | (i,s)::ps,(j,v)::qs=>i=j/\Rel X e w s v/\PartsRel X e w ps qs
 | _,_=>False
theorem fill_rel {X e w} {place:Nat->Option (Nat×Nat)}:∀ (ps:List (Nat×SV)) (qs:List (Nat×Value)) (cs:List SV) (vs:Array Value) (cs':List SV),PartsRel X e w ps qs->RelL X e w cs vs.toList->(∀ v∈vs.toList,v.oneCell'=true)->nk place cs ps=some cs' ->
  ∃ vs':Array Value,Instr.fill place vs qs=some vs'/\RelL X e w cs' vs'.toList/\∀ v∈vs'.toList,v.oneCell'=true
 | [],[],cs,vs,cs',_,h,h1,hf=>by simp only [nk,Option.some.injEq] at hf;subst hf;exact⟨vs,rfl,h,h1⟩
 | [],_::_,_,_,_,h,_,_,_=>h.elim
 | _::_,[],_,_,_,h,_,_,_=>h.elim
 | (i,s)::ps,(j,v)::qs,cs,vs,cs',⟨hij,hr,hps⟩,h,h1,hf=>by
  subst hij;simp only [nk] at hf;cases hp:place i with
  | none=>simp [hp] at hf
  | some q =>
   obtain⟨off,size⟩:=q;simp only [hp] at hf;cases hc:(Aw s.cells.length size && (s.isVar && B6 (off+size) cs.length)) with
   | false=>rw [hc] at hf;cases hf
   | true =>
    rw [hc] at hf;simp only [Ad] at hc;obtain⟨c1,c2,c3⟩:=hc;have c1:=Aj c1;have c3:=Ac c3;obtain⟨g1,g2⟩:=cells_spec c2 hr;have hl:=RelL.length _ _ g1;have hl2:=RelL.length _ _ h;have hsz:v.cells.size=size:=by rw [<- A4,<- hl,c1]
    have hsz2:off+v.cells.size<=vs.size:=by rw [hsz,<- A4,<- hl2];exact c3
    simp only [Instr.fill,hp];rw [if_neg (by simp;omega)];have hfold:=foldl_splice v.cells.toList off 0 vs (by simpa using hsz2);have hsame:(v.cells.zipIdx.foldl (λ(cs:Array Value) (x:Value×Nat)=>cs.setIfInBounds (off+x.2) x.1) vs)=((v.cells.toList.zipIdx 0).foldl (λ(cs:Array Value) (p:Value×Nat)=>cs.setIfInBounds (off+p.2) p.1) vs):=by
     rw [<- Array.foldl_toList,Array.toList_zipIdx]
    refine fill_rel ps qs (fm cs off s.cells) _ cs' hps ?_ ?_ hf
    ·show RelL X e w _ (v.cells.zipIdx.foldl (λ(cs:Array Value) (x:Value×Nat)=>cs.setIfInBounds (off+x.2) x.1) vs).toList;rw [hsame,hfold];unfold fm;rw [hl];simp only [Nat.add_zero];exact RelL.append _ _ _ _ (RelL.append _ _ _ _ (RelL.take _ _ h off) g1) (RelL.drop _ _ h _)
    ·show ∀ u∈(v.cells.zipIdx.foldl (λ(cs:Array Value) (x:Value×Nat)=>cs.setIfInBounds (off+x.2) x.1) vs).toList,u.oneCell'=true;rw [hsame,hfold];intro u hu;simp only [Bq] at hu;rcases hu with (hu|hu)|hu
     ·exact h1 u (B1 hu)
     ·exact g2 u hu
     ·exact h1 u (Bv hu)
def jy (L:Sl):List (Nat×Operand)->List (Nat×SV)
 | []=>[]
 | (i,x)::ps=>(i,ai L x)::jy L ps
def jz:List (Nat×Operand)->Bool
 | []=>true
 | (_,x)::ps=>de x && jz ps
section
variable {Γ : Ctx} {k : Nat -> Prop} {L : Sl} {H : Hp} {K : ca} {ops : List Oper} {rest : List Oper} {a : Act} {w : World} {e : Env} {t t' ty : TypeId} {x y : Operand}
theorem xb (m:Models Γ k L H e a w):∀ (ps:List (Nat×Operand)),jz ps=true->PartsRel (Γ.X e H) e w (jy L ps) (ps.map λp=>(p.1,a.eval p.2))
 | [],_=>trivial
 | (i,x)::ps,h=>by
  simp only [jz,Ad] at h
  exact⟨rfl,m.op x (b7 h.1),xb m ps h.2⟩
def vy (l:List (Nat×TypeId×Nat)) (i:Nat):Option (Nat×Nat):=match l[i]? with
 | some (off,_,sz)=>some (off,sz)
 | none=>none
def o9 (τ:List (Nat×TI)):List (Nat×TypeId×Nat)->Bool
 | []=>true
 | (_,ft,sz)::l=>(aj τ ft).sh.known && (Aw (aj τ ft).cells sz && o9 τ l)
theorem ev_build {te:TypeId} {ps:List (Nat×Operand)} {l} {cs cs':List SV} (ht:Γ.sh te = .struct l) (hk:o9 Γ.τ l=true) (hz:ek (aj Γ.τ te).zero=true) (hcs:ly Γ.τ te=cs) (hok:jz ps=true)
  (hf:nk (vy l) cs (jy L ps)=some cs'):Ev Γ k L H (.build te ps.toArray) ty (.agg cs'):=by
 intro e a w m;have ho:Γ.sh te≠.other:=by rw [ht];intro h;cases h
 obtain⟨inf,z,hi,hzz,hs,hb,hzc⟩:=Ctx.info ho;obtain⟨fs,hu,hl⟩:=Ctx.struct ht;obtain⟨g1,g2⟩:=fg (X:=Γ.X e H) (e:=e) (w:=w) _ hz;rw [<- hzc] at g1 g2;have hcs':cs=z.cells.toList.map cSV:=by rw [<- hcs,ly,hzc]
 rw [<- hcs'] at g1;obtain⟨vs',f1,f2,f3⟩:=fill_rel _ _ cs z.cells cs' (xb m ps hok) g1 g2 hf;have hmap:∀ (w':World),(fs.mapM λf=>(do pure (f.offset,<- sizeOf f.type):Sem (Nat×Nat))).run Γ.P w' = .ok (l.map λq=>(q.1,q.2.2)).toArray w':=by
  intro w';have key:∀ (gs:List Field),(∀ f∈gs,∃ inf,Γ.P.info? f.type=some inf)->(gs.mapM λf=>(do pure (f.offset,<- sizeOf f.type):Sem (Nat×Nat))).run Γ.P w' = .ok (gs.map λf=>(f.offset,((Γ.P.info? f.type).map (·.size)).getD 0)) w':=by
   intro gs;induction gs with
   | nil=>intro _;simp
   | cons f gs ih =>
    intro hg;obtain⟨inf,hinf⟩:=hg f (Ae ..);rw [Ho];simp only [Sem.run_bind,cw hinf,Result.andThen_ok,Sem.run_pure,ih λf hf=>hg f (Ah _ hf),A7,hinf,B3,Option.getD_some]
  have hall:∀ f∈fs.toList,∃ inf,Γ.P.info? f.type=some inf:=by
   subst hl;have:∀ (gs:List Field),o9 Γ.τ (gs.map λf=>(f.offset,f.type,((Γ.P.info? f.type).map (·.size)).getD 0))=true->∀ f∈gs,∃ inf,Γ.P.info? f.type=some inf:=by
    intro gs;induction gs with
    | nil=>intro _ f hf;simp at hf
    | cons g gs ih =>
     intro h f hf;simp only [A7,o9,Ad] at h;rcases List.mem_cons.1 hf with rfl|hf
     ·obtain⟨inf,_,h1,_⟩:=Ctx.info (Γ:=Γ) (t:=f.type) (Sh.known_ne h.1);exact⟨inf,h1⟩
     ·exact ih h.2.2 f hf
   exact this _ hk
  rw [Fg,map_eq_pure_bind];simp only [Sem.run_bind,Sem.run_pure,key _ hall,Result.andThen_ok];subst hl;simp [Function.comp_def]
 refine⟨.agg vs',λ_ _ _ _ w' _=>?_,⟨vs'.toList,by simp,f2⟩⟩
 have hplace:Instr.fill (λx=>Option.map (λq:Nat×TypeId×Nat=>(q.1,q.2.2)) l[x]?) z.cells (List.map (λx=>(x.1,a.eval x.2)) ps)=some vs':=by
  rw [<- f1];congr 1;funext i;simp only [vy];cases l[i]? with
  | none=>rfl
  | some q=>obtain⟨o1,t1,s1⟩:=q;rfl
 have hm:=hmap w';simp only [execOp,Instr.build];simp [zeroValue,typeInfo,hi,hzz,run_underlying hu] at hm ⊢;rw [hm];simp only [Result.andThen_ok,List.getElem?_toArray,Bl,hplace];simp
theorem sliceAddr {X w n cap es} {ad:Addr} {xs:List (List D)} (h:RepC X w (.slice (some ad) n cap) (.slice es xs)):n=xs.length/\(∀ i (hi:i<xs.length),(xs[i]'hi).length=es) /\
  ∃ vs:List Value,vs.length=n*es/\(∀ j u,vs[j]?=some u->w.cell? (ad.add j)=some u)/\(∀ u∈vs,u.oneCell'=true) /\
   ∀ i (hi:i<xs.length) j (hj:j<(xs[i]'hi).length),∃ v,vs[i*es+j]?=some v/\RepC X w v ((xs[i]'hi)[j]'hj):=by
 cases h with
 | zero=>exact⟨rfl,by simp,[],by simp,by simp,by simp,by simp⟩
 | @slice _ _ b off _ _ _ _ c hn hc hm hX hb he hcell hrep =>
  subst hn;have key:∀ m,m<=xs.length->∃ vs:List Value,vs.length=m*es/\(∀ j u,vs[j]?=some u->w.cell? ((⟨b,off,none⟩:Addr).add j)=some u)/\(∀ u∈vs,u.oneCell'=true) /\
    ∀ i (hi:i<xs.length),i<m->∀ j (hj:j<(xs[i]'hi).length),∃ v,vs[i*es+j]?=some v/\RepC X w v ((xs[i]'hi)[j]'hj):=by
   intro m;induction m with
   | zero=>intro _;exact⟨[],by simp,by simp,by simp,λi _ h=>by omega⟩
   | succ m ih =>
    intro hm';obtain⟨vs,h1,h2,h3,h4⟩:=ih (by omega);have hlt:m<xs.length:=by omega
    refine⟨vs++(List.range es).map (c m),by simp [h1,Nat.add_mul],?_,?_,?_⟩
    ·intro j u hj;by_cases hjl:j<vs.length
     ·rw [Bi hjl] at hj;exact h2 j u hj
     ·rw [A8 (by omega)] at hj;have hjr:j-vs.length<es:=by
       rcases Nat.lt_or_ge (j-vs.length) es with h|h
       ·exact h
       ·rw [List.getElem?_eq_none (by simpa using h)] at hj;cases hj
      rw [Bl,Ef hjr] at hj;simp only [B3,Option.some.injEq] at hj;have:=hcell m hlt (j-vs.length) (by rw [he m hlt];exact hjr)
      rw [Addr.add_at,<- hj,<- this];congr 2;omega
    ·intro u hu;rcases List.mem_append.1 hu with hu|hu
     ·exact h3 u hu
     ·obtain⟨q,hq,rfl⟩:=List.mem_map.1 hu;exact (RepC.one (hrep m hlt q (by rw [he m hlt];exact List.mem_range.1 hq))).1
    ·intro i hi him j hj;have hjes:j<es:=by rw [<- he i hi];exact hj
     by_cases him':i<m
     ·obtain⟨v,g1,g2⟩:=h4 i hi him' j hj;refine⟨v,?_,g2⟩
      rw [Bi]
      ·exact g1
      ·exact (List.getElem?_eq_some_iff.1 g1).1
     ·have:i=m:=by omega
      subst this;refine⟨c i j,?_,hrep i hi j hj⟩
      rw [A8 (by omega),show i*es+j-vs.length=j by omega,Bl,Ef hjes];rfl
  obtain⟨vs,h1,h2,h3,h4⟩:=key xs.length (Af _);exact⟨rfl,he,vs,h1,h2,h3,λi hi=>h4 i hi hi⟩
theorem rows_append {X w es} {xs ys:List (List D)} {vs us:List Value} (hx:∀ i (h:i<xs.length),(xs[i]'h).length=es) (hy:∀ i (h:i<ys.length),(ys[i]'h).length=es) (hl:vs.length=xs.length*es)
  (h1:∀ i (h:i<xs.length) j (hj:j<(xs[i]'h).length),∃ v,vs[i*es+j]?=some v/\RepC X w v ((xs[i]'h)[j]'hj))
  (h2:∀ i (h:i<ys.length) j (hj:j<(ys[i]'h).length),∃ v,us[i*es+j]?=some v/\RepC X w v ((ys[i]'h)[j]'hj)) :
  (∀ i (h:i<(xs++ys).length),((xs++ys)[i]'h).length=es)/\∀ i (h:i<(xs++ys).length) j (hj:j<((xs++ys)[i]'h).length),∃ v,(vs++us)[i*es+j]?=some v/\RepC X w v (((xs++ys)[i]'h)[j]'hj):=by
 refine⟨λi h=>?_,λi h j hj=>?_⟩
 ·rw [List.getElem_append];split
  ·exact hx i _
  ·exact hy _ _
 ·by_cases hi:i<xs.length
  ·have e1:(xs++ys)[i]'h=xs[i]'hi:=List.getElem_append_left hi;have hj':j<(xs[i]'hi).length:=by rw [<- e1];exact hj
   obtain⟨v,g1,g2⟩:=h1 i hi j hj';refine⟨v,?_,?_⟩
   ·rw [Bi (List.getElem?_eq_some_iff.1 g1).1];exact g1
   ·simp only [e1];exact g2
  ·have hi2:i-xs.length<ys.length:=by simp at h;omega
   have e1:(xs++ys)[i]'h=ys[i-xs.length]'hi2:=List.getElem_append_right (by omega);have hj':j<(ys[i-xs.length]'hi2).length:=by rw [<- e1];exact hj
   obtain⟨v,g1,g2⟩:=h2 (i-xs.length) hi2 j hj';have hmul:xs.length*es<=i*es:=Nat.mul_le_mul_right _ (by omega);refine⟨v,?_,?_⟩
   ·rw [A8 (by omega),hl,show i*es+j-xs.length*es=(i-xs.length)*es+j by rw [Nat.sub_mul];omega];exact g1
   ·simp only [e1];exact g2
end
end
end Go.Proofs.YtapciiffpnociadGreat
