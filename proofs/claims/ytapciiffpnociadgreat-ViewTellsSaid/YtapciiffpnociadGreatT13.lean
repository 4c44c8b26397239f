/- Several texts in one: GxMap DagB GxMty GxTail DagC. Condition: none. -/
import Derived.Test.YtapciiffpnociadGreatT09
import Derived.Maps.Keyed
import Derived.Test.YtapciiffpnociadGreatT12
import Derived.DeepKeys4
import Derived.Test.YtapciiffpnociadGreatT08
set_option maxHeartbeats 8000000
open Array renaming getElem?_toList→Br,toList_push→F3
open Bool renaming and_eq_true→Ae,false_or→B9,or_eq_true→Dz
open List renaming all_eq_true→B5,append_assoc→Cf,cons_append→C6,countP_eq_length_filter→Fa,ext_getElem?→Ci,find?_some→Hz,foldl_append→D5,getElem?_map→Bg,getElem_mem→Aj,length_append→Af,length_cons→Bj,length_map→Aa,length_take→Aq,mapM_cons→Fh,map_append→Ar,mem_append_left→Ax,mem_cons_of_mem→Ag,mem_cons_self→Ac,mem_of_find?_eq_some→F2,mem_of_getElem?→By,mem_singleton→A1,take_of_length_le→Ai,take_succ_eq_append_getElem→An
open Nat renaming beq→Aw,ble→C0,blt→Av,eq_of_beq_eq_true→Ao,le_of_ble_eq_true→Ab,le_refl→Ah,lt_of_le_of_lt→G7,not_lt_zero→A9,zero_le→Ak
open Option renaming map_some→Bz
namespace Go.Proofs.YtapciiffpnociadGreat
section
open Go Go.RowKit
open Go.Maps (Keyed)
def MK.eqb:MK->MK->Bool
 | .str a,.str b=>decide (a.data=b.data)
 | .pair a b,.pair c d=>decide (a=c) && decide (b=d)
 | _,_=>false
theorem MK.eqb_iff:∀ {a b:MK},a.eqb b=true↔a=b
 | .str a,.str b=>by
  simp only [MK.eqb,decide_eq_true_iff,MK.str.injEq]
  exact⟨λh=>by cases a;cases b;exact congrArg _ h,λh=>by rw [h]⟩
 | .pair a b,.pair c d=>by simp only [MK.eqb,Ae,decide_eq_true_iff,MK.pair.injEq]
 | .str _,.pair _ _=>by simp [MK.eqb]
 | .pair _ _,.str _=>by simp [MK.eqb]
theorem MK.eqb_self (a:MK):a.eqb a=true:=MK.eqb_iff.2 rfl
theorem MK.val_inj:∀ {a b:MK},a.val=b.val->a=b
 | .str a,.str b,h=>by cases h;rfl
 | .pair a b,.pair c d,h=>by
  simp only [MK.val,Value.agg.injEq,Array.mk.injEq,List.cons.injEq,Value.int.injEq,and_true,true_and] at h
  rw [h.1,h.2]
 | .str _,.pair _ _,h=>by cases h
 | .pair _ _,.str _,h=>by cases h
def mapGet?:List (MK×Int)->MK->Option Int
 | [],_=>none
 | (k,v)::l,x=>if k.eqb x then some v else mapGet? l x
def br:List (MK×Int)->MK->Int->List (MK×Int)
 | [],x,n=>[(x,n)]
 | (k,v)::l,x,n=>if k.eqb x then (k,n)::l else (k,v)::br l x n
theorem ul (x:MK) (n:Int) (y:MK):∀ l,mapGet? (br l x n) y=if x.eqb y then some n else mapGet? l y
 | []=>rfl
 | (k,v)::l=>by
  unfold br
  by_cases hk:k.eqb x=true
  ·have:=MK.eqb_iff.1 hk
   subst this
   rw [if_pos hk]
   simp only [mapGet?]
   split<;>rfl
  ·rw [if_neg hk]
   simp only [mapGet?,ul x n y l]
   by_cases hy:k.eqb y=true
   ·have:=MK.eqb_iff.1 hy
    subst this
    rw [if_pos hy,if_neg (λh=>hk (MK.eqb_iff.2 (MK.eqb_iff.1 h).symm)),if_pos hy]
   ·rw [if_neg hy,if_neg hy]
theorem mapGet_none {x:MK}:∀ {l:List (MK×Int)},(∀ p∈l,p.1≠x)->mapGet? l x=none
 | [],_=>rfl
 | (k,v)::l,h=>by
  unfold mapGet?
  rw [if_neg (λhc=>h (k,v) (Ac ..) (MK.eqb_iff.1 hc))]
  exact mapGet_none λp hp=>h p (Ag _ hp)
theorem mapGet_some {x:MK} {n:Int}:∀ {l:List (MK×Int)},l.Pairwise (λp q=>p.1≠q.1)->(x,n)∈l->mapGet? l x=some n
 | [],_,h=>by simp at h
 | (k,v)::l,hp,h=>by
  obtain⟨h1,h2⟩:=List.pairwise_cons.1 hp
  unfold mapGet?
  rcases List.mem_cons.1 h with h|h
  ·cases h;rw [if_pos (MK.eqb_self _)]
  ·rw [if_neg λhc=>h1 _ h (MK.eqb_iff.1 hc)]
   exact mapGet_some h2 h
theorem mapSet_new {x:MK} {n:Int}:∀ {l:List (MK×Int)},(∀ p∈l,p.1≠x)->br l x n=l++[(x,n)]
 | [],_=>rfl
 | (k,v)::l,h=>by
  unfold br
  rw [if_neg (λhc=>h (k,v) (Ac ..) (MK.eqb_iff.1 hc)),mapSet_new λp hp=>h p (Ag _ hp)]
  rfl
theorem uk {x:MK} {n:Int}:∀ {l:List (MK×Int)} {j:Nat} {v:Int},l.Pairwise (λp q=>p.1≠q.1)->l[j]?=some (x,v)->br l x n=l.set j (x,n)
 | [],_,_,_,h=>by simp at h
 | (k,u)::l,0,v,hp,h=>by
  simp only [List.getElem?_cons_zero,Option.some.injEq,Prod.mk.injEq] at h
  unfold br
  rw [if_pos (by rw [h.1];exact MK.eqb_self _),h.1]
  rfl
 | (k,u)::l,j+1,v,hp,h=>by
  obtain⟨h1,h2⟩:=List.pairwise_cons.1 hp
  rw [List.getElem?_cons_succ] at h
  unfold br
  rw [if_neg λhc=>h1 _ (By h) (MK.eqb_iff.1 hc),uk h2 h]
  rfl
theorem rr (x:MK) (n:Int):∀ l,∀ p∈br l x n,p=(x,n)∨p∈l
 | [],p,h=>by simp only [br,A1] at h;exact .inl h
 | (k,v)::l,p,h=>by
  unfold br at h
  split at h
  ·rename_i hk
   rw [MK.eqb_iff.1 hk] at h
   rcases List.mem_cons.1 h with h|h
   ·exact .inl h
   ·exact .inr (Ag _ h)
  ·rcases List.mem_cons.1 h with h|h
   ·exact .inr (by rw [h];exact Ac ..)
   ·exact (rr x n l p h).imp id λh=>Ag _ h
theorem pn (x:MK) (n:Int):∀ l:List (MK×Int),l.Pairwise (λp q=>p.1≠q.1)->(br l x n).Pairwise (λp q=>p.1≠q.1)
 | [],_=>by simp [br]
 | (k,v)::l,h=>by
  obtain⟨h1,h2⟩:=List.pairwise_cons.1 h
  unfold br
  split
  ·exact List.pairwise_cons.2 ⟨h1,h2⟩
  ·rename_i hk
   refine List.pairwise_cons.2 ⟨λp hp=>?_,pn x n l h2⟩
   rcases rr x n l p hp with h|h
   ·rw [h];exact λhc=>hk (MK.eqb_iff.2 hc)
   ·exact h1 p h
structure MapT (P:Program) (t:TypeId) (kd:Bool):Prop where
 ty:∃ kt et,P.underlying t=some (.map kt et)/\Keyed P kt/\(∀ key:MK,key.ok kd->∃ l,keyOf P kt key.val=some l)/\∀ w,(zeroValue et).run P w = .ok (.int .i64 0) w
def keyC:SV->Option MK
 | .d (.str s)=>some (.str s)
 | .agg [.d (.int .i64 a),.d (.int .i64 b)]=>some (.pair a b)
 | _=>none
def MK.kd:MK->Bool
 | .str _=>true
 | .pair _ _=>false
theorem keyC_rel {X e w} {s:SV} {v:Value} {key:MK} (h:keyC s=some key) (hr:Rel X e w s v):v=key.val/\key.ok key.kd:=by
 unfold keyC at h;split at h
 ·cases h;have hr:RepC _ _ _ _:=hr;cases hr;exact⟨rfl,rfl,by assumption⟩
 ·cases h;obtain⟨vs,rfl,h2⟩:=hr;match vs,h2 with
  | [u1,u2],⟨g1,g2,_⟩ =>
   have g1:RepC _ _ _ _:=g1;have g2:RepC _ _ _ _:=g2;cases g1;cases g2;exact⟨rfl,rfl,by assumption,by assumption⟩
 ·cases h
section
variable {Γ : Ctx} {k : Nat -> Prop} {L : Sl} {H : Hp} {K : cy} {ops : List Oper} {rest : List Oper} {a : Act} {w : World} {e : Env} {t t' ty : TypeId} {x y : Operand}
theorem cSV_mp (v:Value) (i:Nat):cSV v≠.mp i:=by unfold cSV;split<;>simp
theorem rx {es:Array MapEntry} {kvs:List (MK×Int)} (h:es.toList.map (λx=>(x.key,x.val))=kvs.map (λp=>(p.1.val,Value.int .i64 p.2))) {j:Nat} {x:MapEntry} (hj:es.toList[j]?=some x):∃ p,kvs[j]?=some p/\x.key=p.1.val/\x.val = .int .i64 p.2:=by
 have h1:(es.toList.map (λx=>(x.key,x.val)))[j]?=some (x.key,x.val):=by rw [Bg,hj];rfl
 rw [h,Bg] at h1;cases hk:kvs[j]? with
 | none=>rw [hk] at h1;cases h1
 | some p =>
  rw [hk] at h1;simp only [Bz,Option.some.injEq,Prod.mk.injEq] at h1;exact⟨p,rfl,h1.1.symm,h1.2.symm⟩
theorem entries_of {es:Array MapEntry} {kvs:List (MK×Int)} (h:es.toList.map (λx=>(x.key,x.val))=kvs.map (λp=>(p.1.val,Value.int .i64 p.2))) {x:MapEntry} (hx:x∈es.toList):∃ p∈kvs,x.key=p.1.val/\x.val = .int .i64 p.2:=by
 obtain⟨j,hj⟩:=List.mem_iff_getElem?.1 hx;obtain⟨p,h1,h2⟩:=rx h hj;exact⟨p,By h1,h2⟩
theorem map_find {P:Program} {kt:TypeId} {kd:Bool} {kvs:List (MK×Int)} {es:Array MapEntry} (K:Keyed P kt) (hof:∀ key:MK,key.ok kd->∃ l,keyOf P kt key.val=some l) (hes:es.toList.map (λx=>(x.key,x.val))=kvs.map (λp=>(p.1.val,Value.int .i64 p.2)))
  (hkeys:kvs.Pairwise λp q=>p.1≠q.1) (hwf:∀ p∈kvs,p.1.ok kd/\(Lit.int .i64 p.2).wf=true) {key:MK} (hk:key.ok kd) (w:World) :
  ((Instr.findKey kt key.val es.toList).run P w = .ok none w/\mapGet? kvs key=none/\∀ p∈kvs,p.1≠key)∨∃ j x n,(Instr.findKey kt key.val es.toList).run P w = .ok (some (j,.int .i64 n)) w/\es.toList[j]?=some x/\x.key=key.val/\kvs[j]?=some (key,n)/\mapGet? kvs key=some n/\(Lit.int .i64 n).wf=true:=by
 obtain⟨l,hl⟩:=hof key hk;have hall:∀ e∈es.toList,∃ l,keyOf P kt e.key=some l:=λx hx=>by
  obtain⟨p,h1,h2,_⟩:=entries_of hes hx;rw [h2];exact hof _ (hwf p h1).1
 rcases K.find w hl es.toList hall with ⟨h1,h2⟩|⟨j,x,h1,h2,h3⟩
 ·have hno:∀ p∈kvs,p.1≠key:=λp hp he=>by
   obtain⟨j,hj⟩:=List.mem_iff_getElem?.1 hp;have hj2:(es.toList.map (λx=>(x.key,x.val)))[j]?=some (p.1.val,Value.int .i64 p.2):=by rw [hes,Bg,hj];rfl
   rw [Bg] at hj2;cases hx:es.toList[j]? with
   | none=>rw [hx] at hj2;cases hj2
   | some x =>
    rw [hx] at hj2;simp only [Bz,Option.some.injEq,Prod.mk.injEq] at hj2;exact h2 x (By hx) (by rw [hj2.1,he])
  exact .inl ⟨h1,mapGet_none hno,hno⟩
 ·obtain⟨p,q1,q2,q3⟩:=rx hes h2;have hpk:p.1=key:=MK.val_inj (by rw [<- q2,h3]);obtain⟨pk,n⟩:=p;subst hpk;rw [q3] at h1;exact .inr ⟨j,x,n,h1,h2,h3,q1,mapGet_some hkeys (By q1),(hwf _ (By q1)).2⟩
theorem stamps_push {es:Array MapEntry} {clock:Nat} {k v:Value} (h:va es clock):va (es.push ⟨k,v,clock⟩) (clock+1):=by
 refine⟨?_,λx hx=>?_⟩
 ·rw [F3];refine List.pairwise_append.2 ⟨h.1,List.pairwise_singleton _ _,λx hx y hy=>?_⟩;rw [A1] at hy;subst hy;have:=h.2 x hx
  dsimp only;omega
 ·rw [F3] at hx;rcases List.mem_append.1 hx with hx|hx
  ·have:=h.2 x hx;omega
  ·rw [A1] at hx;subst hx;exact Nat.lt_succ_self _
theorem borns_modify {es:Array MapEntry} {j:Nat} {f:MapEntry->MapEntry} (hf:∀ x,(f x).born=x.born):(es.modify j f).toList.map (·.born)=es.toList.map (·.born):=by
 apply Ci;intro q;rw [Bg,Bg,Br,Br,Array.getElem?_modify];by_cases hq:j=q
 ·rw [if_pos hq];cases es[q]? with
  | none=>rfl
  | some x=>simp [hf]
 ·rw [if_neg hq]
theorem rz {es:Array MapEntry} {clock j:Nat} {f:MapEntry->MapEntry} (h:va es clock) (hf:∀ x,(f x).born=x.born):va (es.modify j f) clock:=by
 have hb:=borns_modify (es:=es) (j:=j) hf;have h1:(es.toList.map (·.born)).Pairwise (·≠·):=List.pairwise_map.2 h.1;rw [<- hb] at h1;refine⟨List.pairwise_map.1 h1,λx hx=>?_⟩
 have hm:x.born∈(es.modify j f).toList.map (·.born):=List.mem_map.2 ⟨x,hx,rfl⟩;rw [hb] at hm;obtain⟨y,hy,he⟩:=List.mem_map.1 hm;rw [<- he];exact h.2 y hy
theorem wf_zero:(Lit.int .i64 0).wf=true:=by decide
theorem look_run {P:Program} {kd:Bool} {kvs:List (MK×Int)} {key:MK} (T:MapT P t kd) (c:Bool) {w:World} {b:Nat} (hM:MapIs w b kd kvs) (hok:key.ok kd) :
  (Instr.lookup t (.map (some b)) key.val c).run P w = .ok (if c then .tuple #[.int .i64 ((mapGet? kvs key).getD 0),.bool (mapGet? kvs key).isSome] else .int .i64 ((mapGet? kvs key).getD 0)) w/\(Lit.int .i64 ((mapGet? kvs key).getD 0)).wf=true:=by
 obtain⟨kt,et,ht,K,hof,hz⟩:=T.ty;obtain⟨⟨es,clock,hb,hes,hst⟩,hkeys,hwf⟩:=hM;obtain⟨l,hl⟩:=hof key hok;rcases map_find K hof hes hkeys hwf hok w with ⟨h1,h2,_⟩|⟨j,x0,n,h1,_,_,_,h2,h3⟩
 ·refine⟨?_,by rw [h2];exact wf_zero⟩
  simp [Instr.lookup,run_underlying ht,MapKept.run_getObj_map hb,K.check w _ hl,h1,hz w,h2,Result.andThen]
 ·refine⟨?_,by rw [h2];exact h3⟩
  simp [Instr.lookup,run_underlying ht,MapKept.run_getObj_map hb,K.check w _ hl,h1,h2,Result.andThen]
def lookAt (H:Hp) (s:SV) (kd:Bool) (kvs:List (MK×Int)):Prop:=match s with
 | .mp i=>Hp.get H i=some (.map kd kvs)
 | .md kd' kvs'=>kd'=kd/\kvs'=kvs
 | _=>False
theorem cSV_md (v:Value) (kd:Bool) (kvs:List (MK×Int)):cSV v≠.md kd kvs:=by unfold cSV;split<;>simp
theorem lookAt_is {kd:Bool} {kvs:List (MK×Int)} (m:Models Γ k L H e a w) (h:lookAt H (ap L x) kd kvs):∃ b,a.eval x = .map (some b)/\b<w.heap.size/\MapIs w b kd kvs:=by
 unfold lookAt at h;split at h
 ·rename_i i hx;obtain⟨_,hv⟩:=evT m hx (cSV_mp · _);exact⟨_,hv,m.toHeap.lt (e.β i) (List.mem_filterMap.2 ⟨_,Hp.mem_of h,rfl⟩),(m.heap _ (Hp.mem_of h)).2⟩
 ·rename_i kd' kvs' hx;obtain⟨rfl,rfl⟩:=h;obtain⟨b,h1,h2,_,h3⟩:=evT m hx (cSV_md · _ _);exact⟨b,h1,h2,h3⟩
 ·exact h.elim
theorem ev_lookup {kd:Bool} {kvs:List (MK×Int)} {key:MK} (T:MapT Γ.P t kd) (hx:lookAt H (ap L x) kd kvs) (hy:keyC (ap L y)=some key) (hkd:key.kd=kd) (hyo:dh y=true) :
  Ev Γ k L H (.lookup t x y false) ty (.d (.int .i64 ((mapGet? kvs key).getD 0))):=by
 intro e a w m;obtain⟨b,hvx,hlt,hM⟩:=lookAt_is m hx;obtain⟨hvy,hok⟩:=keyC_rel hy (m.op y (ce hyo));rw [hkd] at hok;refine⟨.int .i64 ((mapGet? kvs key).getD 0),λ_ _ _ _ w' hw=>?_,.int (look_run T false hM hok).2⟩
 have h1:=(look_run T false (hM.keep λ_ _ h=>(hw.block _ hlt).trans h) hok).1;simp only [execOp,hvx,hvy,Sem.run_bind,Sem.run_pure,h1,Result.andThen_ok];rfl
theorem op_mapNew {d z:Nat} {kd:Bool} {pos:String} {af:Array Edge} {g:Option (Nat×Bool)} (hz:¬ k z) (hd:Av d Γ.n=true):OpOk Γ ⟨some d,.makeMap t none,ty,pos,af,g⟩ k L H (mg k z) ((d,.mp z)::L) ((z,.map kd [])::H):=by
 intro e a w Q m;have hze:¬ e.dom z:=λh=>hz ((m.top z).1 h)
 have hrun:(execOp a.eval ⟨some d,.makeMap t none,ty,pos,af,g⟩).run Γ.P w = .ok (.value (.map (some w.heap.size))) (w.alloc (.map #[] 0)):=by
  simp only [execOp,Option.map_none,Sem.run_bind,run_makeMap,Result.andThen_ok,Sem.run_pure]
 unfold Oper.wp;rw [hrun];have m2:=m.new hz (hb:=.map kd []) (e':=e.bind z w.heap.size) (w':=w.alloc (.map #[] 0)) (λi=>or_congr (m.top i) Iff.rfl) (e.bind_ext _ _ hze) ⟨(Below.refl _ _).alloc (Ah _) _,λ_=>Ah _⟩
  (λb hb=>by simp [HB.owned,Env.bind] at hb;omega) (λ_=>⟨⟨#[],0,by show (w.alloc (.map #[] 0)).heap[(e.bind z w.heap.size).β z]?=_;rw [show (e.bind z w.heap.size).β z=w.heap.size from if_pos rfl];exact (MapKept.heap_alloc w _).1,rfl,.nil,by simp⟩,.nil,by simp⟩)
 refine⟨_,m2.put (s:=.mp z) (v:=.map (some w.heap.size)) (Ab hd) ⟨.inr rfl,?_⟩⟩
 show _=Value.map (some (if z=z then w.heap.size else e.β z));rw [if_pos rfl]
theorem op_mapSet {i:Nat} {kd:Bool} {kvs:List (MK×Int)} {key:MK} {n:Int} {u:Operand} {dst:Option Nat} {pos:String} {af:Array Edge} {g:Option (Nat×Bool)} (T:MapT Γ.P t kd) (hx:ap L x = .mp i) (hH:Hp.get H i=some (.map kd kvs)) (hy:keyC (ap L y)=some key) (hkd:key.kd=kd) (hyo:dh y=true)
  (hu:ap L u = .d (.int .i64 n)) (huo:dh u=true) (hdst:dst=none):OpOk Γ ⟨dst,.mapUpdate t x y u,ty,pos,af,g⟩ k L H k L (Hp.set H i (.map kd (br kvs key n))):=by
 subst hdst;intro e a w Q m;obtain⟨kt,et,ht,K,hof,hz⟩:=T.ty;obtain⟨_,hvx⟩:=evT m hx (cSV_mp · _);obtain⟨hvy,hok⟩:=keyC_rel hy (m.op y (ce hyo));rw [hkd] at hok;have hru:=m.op u (ce huo);rw [hu] at hru;obtain⟨hvu,hnwf⟩:a.eval u = .int .i64 n/\(Lit.int .i64 n).wf=true:=by
  have hru:RepC _ _ _ _:=hru;generalize a.eval u=vu at hru;cases hru with
  | int h=>exact⟨rfl,h⟩
 have hM:MapIs w (e.β i) kd kvs:=(m.heap _ (Hp.mem_of hH)).2;have hlt:=m.toHeap.lt (e.β i) (List.mem_filterMap.2 ⟨_,Hp.mem_of hH,rfl⟩);obtain⟨⟨es,clock,hb,hes,hst⟩,hkeys,hwf⟩:=hM;obtain⟨l,hl⟩:=hof key hok;have hrun:∃ es' clock',(Instr.mapUpdate t (.map (some (e.β i))) key.val (.int .i64 n)).run Γ.P w = .ok () { w with heap:=w.heap.setIfInBounds (e.β i) (.map es' clock') }/\es'.toList.map (λx=>(x.key,x.val))=(br kvs key n).map (λp=>(p.1.val,Value.int .i64 p.2))/\va es' clock':=by
  rcases map_find K hof hes hkeys hwf hok w with ⟨h1,_,h2⟩|⟨j,x0,n0,h1,h2,h3,h4,_,_⟩
  ·refine⟨es.push ⟨key.val,.int .i64 n,clock⟩,clock+1,?_,?_,stamps_push hst⟩
   ·simp [Instr.mapUpdate,run_underlying ht,MapKept.run_getObj_map hb,K.check w false hl,h1,MapKept.run_setObj_map _ hb,Result.andThen]
   ·rw [mapSet_new h2,F3,Ar,Ar,hes];rfl
  ·have hj2:es[j]?=some x0:=by simpa using h2
   have hjl:j<es.size:=(Array.getElem?_eq_some_iff.1 hj2).1;refine⟨es.modify j λx=>{ x with key:=key.val,val:=.int .i64 n },clock,?_,?_,rz hst λ_=>rfl⟩
   ·have hst:(Instr.keyThatStays (((es[j]?).map (·.key)).getD key.val) key.val).run Γ.P w = .ok key.val w:=by
     rw [hj2];show (Instr.keyThatStays x0.key key.val).run Γ.P w=_;rw [h3];exact K.stays w hl
    simp [Instr.mapUpdate,run_underlying ht,MapKept.run_getObj_map hb,K.check w false hl,h1,hst,MapKept.run_setObj_map _ hb,Result.andThen]
   ·rw [uk hkeys h4,List.map_set,<- hes];apply Ci;intro q;by_cases hq:q=j
    ·subst hq;simp [hjl]
    ·simp [Ne.symm hq]
 obtain⟨es',clock',hr,hes'⟩:=hrun;unfold Oper.wp;simp only [execOp,hvx,hvy,hvu,Sem.run_bind,Sem.run_pure,hr,Result.andThen_ok];refine⟨e,?_⟩
 have m2:=m.turn (w':={ w with heap:=w.heap.setIfInBounds (e.β i) (.map es' clock') }) (b':=.map kd (br kvs key n)) hH (by simp) rfl rfl rfl (λ_=>Ah _) (λc hc hne=>?_) rfl ⟨⟨es',clock',?_,hes'⟩,pn _ _ _ hkeys,λp hp=>?_⟩
 ·exact m2
 ·have hne':e.β i≠c:=λh=>hne (by simp [HB.owned,h])
  exact Array.getElem?_setIfInBounds_ne hne'
 ·show (w.heap.setIfInBounds (e.β i) (.map es' clock'))[e.β i]?=_;simp [hlt]
 ·rcases rr key n kvs p hp with h|h
  ·rw [h];exact⟨hok,hnwf⟩
  ·exact hwf p h
end
section
variable {Γ : Ctx} {k : Nat} {L : Sl} {H : Hp} {K : cy} {ops : List Oper} {rest : List Oper} {t t' ty : TypeId} {x y : Operand} {q : Bool}
theorem ds_lookup {kd:Bool} {kvs:List (MK×Int)} {key:MK} {d:Nat} {pos:String} {af:Array Edge} {g:Option (Nat×Bool)} (T:MapT Γ.P t kd) (hx:lookAt H (ap L x) kd kvs) (hy:keyC (ap L y)=some key) (hkd:key.kd=kd) (hyo:dh y=true)
  (hw:au ops L g=some true) (hd:Av d Γ.n=true) (hk:DS q Γ ops rest K k ((d,.d (.int .i64 ((mapGet? kvs key).getD 0)))::L) H):DS q Γ ops (⟨some d,.lookup t x y false,ty,pos,af,g⟩::rest) K k L H :=
 je (ev_lookup T hx hy hkd hyo) hw hd hk
theorem ent_mapd {t i:Nat} {kd:Bool} {kvs:List (MK×Int)} {H':Hp} (hL:L.get t = .mp i) (hH:Hp.get H i=some (.map kd kvs)) (hD:zn H i some=some H'):Ent Γ k L H k ((t,.md kd kvs)::L) H':=by
 rw [ni] at hD;cases hD;intro e a w m;obtain⟨m2,hX⟩:=m.del i;have hmem:=Hp.mem_of hH;have hown:e.β i∈ah e H:=List.mem_filterMap.2 ⟨_,hmem,rfl⟩;refine⟨e,m2.toHeap,m2.defers,m2.len,λt'=>?_⟩
 rw [Sl.get_cons];split
 ·rename_i ht;subst ht;have hs:=m.slot t;rw [hL] at hs;refine⟨e.β i,hs.2,m.toHeap.lt _ hown,λhx=>?_,(m.heap _ hmem).2⟩
  rcases hx with hx|hx
  ·exact (m.mine _ hown).2 hx
  ·obtain⟨p,hp,hpg⟩:=List.mem_filterMap.1 hx;have hd:=Hp.del_mem (i:=i) H m.ids p hp;exact m.owned_ne hd.1 hmem hd.2 hpg rfl
 ·exact m2.slot t'
theorem ds_mapNew (kd:Bool) {d:Nat} {pos:String} {af:Array Edge} {g:Option (Nat×Bool)} (hw:au ops L g=some true) (hd:Av d Γ.n=true)
  (hk:DS false Γ ops rest K (k+1) ((d,.mp k)::L) ((k,.map kd [])::H)):DS false Γ ops (⟨some d,.makeMap t none,ty,pos,af,g⟩::rest) K k L H :=
 z6 hw ((op_mapNew (gn k) hd).cast (ff k)) hk
theorem ds_mapSet (i:Nat) {kd:Bool} {kvs:List (MK×Int)} {key:MK} {n:Int} {u:Operand} {H':Hp} {pos:String} {af:Array Edge} {g:Option (Nat×Bool)} (T:MapT Γ.P t kd) (hx:ap L x = .mp i) (hH:Hp.get H i=some (.map kd kvs)) (hy:keyC (ap L y)=some key) (hkd:key.kd=kd) (hyo:dh y=true)
  (hu:ap L u = .d (.int .i64 n)) (huo:dh u=true) (hS:zk H i (.map kd (br kvs key n)) some=some H') (hw:au ops L g=some true)
  (hk:DS false Γ ops rest K k L H'):DS false Γ ops (⟨none,.mapUpdate t x y u,ty,pos,af,g⟩::rest) K k L H:=by
 rw [l6] at hS;cases hS;exact z6 hw (op_mapSet T hx hH hy hkd hyo hu huo rfl) hk
end
def lf (i:UId):MK:=.pair i.author i.number
theorem keyI_inj {i j:UId} (h:lf i=lf j):i=j:=by
 cases i;cases j;simp only [lf,MK.pair.injEq] at h;rw [h.1,h.2]
theorem keyI_eqb (i j:UId):(lf i).eqb (lf j)=i.same j:=by
 rw [Bool.eq_iff_iff,MK.eqb_iff,same_iff];exact⟨keyI_inj,λh=>by rw [h]⟩
def metB (m:List (MK×Int)) (i:UId):Bool:=decide ((mapGet? m (lf i)).getD 0=1)
theorem xj (m:List (MK×Int)) (i j:UId):metB (br m (lf i) 1) j=(i.same j || metB m j):=by
 unfold metB;rw [ul,keyI_eqb];cases i.same j<;>simp
def tj (has:List Upd) (i:UId):List UId:=match has.find? λu=>u.id.same i with
 | some u=>cv u
 | none=>[]
theorem underOf_mem {has:List Upd} {i j:UId} (h:j∈tj has i):∃ u∈has,u.id=i/\j∈cv u:=by
 unfold tj at h;split at h
 ·rename_i u hf;exact⟨u,F2 hf,same_iff.1 (Hz (p:=λu:Upd=>u.id.same _) hf),h⟩
 ·cases h
theorem underOf_eq {has:List Upd} (hs:StrU has) {u:Upd} (hu:u∈has):tj has u.id=cv u:=by
 unfold tj;split
 ·rename_i v hf;rw [hs.uniq (F2 hf) hu (same_iff.1 (Hz (p:=λu:Upd=>u.id.same _) hf))]
 ·rename_i hf;exact absurd (same_iff.2 rfl) (List.find?_eq_none.1 hf u hu)
def fg (has:List Upd):Nat->List (MK×Int)->UId->List (MK×Int)
 | 0,m,_=>m
 | n+1,m,i=>if hasU has i=false∨metB m i=true then m else (tj has i).foldl (fg has n) (br m (lf i) 1)
def xo (has:List Upd) (m:List (MK×Int)):Nat:=cntR has λu=>!metB m u.id
def MoreM (m m':List (MK×Int)):Prop:=∀ i,metB m i=true->metB m' i=true
theorem leftM_le {has:List Upd} {m m':List (MK×Int)} (h:MoreM m m'):xo has m'<=xo has m:=by
 unfold xo cntR;rw [<- Fa,<- Fa];refine List.countP_mono_left λu _ hu=>?_
 cases hb:metB m u.id with
 | false=>rfl
 | true=>rw [h _ hb] at hu;cases hu
theorem MoreM.set (m:List (MK×Int)) (i:UId):MoreM m (br m (lf i) 1):=λj hj=>by rw [xj,hj,Bool.or_true]
theorem leftM_set {has:List Upd} {m:List (MK×Int)} {i:UId} (h:hasU has i=true) (hm:metB m i=false):xo has (br m (lf i) 1)<xo has m:=by
 obtain⟨u,hu,rfl⟩:=hasU_iff.1 h;refine cnt_lt (λv _ hv=>?_) ⟨u,hu,by rw [xj,same_iff.2 rfl];rfl,by rw [hm];rfl⟩;cases hb:metB m v.id with
 | false=>rfl
 | true=>rw [MoreM.set m _ _ hb] at hv;cases hv
structure Walked (has:List Upd) (m m':List (MK×Int)):Prop where
 more:MoreM m m'
 closed:∀ u∈has,metB m' u.id=true->metB m u.id=false->∀ j∈cv u,hasU has j=true->metB m' j=true
theorem Walked.refl (has:List Upd) (m:List (MK×Int)):Walked has m m:=⟨λ_ h=>h,λu _ h h0=>by rw [h] at h0;cases h0⟩
theorem Walked.trans {has:List Upd} {a b c:List (MK×Int)} (h:Walked has a b) (g:Walked has b c):Walked has a c:=by
 refine⟨λi hi=>g.more i (h.more i hi),λu hu h1 h0 j hj hh=>?_⟩
 cases hb:metB b u.id with
 | true=>exact g.more _ (h.closed u hu hb h0 j hj hh)
 | false=>exact g.closed u hu h1 hb j hj hh
theorem walk_all {has:List Upd} {n:Nat} (IH:∀ m i,xo has m<n->Walked has m (fg has n m i)/\(hasU has i=true->metB (fg has n m i) i=true)) :
  ∀ (l:List UId) (m:List (MK×Int)),xo has m<n->Walked has m (l.foldl (fg has n) m)/\∀ i∈l,hasU has i=true->metB (l.foldl (fg has n) m) i=true
 | [],m,_=>⟨Walked.refl has m,λ_ h=>by cases h⟩
 | i::l,m,h=>by
  obtain⟨a1,a2⟩:=IH m i h
  obtain⟨b1,b2⟩:=walk_all IH l _ (G7 (leftM_le a1.more) h)
  refine⟨a1.trans b1,λj hj hh=>?_⟩
  rcases List.mem_cons.1 hj with rfl|hj
  ·exact b1.more _ (a2 hh)
  ·exact b2 j hj hh
theorem walk_done {has:List Upd} (hs:StrU has):∀ (n:Nat) (m:List (MK×Int)) (i:UId),xo has m<n->Walked has m (fg has n m i)/\(hasU has i=true->metB (fg has n m i) i=true)
 | 0,_,_,h=>absurd h (A9 _)
 | n+1,m,i,h=>by
  unfold fg;split
  ·rename_i hc;refine⟨Walked.refl has m,λhi=>?_⟩
   rcases hc with hc|hc
   ·rw [hi] at hc;cases hc
   ·exact hc
  ·rename_i hc;have hc1:hasU has i=true:=by cases hx:hasU has i with|true=>rfl|false=>exact absurd (.inl hx) hc
   have hc2:metB m i=false:=by cases hx:metB m i with|false=>rfl|true=>exact absurd (.inr hx) hc
   have hlt:=leftM_set hc1 hc2;obtain⟨a1,a2⟩:=walk_all (walk_done hs n) (tj has i) (br m (lf i) 1) (by omega);refine⟨⟨λj hj=>a1.more j (MoreM.set m i j hj),λu hu h1 h0 j hj hh=>?_⟩,λ_=>a1.more i (by rw [xj,same_iff.2 rfl];rfl)⟩
   by_cases he:u.id=i
   ·subst he;rw [underOf_eq hs hu] at a2 ⊢;exact a2 j hj hh
   ·refine a1.closed u hu h1 ?_ j hj hh;rw [xj,h0,Bool.or_false];cases hx:i.same u.id with
    | false=>rfl
    | true=>exact absurd (same_iff.1 hx).symm he
theorem walk_sound {has:List Upd} {R:UId->Prop} (hR:∀ u∈has,R u.id->∀ j∈cv u,hasU has j=true->R j):∀ (n:Nat) (m:List (MK×Int)) (i:UId),(hasU has i=true->R i)->∀ j,metB (fg has n m i) j=true->metB m j=true∨R j
 | 0,_,_,_,_,h=>.inl h
 | n+1,m,i,hi,j,h=>by
  unfold fg at h;split at h
  ·exact .inl h
  ·rename_i hc;have hc1:hasU has i=true:=by cases hx:hasU has i with|true=>rfl|false=>exact absurd (.inl hx) hc
   have key:∀ (l:List UId) (m:List (MK×Int)),(∀ k∈l,hasU has k=true->R k)->∀ j,metB (l.foldl (fg has n) m) j=true->metB m j=true∨R j:=by
    intro l;induction l with
    | nil=>intro m _ j h;exact .inl h
    | cons k l ih =>
     intro m hl j h;rcases ih _ (λq hq=>hl q (Ag _ hq)) j h with h1|h1
     ·exact walk_sound hR n m k (hl k (Ac ..)) j h1
     ·exact .inr h1
   rcases key _ _ (λk hk hh=>by
    obtain⟨u,hu,he,hku⟩:=underOf_mem hk;exact hR u hu (by rw [he];exact hi hc1) k hku hh) j h with h1|h1
   ·rw [xj,Dz] at h1;rcases h1 with h1|h1
    ·exact .inr (same_iff.1 h1▸hi hc1)
    ·exact .inl h1
   ·exact .inr h1
def behM (has:List Upd) (l:List UId):List (MK×Int):=l.foldl (fg has (has.length+1)) []
theorem leftM_lt (has:List Upd) (m:List (MK×Int)):xo has m<has.length+1:=Nat.lt_succ_of_le (List.length_filter_le _ _)
theorem behM_iff {has:List Upd} (hs:StrU has) (l:List UId) (i:UId):metB (behM has l) i=true↔Reach has l i:=by
 obtain⟨a1,a2⟩:=walk_all (walk_done hs (has.length+1)) l [] (leftM_lt has []);constructor
 ·intro h;have key:∀ (l':List UId) (m:List (MK×Int)),(∀ k∈l',k∈l)->∀ j,metB (l'.foldl (fg has (has.length+1)) m) j=true->metB m j=true∨Reach has l j:=by
   intro l';induction l' with
   | nil=>intro m _ j h;exact .inl h
   | cons k l' ih =>
    intro m hl j h;rcases ih _ (λq hq=>hl q (Ag _ hq)) j h with h1|h1
    ·exact walk_sound (λu hu hr j hj hh=>.step u hu hr j hj hh) _ m k (λhk=>.base k (hl k (Ac ..)) hk) j h1
    ·exact .inr h1
  rcases key l [] (λ_ h=>h) i h with h1|h1
  ·cases h1
  ·exact h1
 ·intro h;induction h with
  | base i h hi=>exact a2 i h hi
  | step u hu _ j hj hh ih=>exact a1.closed u hu ih rfl j hj hh
end
section
open Go Go.RowKit
open Go.Maps (Keyed)
def int64B (P:Program) (t:TypeId):Bool:=match P.underlying t with
 | some (.int .i64)=>true
 | _=>false
theorem int64B_spec {P:Program} {t:TypeId} (h:int64B P t=true):P.underlying t=some (.int .i64):=by
 unfold int64B at h;split at h
 ·assumption
 ·cases h
def zero64B (P:Program) (t:TypeId):Bool:=match P.info? t with
 | some i=>match i.zero with
  | some (.int .i64 n)=>decide (n=0)
  | _=>false
 | none=>false
theorem zero64B_spec {P:Program} {t:TypeId} (h:zero64B P t=true) (w:World):(zeroValue t).run P w = .ok (.int .i64 0) w:=by
 unfold zero64B at h;split at h
 ·rename_i i hi;split at h
  ·rename_i n hz;have hn:=of_decide_eq_true h;subst hn;simp [zeroValue,typeInfo,hi,hz]
  ·cases h
 ·cases h
def keyPB (P:Program) (k:TypeId):Bool:=match P.underlying k with
 | some (.struct fs)=>match fs.toList with
  | [f0, f1] => fs.all (·.name != "_") && (int64B P f0.type && (int64B P f1.type && (Aw f0.offset 0 && (Aw f1.offset 1 && (Aw (P.cellsOf k) 2 && (Aw (P.cellsOf f0.type) 1 && (Aw (P.cellsOf f1.type) 1 && (C0 1 P.types.size && (P.keyType k && (P.keyTypeAt 2 k && Av k P.types.size))))))))))
  | _=>false
 | _=>false
theorem keyPB_spec {P:Program} {k:TypeId} (hl:laidOutB P=true) (h:keyPB P k=true):Keyed P k/\∀ key:MK,key.ok false->∃ l,keyOf P k key.val=some l:=by
 unfold keyPB at h;split at h
 ·rename_i fs hu;split at h
  ·rename_i f0 f1 hfs;simp only [Ae] at h;obtain⟨hn,h0,h1,o0,o1,c,c0,c1,hm,hk,hk2,hlt⟩:=h;have h0:=int64B_spec h0;have h1:=int64B_spec h1;have o0:=Ao o0;have o1:=Ao o1;have c:=Ao c;have c0:=Ao c0;have c1:=Ao c1;have hwide:(match P.underlying k with|some (.array _ _)|some (.struct _)=>true|_=>false)=true:=by rw [hu]
   refine⟨Keyed.of_law (deep_law_laid hl (m:=2) (by decide) (Ab hlt) hk2 hwide),λkey hok=>?_⟩
   cases key with
   | str s=>obtain⟨h,_⟩:=hok;cases h
   | pair a b =>
    obtain⟨_,wa,wb⟩:=hok;obtain⟨m,hm⟩:∃ m,P.types.size=m+1:=⟨P.types.size-1,by have:=Ab hm;omega⟩;unfold keyOf;simp only [hu];have hfs2:fs.size=2:=by have:=congrArg List.length hfs;simpa using this
    have hform:(MK.pair a b).val.formed P k=true:=by
     unfold Value.formed MK.val;simp [hu,c]
    rw [hk,hform,Bool.and_self,if_pos rfl,hm];refine⟨.string (keyBytes [.int .i64 a,.int .i64 b]),?_⟩
    unfold Program.keyLits;simp only [hu,MK.val,Value.cells];rw [if_pos ⟨by simp [c],hn⟩,hfs,Fh,Fh,List.mapM_nil];simp [o0,o1,c0,c1,Program.keyLits,h0,h1,wa,wb]
  ·cases h
 ·cases h
def mapPB (P:Program) (t:TypeId):Bool:=match P.underlying t with
 | some (.map k e)=>keyPB P k && zero64B P e
 | _=>false
theorem mapT_pair {P:Program} {t:TypeId} (hl:laidOutB P=true) (h:mapPB P t=true):MapT P t false:=by
 unfold mapPB at h;split at h
 ·rename_i k e hu;rw [Ae] at h;obtain⟨K,ho⟩:=keyPB_spec hl h.1;exact⟨⟨k,e,hu,K,ho,zero64B_spec h.2⟩⟩
 ·cases h
end
section
open Go Go.RowKit
section
variable {Γ : Ctx} {l : List Oper} {κ c : Nat}
def tailB (l:List Oper) (c:Nat):Bool:=(ee 0 l).all λq=>Av q.1 c || (List.range q.1).all λi=>reachB l l.length q.1 i
theorem tailB_spec (h:tailB l c=true) {j i:Nat} {o:Oper} (hj:l[j]?=some o) (hc:c<=j) (hi:i<j):reachB l l.length j i=true:=by
 unfold tailB at h;rw [B5] at h;have h1:=h (j,o) ((ew l 0 (j,o)).2 ⟨Ak _,by simpa using hj⟩);rw [Dz] at h1;rcases h1 with h1|h1
 ·have:j<c:=Ab h1
  omega
 ·exact List.all_eq_true.1 h1 i (List.mem_range.2 hi)
theorem enumO_app:∀ (a b:List Oper) (n:Nat),ee n (a++b)=ee n a++ee (n+a.length) b
 | [],b,n=>rfl
 | o::a,b,n=>by
  rw [C6,ee,ee,enumO_app a b (n+1),C6,Bj,show n+1+a.length=n+(a.length+1) by omega]
theorem down_spec (hdown:ka l=true):∀ j o,l[j]?=some o->∀ e∈o.after,Region.binds .any e=true->e.on<j:=by
 intro j o hj e he hb;unfold ka at hdown;rw [B5] at hdown;have h1:=hdown (j,o) ((ew l 0 (j,o)).2 ⟨Ak _,by simpa using hj⟩);rw [B5] at h1;have h2:=h1 e (by simpa using he);simp only [hb,Bool.not_true,B9] at h2;exact Ab h2
theorem first_ready (hdown:ka l=true) {listed:Array Bool} {q:Nat×Oper} {rem':List (Nat×Oper)} (g:Going l listed (q::rem')):q.1∈Region.ready .any l.toArray listed:=by
 obtain⟨h1,h2⟩:=(g.left q).1 (Ac ..);refine mem_ready.2 ⟨h2,q.2,by simpa using h1,λe' he hb=>?_⟩;have hlt:=down_spec hdown q.1 q.2 h1 e' he hb;have hln:e'.on<listed.size:=by rw [g.size];have:=df h1;omega
 cases hx:listed.getD e'.on false with
 | true=>rfl
 | false =>
  exfalso;have hx':listed.getD e'.on true=false:=(jc hln).trans hx;have hlen':e'.on<l.length:=by rw [<- g.size];exact hln
  have hm:=(g.left (e'.on,l[e'.on])).2 ⟨by simp [hlen'],hx'⟩;rcases List.mem_cons.1 hm with h|h
  ·have:e'.on=q.1:=by rw [<- h]
   omega
  ·have:=(List.pairwise_cons.1 g.sorted).1 _ h
   simp at this;omega
theorem tail_run (hdown:ka l=true) (hT:tailB l c=true) {Q:Exit->Act->World->Prop}:∀ (m:Nat) (listed:Array Bool) (a:Act) (w:World),Going l listed (ee (l.length-m) (l.drop (l.length-m)))->m<=l.length-c->wpList Γ.P l.toArray Q (l.drop (l.length-m)) a w->wpAny Γ.P .any l.toArray Q m listed a w
 | 0,listed,a,w,g,_,h=>by
  have hn:l.drop (l.length-0)=[]:=List.drop_eq_nil_of_le (by omega);rw [hn] at g h;refine⟨?_,h⟩
  apply List.eq_nil_iff_forall_not_mem.2;intro j hj;obtain⟨h1,o,ho,_⟩:=mem_ready.1 hj;have:=(g.left (j,o)).2 ⟨by simpa using ho,h1⟩
  simp [ee] at this
 | m+1,listed,a,w,g,hm,h=>by
  have hj:l.length-(m+1)<l.length:=by omega
  have hd:l.drop (l.length-(m+1))=l[l.length-(m+1)]::l.drop (l.length-m):=by
   rw [List.drop_eq_getElem_cons hj];congr 2;omega
  have hen:ee (l.length-(m+1)) (l.drop (l.length-(m+1)))=(l.length-(m+1),l[l.length-(m+1)])::ee (l.length-m) (l.drop (l.length-m)):=by
   rw [hd,ee];congr 2;omega
  rw [hen] at g;rw [hd] at h;generalize hJ:l.length-(m+1)=J at *;have hr:=first_ready hdown g;refine⟨λh0=>?_,λi hi=>?_⟩
  ·rw [h0] at hr;simp at hr
  ·obtain⟨h1,o,ho,hall⟩:=mem_ready.1 hi;have hio:l[i]?=some o:=by simpa using ho
   have hij:i=J:=by
    have hmem:=(g.left (i,o)).2 ⟨hio,h1⟩;rcases List.mem_cons.1 hmem with h|h
    ·exact congrArg Prod.fst h
    ·exfalso;have hlt:J<i:=by simpa using (List.pairwise_cons.1 g.sorted).1 _ h
     have:=tv g l.length i o (tailB_spec hT hio (by omega) hlt) hio hall
     have h3:=((g.left (J,l[J])).1 (Ac ..)).2;have hJs:J<listed.size:=by rw [g.size];exact hj
     rw [jc hJs] at h3;rw [h3] at this;cases this
   subst hij;have g':=Going.rest (pre:=[]) (i:=i) (o:=l[i]) (post:=ee (l.length-m) (l.drop (l.length-m))) g hi rfl (by rw [List.getElem?_eq_getElem hj]);unfold wpOp;have hlk:l.toArray[i]?=some l[i]:=by simp [hj]
   rw [hlk];unfold wpList at h;split at h
   ·rename_i hw;simp only [hw,if_true];exact h.imp (λh=>Oper.wp_mono (λa' w' hk=>tail_run hdown hT m _ a' w' g' (by omega) hk) h) id
   ·rename_i hw;simp only [hw];exact tail_run hdown hT m _ _ w g' (by omega) h
theorem tail_sim (hB:rm l=true) (hT:tailB l c=true) (hcl:c<=l.length) {K:FS->Prop} {Q:Exit->Act->World->Prop} (hQ:∀ s e a w,K s->Rep Γ (lo (κ+c)) s e a w->wpList Γ.P l.toArray Q (l.drop c) a w) :
  ∀ (fuel:Nat) (listed:Array Bool) (a:Act) (w:World) (s:FS) (e:Env) (D:Nat->Prop) (rem:List (Nat×Oper)) (lg:Log),Going l listed (rem++ee c (l.drop c))->(∀ q∈rem,q.1<c)->rem.length=fuel->Rep Γ D s e a w ->
   (∀ x,D x->x<κ+c/\∀ j,x=κ+j->listed.getD j false=true)->DR Γ l κ rem lg K s->wpAny Γ.P .any l.toArray Q (fuel+(l.length-c)) listed a w:=by
 simp only [rm,Ae] at hB;obtain⟨hdown,hpair,hcall⟩:=hB;intro fuel;induction fuel with
 | zero =>
  intro listed a w s e D rem lg g hrc hlen hr hD hd;have hrem:rem=[]:=List.eq_nil_of_length_eq_zero hlen;subst hrem;rw [Nat.zero_add];have hcc:l.length-(l.length-c)=c:=by omega
  refine tail_run hdown hT (l.length-c) listed a w (by rw [hcc];exact g) (Ah _) ?_;rw [hcc];cases hd with
  | nil hk =>
   obtain⟨L,H,m,hs⟩:=hr;obtain⟨e',m'⟩:=m.widenTo (k':=lo (κ+c)) λx hx=>(hD x hx).1
   exact hQ s e' a w hk ⟨L,H,m',hs⟩
 | succ fuel ih =>
  intro listed a w s e D rem lg g hrc hlen hr hD hd;rw [show fuel+1+(l.length-c)=(fuel+(l.length-c))+1 by omega];obtain⟨q0,rem0,hq0⟩:∃ q r,rem=q::r:=by
   cases rem with
   | nil=>simp at hlen
   | cons q r=>exact⟨q,r,rfl⟩
  refine⟨λh0=>?_,λi hi=>?_⟩
  ·exfalso;have hg:=g;rw [hq0,C6] at hg;have:=first_ready hdown hg
   rw [h0] at this;simp at this
  ·obtain⟨h1,o,ho,hall⟩:=mem_ready.1 hi;have hio:l[i]?=some o:=by simpa using ho
   have hic:i<c:=by
    apply Classical.byContradiction;intro hn;have hq0c:q0.1<c:=hrc q0 (by rw [hq0];exact Ac ..);have hrd:=tv g l.length i o (tailB_spec hT hio (by omega) (show q0.1<i by omega)) hio hall;have h3:=(g.left q0).1 (Ax _ (by rw [hq0];exact Ac ..));have hs:q0.1<listed.size:=by rw [g.size];exact df h3.1
    have h4:=h3.2;rw [jc hs,hrd] at h4;cases h4
   have hmem:(i,o)∈rem:=by
    rcases List.mem_append.1 ((g.left (i,o)).2 ⟨hio,h1⟩) with h|h
    ·exact h
    ·exfalso;have:=((ew _ _ _).1 h).1
     simp only at this;omega
   obtain⟨pre,post,hre⟩:=List.append_of_mem hmem;have g0:=g;rw [hre,Cf,C6] at g0;have g':=g0.rest hi rfl hio;rw [<- Cf] at g';have hpull:DR Γ l κ ((i,o)::(pre++post)) lg K s:=by
    refine DR.pull pre lg s (λq hq=>?_) (hre▸hd);have hqr:q∈rem++ee c (l.drop c):=Ax _ (by rw [hre];exact Ax _ hq);obtain⟨hq1,hq2⟩:=(g.left q).1 hqr;have hqi:q.1<i:=by
     have hs:=g0.sorted;rw [List.pairwise_append] at hs;have:=hs.2.2 q hq (i,o) (Ac ..)
     simpa using this
    have hqs:q.1<listed.size:=by rw [g.size];exact df hq1
    have hq2':listed.getD q.1 false=false:=(jc hqs).symm.trans hq2;have e0:t7 l i q.1=false:=path2_false hio hall g.closed hq2';have e1:=path2_edge e0;have e2:ph l q.1 i=false:=by
     cases hx:ph l q.1 i with
     | false=>rfl
     | true =>
      obtain⟨o',ho',e',he',hb',hon⟩:=edgeB_spec.1 hx;have:=down_spec hdown q.1 o' ho' e' he' hb'
      omega
    refine⟨e0,e2,?_,λhcq=>?_⟩
    ·unfold regPairB at hpair;rw [B5] at hpair;have p1:=hpair (i,o) ((ew l 0 (i,o)).2 ⟨Ak _,by simpa using hio⟩);rw [B5] at p1;have p2:=p1 q ((ew l 0 q).2 ⟨Ak _,by simpa using hq1⟩);have hnb:C0 i q.1=false:=by
      cases hb:C0 i q.1 with
      | false=>rfl
      | true=>have:=Ab hb;omega
     simp only [hnb,B9,e1] at p2;exact p2
    ·cases hci:isCall o with
     | false=>rfl
     | true =>
      have:=calls_done g hcall hq1 hcq i o hio hci hqi hall
      rw [hq2'] at this;cases this
   cases hpull with
   | cons cc S rd wr hm hl hne hn hk =>
    have hz:¬ D (κ+i):=by
     intro hx;have:=(hD _ hx).2 i rfl
     have hin:i<listed.size:=by rw [g.size];exact df hio
     rw [<- jc hin,h1] at this;cases this
    refine Mv.sound hm hr ⟨κ+c,λx hx=>(hD x hx).1⟩ hz hio Q _ λv u a' w' e' hv hr'=>?_
    refine ih (listed.setIfInBounds i true) a' w' _ e' _ (pre++post) _ g' (λq hq=>hrc q ?_) ?_ hr' (λx hx=>?_) (hk v u hv)
    ·rw [hre];rcases List.mem_append.1 hq with h|h<;>simp [h]
    ·rw [hre] at hlen;simp only [Af,Bj] at hlen ⊢;omega
    ·have hin:i<listed.size:=by rw [g.size];exact df hio
     rcases hx with hx|hx
     ·refine⟨(hD x hx).1,λj hj=>?_⟩
      have:=(hD x hx).2 j hj
      by_cases hij:i=j
      ·subst hij;simp [hin]
      ·rw [getD_set_ne false hij];exact this
     ·subst hx;refine⟨by omega,λj hj=>?_⟩
      have:i=j:=by omega
      subst this;simp [hin]
theorem j6 {id k m:Nat} {L:Sl} {H:Hp} {Q:gh} (c:Nat) (hm:Γ.P.follows .mixedOrders=true) (hB:rm l=true) (hT:tailB l c=true) (hcl:C0 c l.length=true) (hnd:d6 l=true) (hl:lenIs (l.take c) k m)
  (h:DT Γ l k (ee 0 (l.take c)) [] (endK Γ m (λk' L' H'=>DS false Γ l (l.drop c) (Q .normal) k' L' H')) L H):DW Γ (.region id l.toArray true) Q k L H:=by
 have hcl:=Ab hcl;have hmc:k+c=m:=by
  have:=lenIs_spec (l.take c) k m hl
  rw [Aq] at this;omega
 subst hmc;intro e a w mm;refine wpIn_mono (wpIn_region_any hm (vm (ik (Γ:=Γ) (K:=Q .normal)) hnd _ _ _ _ ?_)) (p8 (λex k' L' H' (⟨h1,h2⟩:fh (Q .normal) ex k' L' H')=>h1▸h2));have m0:=mm.below (w':={ w with drawn:=w.drawn+1 }) ((Beld.refl _ _ _).drew);have hsp:ee 0 (l.take c)++ee c (l.drop c)=ee 0 l:=by
  have:=enumO_app (l.take c) (l.drop c) 0
  rw [List.take_append_drop,Aq,Nat.zero_add,Nat.min_eq_left hcl] at this;exact this.symm
 have hg:Going l (Array.replicate l.length false) (ee 0 l):=by
  refine⟨by simp,λj o hj hl=>?_,λq=>?_,uz l 0⟩
  ·have hlt:=df hj;simp [hlt] at hl
  ·rw [ew l 0 q];simp only [Ak,Nat.sub_zero,true_and];constructor
   ·intro hq;exact⟨hq,by have:=df hq;simp [this]⟩
   ·exact λh=>h.1
 have hlenO:∀ (l:List Oper) b,(ee b l).length=l.length:=by
  intro l;induction l with
  | nil=>intro b;rfl
  | cons o l ih=>intro b;simp [ee,ih]
 have hsize:l.toArray.size=c+(l.length-c):=by simp;omega
 rw [hsize];refine tail_sim hB hT hcl (K:=endK Γ (k+c) (λk' L' H'=>DS false Γ l (l.drop c) (Q .normal) k' L' H')) (Q:=vh Γ (fh (Q .normal))) (λs e a w hk hr=>?_) c _ a _ (ofL L H) e (lo k) (ee 0 (l.take c)) [] (by rw [hsp,<- hsize];simpa using hg) (λq hq=>?_) (by rw [hlenO,Aq];omega) ⟨L,H,m0,rfl⟩ (λx hx=>⟨Nat.lt_of_lt_of_le hx (Nat.le_add_right _ _),λj hj=>?_⟩) h
 ·obtain⟨k',L',H',e',m',hq⟩:=hk e a w hr;exact hq e' a w m'
 ·have h2:=((ew _ _ _).1 hq).2;have:=df h2
  rw [Aq] at this;omega
 ·have:x<k:=hx
  omega
theorem bk (id:Nat) {k:Nat} {L:Sl} {H:Hp} {ops:Array Oper} {b:Bool} {Q:gh} (h:DW Γ (.region id ops b) Q k L H):DW Γ (.region id ops b) Q k L H:=h
end
theorem laidD:laidOutB Tryz.prog=true:=by kernel_rfl
theorem mapId_t:MapT Tryz.prog 277 false:=mapT_pair laidD (by kernel_rfl)
abbrev wkH (has:List Upd) (m:List (MK×Int)):Hp:=[(0,.blk 306 [.d (.slice 5 (has.map aa)),.mp 1]),(1,.map false m)]
theorem pos_is {l:List Upd} (hs:StrU l) {i:UId} (h:hasU l i=true):∃ hl:wz l i<l.length,(l[wz l i]'hl).id=i:=by
 obtain⟨u,hu,rfl⟩:=hasU_iff.1 h;obtain⟨p,hp,rfl⟩:=List.mem_iff_getElem.1 hu;have hpos:wz l l[p].id=p:=by
  refine posU_at (Nat.le_of_lt hp) (λq hq hlt=>List.pairwise_iff_getElem.1 hs q p hq hp hlt) λq hq hle=>?_
  by_cases he:p=q
  ·subst he;rw [ub];exact Int.le_refl _
  ·have h1:=List.pairwise_iff_getElem.1 hs p q hp hq (by omega);have h2:=uc l[q].id l[p].id;omega
 exact⟨by omega,by simp only [hpos]⟩
attribute [local irreducible] DW DS DL DQ Ev FnOk FnP ef bt DT
theorem walk_fn (has:List Upd) (hl:has.length<=1000000) (hs:StrU has) (hk:∀ u∈has,u.parents.length+u.takes.length<=1000000):∀ (n:Nat) (m:List (MK×Int)) (i:UId),xo has m<n ->
  FnOk false Tryz.prog tab b9 274 [.loc 0 0,o8 i] 2 2 (wkH has m) (λk2 r H2=>k2=2/\r = .tup []/\H2=wkH has (fg has n m i))
 | 0,_,_,h=>absurd h (A9 _)
 | n+1,m,i,h=>by
  have ll:(has.map aa).length=has.length:=Aa _;refine frE Tryz.func274 ?_;intro O w0 E0 β0;have w1:=at_fn has i hl hs;cases hh:hasU has i with
  | false =>
   rw [hh] at w1;have hw:fg has (n+1) m i=m:=by unfold fg;rw [if_pos (.inl hh)]
   rw [hw];repeat' (first|refine zr ?_|refine z22 ?_ (hc:=by apply w1)|fail)
   exact⟨.inl rfl,_,rfl,kp id 2 _ (wkH has m) ⟨rfl,rfl,rfl⟩⟩
  | true =>
   rw [hh] at w1;obtain⟨hpl,hpi⟩:=pos_is hs hh;repeat' ((fail_if_success (apply bk 2));(first|refine zs ?_|refine z22 ?_ (hc:=by apply w1)|fail))
   refine j6 8 (by kernel_rfl) (by kernel_rfl) (by kernel_rfl) rfl rfl rfl ?_;repeat' (first|refine zs ?_|fail)
   refine ds_lookup (kd:=false) (kvs:=m) (key:=lf i) mapId_t rfl rfl rfl rfl rfl rfl ?_;repeat' (first|refine zs ?_|fail)
   by_cases hm:(mapGet? m (lf i)).getD 0=1
   ·have hw:fg has (n+1) m i=m:=by unfold fg;rw [if_pos (.inr (decide_eq_true hm))]
    rw [hw];repeat' (first|refine zr ?_|(refine zm ?_ ?_<;>intro hg)|fail)
    all_goals try (exfalso;exact absurd hm (by assumption))
    exact⟨.inl rfl,_,rfl,kp id 2 _ (wkH has m) ⟨rfl,rfl,rfl⟩⟩
   ·have hmf:metB m i=false:=decide_eq_false hm;have hlt:=leftM_set hh hmf;obtain⟨us,hus⟩:∃ us,us=tj has i:=⟨_,rfl⟩;have hw:fg has (n+1) m i=us.foldl (fg has n) (br m (lf i) 1):=by
     unfold fg;rw [if_neg (λh=>by rcases h with h|h;(rw [hh] at h;cases h);(rw [hmf] at h;cases h)),hus]
    rw [hw];have w2:=under_fn (has[wz has i]'hpl) (hk _ (Aj hpl));rw [show cv (has[wz has i]'hpl)=us by rw [hus,<- underOf_eq hs (Aj hpl),hpi]] at w2;repeat' ((fail_if_success (apply bk 3));(first|refine zr ?_|(refine zm ?_ ?_<;>intro hg)|fail))
    all_goals try (exfalso;exact absurd (by assumption) hm)
    refine j6 5 (by kernel_rfl) (by kernel_rfl) (by kernel_rfl) rfl rfl rfl ?_;repeat' (first|refine zs ?_|fail)
    refine ds_mapSet 1 (kd:=false) (kvs:=m) (key:=lf i) (n:=1) mapId_t rfl rfl rfl rfl rfl rfl rfl rfl rfl ?_;have lu:(us.map ck).length=us.length:=Aa _;repeat' (first|refine zs ?_|refine z21 ?_ (hc:=by apply w2)|(exfalso;omega))
    have hul:us.length<=1000000:=by
     have:=hk _ (Aj hpl)
     rw [hus,<- hpi,underOf_eq hs (Aj hpl)];unfold cv;rw [Af];exact this
    clear w1 w2 hm hmf hw;have hM:∀ j,xo has ((us.take j).foldl (fg has n) (br m (lf i) 1))<n:=λj =>
     G7 (leftM_le (walk_all (walk_done hs n) (us.take j) (br m (lf i) 1) (by omega)).1.more) (by omega)
    refine ag (ι:=Nat) (λj=>⟨2,[(0,.loc 0 0),(40,.d (.slice 2 (us.map ck))),(41,.d (.int .i64 us.length)),(42,.d (.int .i64 j))],wkH has ((us.take j).foldl (fg has n) (br m (lf i) 1))⟩)
     (λj=>j<=us.length) (λj=>us.length-j) 0 (Ak _) (ai id ⟨rfl,rfl,by rw [<- lu];rfl,rfl,trivial⟩ ⟨rfl,rfl,trivial⟩ rfl rfl rfl rfl rfl rfl) ?_
    intro j g1;dsimp only at g1 ⊢;by_cases hj:j<us.length
    ·have w3:=walk_fn has hl hs hk n ((us.take j).foldl (fg has n) (br m (lf i) 1)) us[j] (hM j);have hst:fg has n ((us.take j).foldl (fg has n) (br m (lf i) 1)) us[j]=(us.take (j+1)).foldl (fg has n) (br m (lf i) 1):=by rw [An hj,D5];rfl
     repeat' (first|refine zs ?_|(refine zm ?_ ?_<;>intro hg)|(exfalso;omega))
     (refine bg id (w3) rfl rfl rfl rfl ⟨rfl,rfl,trivial⟩ rfl rfl rfl rfl rfl rfl ?_ ?_)
     ·rintro k2 res H2 ⟨rfl,rfl,rfl⟩;exact⟨rfl,rfl⟩
     rintro k2 res H2 ⟨rfl,rfl,rfl⟩;change DS _ _ _ _ _ _ _ _;rw [hst];repeat' (first|refine zs ?_|fail)
     exact⟨j+1,hj,er id,by omega⟩
    ·rw [Ai (by omega)];repeat' (first|refine zs ?_|(refine zm ?_ ?_<;>intro hg)|(exfalso;omega))
     exact⟨.inr rfl,_,rfl,id,2,_,wkH has (us.foldl (fg has n) (br m (lf i) 1)),rfl,⟨rfl,rfl,trivial⟩,rfl,rfl,rfl,rfl,rfl,rfl,rfl,rfl,rfl⟩
theorem behind_fn (has:List Upd) (ids:List UId) (hl:has.length<=1000000) (hi:ids.length<=1000000) (hs:StrU has) (hk:∀ u∈has,u.parents.length+u.takes.length<=1000000) :
  Fn 245 [.d (.slice 5 (has.map aa)),.d (.slice 2 (ids.map ck))] (λr=>r = .md false (behM has ids)):=by
 refine fqE Tryz.func245 ?_;intro O w0 E0 β0;have li:(ids.map ck).length=ids.length:=Aa _;repeat' (first|refine zs ?_|fail)
 refine ds_mapNew false rfl rfl ?_;repeat' (first|refine zs ?_|fail)
 refine ag (ι:=Nat) (λj=>⟨2,[(5,.loc 0 0),(12,.d (.slice 2 (ids.map ck))),(13,.d (.int .i64 ids.length)),(14,.d (.int .i64 j))],wkH has ((ids.take j).foldl (fg has (has.length+1)) [])⟩)
  (λj=>j<=ids.length) (λj=>ids.length-j) 0 (Ak _) (ai (λj=>match j with|0=>1|1=>0|j=>j) ⟨rfl,rfl,by rw [<- li];rfl,rfl,trivial⟩ ⟨rfl,rfl,trivial⟩ rfl rfl rfl rfl rfl rfl) ?_
 intro j g1;dsimp only at g1 ⊢;by_cases hj:j<ids.length
 ·have w3:=walk_fn has hl hs hk (has.length+1) ((ids.take j).foldl (fg has (has.length+1)) []) ids[j] (leftM_lt _ _);have hst:fg has (has.length+1) ((ids.take j).foldl (fg has (has.length+1)) []) ids[j]=(ids.take (j+1)).foldl (fg has (has.length+1)) []:=by rw [An hj,D5];rfl
  repeat' (first|refine zr ?_|(refine zm ?_ ?_<;>intro hg)|(exfalso;omega))
  (refine bg id (w3) rfl rfl rfl rfl ⟨rfl,rfl,trivial⟩ rfl rfl rfl rfl rfl rfl ?_ ?_)
  ·rintro k2 res H2 ⟨rfl,rfl,rfl⟩;exact⟨rfl,rfl⟩
  rintro k2 res H2 ⟨rfl,rfl,rfl⟩;change DS _ _ _ _ _ _ _ _;rw [hst];repeat' (first|refine zs ?_|fail)
  exact⟨j+1,hj,er id,by omega⟩
 ·rw [Ai (by omega)];repeat' (first|refine zs ?_|(refine zm ?_ ?_<;>intro hg)|(exfalso;omega))
  refine ak (ent_mapd (t:=4) (i:=1) rfl rfl rfl) ?_;repeat' (apply c9)
  exact⟨.inl rfl,_,rfl,rfl,rfl⟩
theorem round1_fn (has:List Upd) (u:Upd) (hl:has.length<=1000000) (hs:StrU has) (hk:∀ u∈has,u.parents.length+u.takes.length<=1000000) (hu:u.parents.length+u.takes.length<=1000000) :
  Fn 244 ([gc u]++[.pd [.slice 5 (has.map aa)]]) (λr=>r = .d (.bool (metB (behM has (cv u)) u.id))):=by
 refine fqE Tryz.func244 ?_;intro O w0 E0 β0;have w1:=under_fn u hu;have w2:=behind_fn has (cv u) hl (by unfold cv;rw [Af];exact hu) hs hk;repeat' ((fail_if_success (apply bk 1));(first|refine zs ?_|fail))
 refine j6 6 (by kernel_rfl) (by kernel_rfl) (by kernel_rfl) rfl rfl rfl ?_;repeat' (first|refine zs ?_|refine z22 ?_ (hc:=by apply w1)|refine z22 ?_ (hc:=by apply w2)|fail)
 refine ds_lookup (kd:=false) (kvs:=behM has (cv u)) (key:=lf u.id) mapId_t ⟨rfl,rfl⟩ rfl rfl rfl rfl rfl ?_;repeat' (first|refine zr ?_|fail)
 exact a7 rfl rfl
theorem indexU_fn {f:FuncId} {caps:List SV} (p:Upd->Bool) (l:List (Upd)) (hcap:SV.lowL 0 caps=true) (hp:∀ x∈l,Fn f (gc x::caps) (λr=>r = .d (.bool (p x)))):Fn 200 [.d (.slice 5 (l.map aa)),.fn f caps] (λr=>r = .d (.int .i64 (kr p l))):=by
 refine fqE Tryz.func200 ?_;intro O w0 E0 β0;refine cp (t:=0) rfl λhb=>?_
 repeat' (first|refine zs ?_|fail)
 refine ag (ι:=Nat) (λi=>⟨0,[(0,.d (.slice 5 (l.map aa))),(1,.fn f caps),(7,.d (.int .i64 l.length)),(8,.d (.int .i64 i))],[]⟩)
  (λi=>i<=l.length/\∀ j (hj:j<l.length),j<i->p l[j]=false) (λi=>l.length-i) 0 ⟨Ak _,λj _ h=>absurd h (A9 j)⟩
  (ai id ⟨rfl,congrArg (SV.fn f) (SV.renL_id caps).symm,by simp;rfl,rfl,trivial⟩ trivial (by simp [Sl.low,SV.low,hcap]) rfl rfl rfl rfl rfl) ?_
 rintro i ⟨h1,h2⟩;repeat' (first|refine zs ?_|fail)
 refine bf rfl (λh=>?_) (λh=>?_)
 ·have hi:i<l.length:=by omega
  have hpx:=hp l[i] (Aj hi);repeat' (first|refine zs ?_|(apply ki;exact rfl;exact rfl;exact rfl;exact rfl;apply hpx;exact rfl;(assumption);exact rfl;rintro _ rfl))
  refine d7 rfl (λhb=>?_) (λhb=>?_)
  ·repeat' (first|refine zr ?_|fail)
   exact a6 rfl (jp h2 hi hb).symm
  ·repeat' (first|refine zs ?_|fail)
   exact⟨i+1,⟨hi,gz h2 hi hb⟩,ai id ⟨rfl,congrArg (SV.fn f) (SV.renL_id caps).symm,rfl,rfl,trivial⟩ trivial (by simp [Sl.low,SV.low,hcap]) rfl rfl rfl rfl rfl,by omega⟩
 ·repeat' (first|refine zr ?_|fail)
  exact a6 rfl (ja λj hj=>h2 j hj (by omega)).symm
theorem pt {f:FuncId} {caps:List SV} (p:Upd->Bool) (l:List (Upd)) (hcap:SV.lowL 0 caps=true) (hp:∀ x∈l,Fn f (gc x::caps) (λr=>r = .d (.bool (p x)))):Fn 180 [.d (.slice 5 (l.map aa)),.fn f caps] (λr=>r = .d (.bool (l.any p))):=by
 refine fqE Tryz.func180 ?_;intro O w0 E0 β0;have hx:=indexU_fn p l hcap hp;have hlow:SV.lowL 0 [.d (.slice 5 (l.map aa)),.fn f caps]=true:=by simp [SV.lowL,SV.low,hcap]
 repeat' (first|refine zr ?_|refine z21 ?_ (hc:=by apply hx)|fail)
 exact a7 rfl (ol p l)
def r5 (has:List Upd):Bool:=has.any λu=>metB (behM has (cv u)) u.id
theorem round_fn (has:List Upd) (hl:has.length<=1000000) (hs:StrU has) (hk:∀ u∈has,u.parents.length+u.takes.length<=1000000) :
  Fn 184 [.d (.slice 5 (has.map aa))] (λr=>r = .d (.bool (r5 has))):=by
 refine fqE Tryz.func184 ?_;intro O w0 E0 β0;have w2:=pt (caps:=[.pd [.slice 5 (has.map aa)]]) (λu=>metB (behM has (cv u)) u.id) has rfl (λu hu=>round1_fn has u hl hs hk (hk u hu));repeat' ((fail_if_success (apply eo 1));(first|refine zs ?_|fail))
 refine ak (io (ds:=[.slice 5 (has.map aa)]) 1 0 rfl rfl) ?_;repeat' (first|refine zr ?_|refine z21 ?_ (hc:=by apply w2)|fail)
 exact a7 rfl rfl
end
end Go.Proofs.YtapciiffpnociadGreat
