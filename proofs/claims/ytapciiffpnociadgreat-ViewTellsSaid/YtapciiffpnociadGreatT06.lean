/- Several texts in one: GxMk GxUp GxFw GxFt. Condition: none. -/
import Derived.Test.YtapciiffpnociadGreatT05
import Derived.Laws.MakeOwn
import Derived.Laws.OwnMore
open Array renaming length_toList→A2
open Bool renaming and_eq_true→Ae
open List renaming all_cons→Do,append_assoc→Cf,filterMap_cons→Bn,getElem?_append_left→Bm,getElem?_append_right→A4,getElem?_eq_getElem→Ad,getElem?_take→Bi,getElem_set→Hm,length_set→Ba,length_take→Aq,mem_cons_self→Ac,mem_filterMap→Ep,mem_singleton→A1,replicate→Ap
open Nat renaming add_mul→Bo,beq→Aw,blt→Av,eq_of_beq_eq_true→Ao,le_of_ble_eq_true→Ab,le_refl→Ah,lt_of_lt_of_le→A0,mul_le_mul_right→Be,ne_of_beq_eq_false→B0,not_lt_zero→A9,zero_le→Ak,zero_lt_one→Gm
namespace Go.Proofs.YtapciiffpnociadGreat
section
open Go Go.RowKit
section
variable {Γ : Ctx} {k : Nat -> Prop} {L : Sl} {H : Hp} {K : cy} {ops : List Oper} {rest : List Oper} {a : Act} {w : World} {e : Env} {t t' ty : TypeId} {x y : Operand}
def dcellsL:List SV->Option (List D)
 | []=>some []
 | .d x::l=>match dcellsL l with
  | some xs=>some (x::xs)
  | none=>none
 | _::_=>none
def dcells:SV->Option (List D)
 | .d x=>some [x]
 | .agg ss=>dcellsL ss
 | _=>none
theorem dcellsL_spec {X e w}:∀ {ss:List SV} {vs:List Value} {ds:List D},dcellsL ss=some ds->RelL X e w ss vs->vs.length=ds.length/\(∀ u∈vs,u.oneCell'=true)/\∀ q (hq:q<ds.length),∃ u,vs[q]?=some u/\RepC X w u ds[q]
 | [],[],ds,h,_=>by cases h;exact⟨rfl,by simp,λq hq=>absurd hq (A9 q)⟩
 | [],_::_,_,_,h=>h.elim
 | _::_,[],_,_,h=>h.elim
 | s::ss,v::vs,ds,h,⟨h1,h2⟩=>by
  cases s with
  | d x =>
   simp only [dcellsL] at h
   split at h
   ·rename_i xs hx
    cases h
    obtain⟨g1,g2,g3⟩:=dcellsL_spec hx h2
    refine⟨by simp [g1],λu hu=>?_,λq hq=>?_⟩
    ·rcases List.mem_cons.1 hu with rfl|hu
     ·exact (RepC.one h1).1
     ·exact g2 u hu
    ·cases q with
     | zero=>exact⟨v,rfl,h1⟩
     | succ q=>simpa using g3 q (by simpa using hq)
   ·cases h
  | _=>cases h
theorem dcells_spec {X e w} {s:SV} {v:Value} {ds:List D} (h:dcells s=some ds) (hr:Rel X e w s v):v.cells.toList.length=ds.length/\(∀ u∈v.cells.toList,u.oneCell'=true)/\∀ q (hq:q<ds.length),∃ u,v.cells.toList[q]?=some u/\RepC X w u ds[q]:=by
 cases s with
 | d x =>
  cases h;have hr:RepC X w v x:=hr;rw [show v.cells.toList=[v] by rw [(RepC.one hr).2]];refine⟨rfl,λu hu=>?_,λq hq=>?_⟩
  ·rw [List.mem_singleton.1 hu];exact (RepC.one hr).1
  ·have:q=0:=by simp at hq;omega
   subst this;exact⟨v,rfl,hr⟩
 | agg ss =>
  obtain⟨vs,rfl,h2⟩:=hr;have:=dcellsL_spec h h2
  simpa [Value.cells] using this
 | _=>cases h
def ig (ds:List D) (o:Nat) (new:List D):List D:=ds.take o++new++ds.drop (o+new.length)
theorem spliceD_len {ds new:List D} {o:Nat} (h:o+new.length<=ds.length):(ig ds o new).length=ds.length:=by
 unfold ig;simp;omega
theorem mul_lt_row {i j es q:Nat} (h:i<j) (hq:q<es):i*es+q<j*es:=by
 have h1:(i+1)*es<=j*es:=Be _ h;rw [Bo] at h1;omega
theorem tm {α:Type} (vs new:List α) (o p:Nat) (h:o+new.length<=vs.length):(vs.take o++new++vs.drop (o+new.length))[p]?=if p<o then vs[p]? else if p<o+new.length then new[p-o]? else vs[p]?:=by
 have ht:(vs.take o).length=o:=by simp;omega
 by_cases h1:p<o
 ·rw [if_pos h1,Cf,Bm (by omega),Bi,if_pos h1]
 ·rw [if_neg h1,Cf,A4 (by omega),ht];by_cases h2:p<o+new.length
  ·rw [if_pos h2,Bm (by omega)]
  ·rw [if_neg h2,A4 (by omega),List.getElem?_drop];congr 1;omega
theorem op_storeP {te tb:TypeId} {pos:String} {af:Array Edge} {g:Option (Nat×Bool)} {i j es o:Nat} {xs:List (List D)} {s:SV} {new:List D} (hx:ap L x = .prow i j es o) (hH:Hp.get H i=some (.row tb es xs)) (hj:j<xs.length)
  (hy:ap L y=s) (hyo:dh y=true) (hd:dcells s=some new) (hkn:(Γ.sh te).known=true) (hn:Aw new.length (Γ.cells te)=true) (hle:Nat.ble (o+new.length) es=true) :
  OpOk Γ ⟨none,.store te x y,ty,pos,af,g⟩ k L H k L (Hp.set H i (.row tb es (xs.set j (ig xs[j] o new)))):=by
 intro e a w Q m;obtain⟨inf,z,hi,_,hs,_⟩:=Ctx.info (Sh.known_ne hkn);obtain⟨_,g0,n0,cap0,hη,hp⟩:=evT m hx (x9 · _ _ _ _);have hr:=m.op y (ce hyo);rw [hy] at hr;obtain⟨c1,c2,c3⟩:=dcells_spec hd hr;have hmem:=Hp.mem_of hH;obtain⟨vs,ho,hes,hone,hrep⟩:=(m.heap _ hmem).2;have hle':=Ab hle;have hn':=Ao hn;rcases ho.2 with ⟨h2,h3⟩|⟨g',cap',cur,h2,hb0,hg,hnc,hcm,hcs,htake⟩
 ·omega
 rw [hη] at h2;cases h2;generalize hN:(a.eval y).cells.toList=N at c1 c2 c3;have hlen:vs.length=xs.length*es:=ho.1;have hjr:j*es+o+N.length<=xs.length*es:=by
  have h1:(j+1)*es<=xs.length*es:=Be _ hj;rw [Bo] at h1;omega
 have hcl:xs.length*es<=cur.toList.length:=by
  rw [<- hlen,<- htake,Aq];exact Nat.min_le_right _ _
 have hst:=run_storeCells_at Γ.P g0 (j*es+o) tb N 0 cur w hg (by rw [<- A2];omega) c2;have hrun:(execOp a.eval ⟨none,.store te x y,ty,pos,af,g⟩).run Γ.P w = .ok .skip (w.setRow g0 (cur.toList.take (j*es+o)++N++cur.toList.drop (j*es+o+N.length)).toArray):=by
  have hsz:(a.eval y).cells.size=inf.size:=by rw [<- A2,hN,c1,hn',hs]
  rw [<- hN] at hst ⊢;simp only [execOp,Instr.storeAt,hp,Instr.sureAddr];simp [storeVar,dv hi,hsz,hst]
 unfold Oper.wp;rw [hrun];have hown:HB.owned e (i,.row tb es xs)=some g0:=by simp [HB.owned,hη,Value.ownBlock]
 refine⟨e,m.turn (b':=.row tb es (xs.set j (ig xs[j] o new))) hH ?_ rfl rfl rfl (λ_=>Ah _) (λc _ hc=>setRow_other w _ c _ (λh=>hc (by rw [hown,h]))) rfl ?_⟩
 ·simp [World.setRow]
 ·have hset:(vs.take (j*es+o)++N++vs.drop (j*es+o+N.length)).length=xs.length*es:=by simp;omega
  have hgo:(w.setRow g0 (cur.toList.take (j*es+o)++N++cur.toList.drop (j*es+o+N.length)).toArray).heap[g0]?=some (.cells (cur.toList.take (j*es+o)++N++cur.toList.drop (j*es+o+N.length)).toArray tb (0,0)):=setRow_heap w g0 cur _ tb (0,0) hg;have hkeep:∀ b,b<w.heap.size->¬ Γ.X e H b->(w.setRow g0 (cur.toList.take (j*es+o)++N++cur.toList.drop (j*es+o+N.length)).toArray).heap[b]?=w.heap[b]?:=λb _ hb=>setRow_other w _ b _ (λh=>hb (.inr (List.mem_filterMap.2 ⟨_,hmem,by rw [hown,h]⟩)))
  have hj0:xs[j].length=es:=hes j hj;refine⟨vs.take (j*es+o)++N++vs.drop (j*es+o+N.length),⟨by rw [hset,Ba],.inr ⟨g0,_,_,?_,hb0,hgo,?_,hcm,?_,?_⟩⟩,λi' h'=>?_,λv hv=>?_,λi' h' q hq=>?_⟩
  ·rw [Ba];exact hη
  ·rw [Ba];exact hnc
  ·rw [<- hcs];simp only [List.size_toArray,List.length_append,Aq,List.length_drop,A2];have hcl2:cur.toList.length=cur.size:=A2;omega
  ·rw [Ba];apply List.ext_getElem?;intro p;rw [Bi];by_cases hp':p<xs.length*es
   ·rw [if_pos hp',tm _ _ _ _ (by omega),tm _ _ _ _ (by omega)];have hcv:cur.toList[p]?=vs[p]?:=by rw [<- htake,Bi,if_pos hp']
    rw [hcv]
   ·rw [if_neg hp',List.getElem?_eq_none (by omega)]
  ·rw [Hm];split
   ·rw [spliceD_len (by omega)];exact hj0
   ·exact hes i' (by simpa using h')
  ·simp only [List.mem_append] at hv;rcases hv with (hv|hv)|hv
   ·exact hone v (List.mem_of_mem_take hv)
   ·exact c2 v hv
   ·exact hone v (List.mem_of_mem_drop hv)
  ·have hi':i'<xs.length:=by simpa using h'
   rw [tm _ _ _ _ (by omega)];have old:∀ (hq:q<xs[i'].length),∃ v,vs[i'*es+q]?=some v/\RepC (Γ.X e H) (w.setRow g0 (cur.toList.take (j*es+o)++N++cur.toList.drop (j*es+o+N.length)).toArray) v (xs[i'][q]'hq):=λhq=>by
    obtain⟨v,p1,p2⟩:=hrep i' hi' q hq;exact⟨v,p1,RepC.keep (by simp [World.setRow]) hkeep (λ_ _ h=>h) p2⟩
   have hei:=hes i' hi';by_cases hij:i'=j
   ·subst hij;have hsl:ig xs[i'] o new=(xs.set i' (ig xs[i'] o new))[i']:=by simp
    have hq0:q<(ig xs[i'] o new).length:=by rw [hsl];exact hq
    have hq':q<es:=by rw [spliceD_len (by omega)] at hq0;omega
    have hg':=tm xs[i'] new o q (by omega);have hgq:(xs[i'].take o++new++xs[i'].drop (o+new.length))[q]?=some ((xs.set i' (ig xs[i'] o new))[i'][q]):=by
     have h9:=Ad hq0;simp only [List.getElem_set_self];exact h9
    rw [hg'] at hgq;by_cases q1:q<o
    ·rw [if_pos q1] at hgq;rw [if_pos (by omega)];obtain⟨v,p1,p2⟩:=old (by omega);rw [Ad (by omega)] at hgq;injection hgq with hgq
     exact⟨v,p1,hgq▸p2⟩
    ·rw [if_neg q1] at hgq;rw [if_neg (by omega)];by_cases q2:q<o+new.length
     ·rw [if_pos q2] at hgq;rw [if_pos (by omega),show i'*es+q-(i'*es+o)=q-o by omega];obtain⟨u,u1,u2⟩:=c3 (q-o) (by omega);rw [Ad (by omega)] at hgq;injection hgq with hgq
      exact⟨u,u1,hgq▸RepC.keep (by simp [World.setRow]) hkeep (λ_ _ h=>h) u2⟩
     ·rw [if_neg q2] at hgq;rw [if_neg (by omega)];obtain⟨v,p1,p2⟩:=old (by omega);rw [Ad (by omega)] at hgq;injection hgq with hgq
      exact⟨v,p1,hgq▸p2⟩
   ·have hsx:(xs.set j (ig xs[j] o new))[i']=xs[i']:=by rw [Hm,if_neg (λh=>hij h.symm)]
    have hq':q<xs[i'].length:=by rw [<- hsx];exact hq
    obtain⟨v,p1,p2⟩:=old hq';have hv:(xs.set j (ig xs[j] o new))[i'][q]=xs[i'][q]:=by simp only [hsx]
    rw [hv];rcases Nat.lt_or_gt_of_ne hij with h1|h1
    ·have:=mul_lt_row (es:=es) (q:=q) h1 (by omega)
     rw [if_pos (by omega)];exact⟨v,p1,p2⟩
    ·have:=mul_lt_row (es:=es) (q:=o+N.length-1) h1
     have h4:(j+1)*es<=i'*es:=Be _ h1;rw [Bo] at h4;rw [if_neg (by omega),if_neg (by omega)];exact⟨v,p1,p2⟩
theorem op_mk {d z n:Nat} {te:TypeId} {pos:String} {af:Array Edge} {g:Option (Nat×Bool)} {x y:Operand} {m':Int} {v0:Value} {x0:D} (hz':¬ k z) (ht:Γ.sh t = .slice te) (hkn:(Γ.sh te).known=true) (hes:Γ.cells te=1) (hzero:(aj Γ.τ te).zero=[v0]) (hx0:cSV v0 = .d x0) (hzok:gk (aj Γ.τ te).zero=true)
  (hx:ap L x = .d (.int .i64 m')) (hy:ap L y = .d (.int .i64 m')) (hn:m'=(n:Int)) (hroom:(aj Γ.τ te).bytes*n<=281474976710656) (hmax:n<=maxLen) (hd:Av d Γ.n=true) :
  OpOk Γ ⟨some d,.makeSlice t x y,ty,pos,af,g⟩ k L H (mg k z) ((d,.row z)::L) ((z,.row te 1 (Ap n [x0]))::H):=by
 subst hn;intro e a w Q m;have hze:¬ e.dom z:=λh=>hz' ((m.top z).1 h)
 obtain⟨inf,zv,hi,hzz,hs,hb,hzc⟩:=Ctx.info (Sh.known_ne hkn);have hzcells:zv.cells = #[v0]:=by
  apply Array.toList_inj.1;rw [hzc,hzero]
 have hbytes:(inf.bytes:Int)*(n:Int)<=281474976710656:=by
  have h:((inf.bytes*n:Nat):Int)<=281474976710656:=by rw [hb];omega
  rwa [Int.natCast_mul] at h
 have hrun:=run_make (P:=Γ.P) w t te inf zv (Ctx.slice ht) hi hzz .i64 .i64 (n:Int) n (by omega) (Int.le_refl _) hbytes (by unfold maxLen at hmax;omega);rw [hs,hes,Nat.mul_one,hzcells,Int.toNat_natCast] at hrun;have hop:(execOp a.eval ⟨some d,.makeSlice t x y,ty,pos,af,g⟩).run Γ.P w = .ok (.value (.slice (some ⟨w.heap.size,0,none⟩) n n)) (w.alloc (.cells (madeCells #[v0] n) te)):=by
  simp [execOp,evI m hx,evI m hy,hrun]
 unfold Oper.wp;rw [hop];have hη:(e.bindRow z (.slice (some ⟨w.heap.size,0,none⟩) n n)).η z = .slice (some ⟨w.heap.size,0,none⟩) n n:=if_pos rfl;obtain⟨hz1,hz2⟩:=f7 (X:=Γ.X e H) (e:=e) (w:=w) _ hzok;rw [hzero] at hz1 hz2;have hone:v0.oneCell'=true:=hz2 v0 (List.mem_singleton.2 rfl);have hrep:RepC (Γ.X e H) w v0 x0:=by
  have h1:=hz1.1;rw [hx0] at h1;exact h1
 have m2:=m.new hz' (hb:=.row te 1 (Ap n [x0])) (e':=e.bindRow z (.slice (some ⟨w.heap.size,0,none⟩) n n)) (w':=w.alloc (.cells (madeCells #[v0] n) te)) (λi=>or_congr (m.top i) Iff.rfl) (e.bindRow_ext _ _ hze) (em Γ.dr _ _)
  (λb hb=>by simp only [HB.owned,hη,Value.ownBlock,Option.some.injEq] at hb;omega) (λhX=>by
   refine⟨Ap n v0,⟨by simp,.inr ⟨w.heap.size,n,_,by rw [hη,List.length_replicate],Ak _,heap_alloc_new w _,by simp,hmax,by simp [size_madeCells],by rw [toList_madeCells_one];simp⟩⟩,λi h=>by simp,λv hv=>?_,λi h j hj=>?_⟩
   ·rw [(List.mem_replicate.1 hv).2];exact hone
   ·have hj0:j=0:=by simp at hj;omega
    subst hj0;have hin:i<n:=by simpa using h
    refine⟨v0,by simp [hin],?_⟩
    simp only [List.getElem_replicate,List.getElem_cons_zero];exact RepC.keep (em Γ.dr _ _).size (λb hb _=>(em Γ.dr _ _).block b hb) (λb hb hx=>hX b hb hx) hrep)
 exact⟨_,m2.put (s:=.row z) (v:=.slice (some ⟨w.heap.size,0,none⟩) n n) (Ab hd) ⟨.inr rfl,hη.symm,rfl⟩⟩
end
end
section
open Go Go.RowKit
inductive Up where
 | no
 | new (b:HB)
 | set (i:Nat) (b:HB)
 | trade (i:Nat) (b:HB)
 | del (i:Nat)
def Up.okD (dr:Bool):Up->Prop
 | .trade _ _=>dr=false
 | _=>True
def fset (η:Nat->Option HB) (i:Nat) (b:Option HB):Nat->Option HB:=λj=>if i=j then b else η j
def Up.app (z:Nat):Up->(Nat->Option HB)->(Nat->Option HB)
 | .no,η=>η
 | .new b,η=>fset η z (some b)
 | .set i b,η=>fset η i (some b)
 | .trade i b,η=>fset (fset η i none) z (some b)
 | .del i,η=>fset η i none
def Up.appL (z:Nat):Up->Hp->Hp
 | .no,H=>H
 | .new b,H=>(z,b)::H
 | .set i b,H=>Hp.set H i b
 | .trade i b,H=>(z,b)::Hp.del H i
 | .del i,H=>Hp.del H i
def Up.names (z:Nat):Up->List Nat
 | .no=>[]
 | .new _=>[z]
 | .set i _=>[i]
 | .trade i _=>[i,z]
 | .del i=>[i]
def ye (τ:List (Nat×TI)) (t:TypeId) (a b:SV) (η:Nat->Option HB) (z:Nat):Option (Prop×SV×Up):=match (aj τ t).sh with
 | .slice te=>match (aj τ te).sh.known && (Av 0 (aj τ te).cells && Aw (aj τ te).zero.length (aj τ te).cells) with
  | true=>match a,b with
   | .row i,.d (.slice es ys)=>match η i with
    | some (.row te' es' xs)=>match Aw te' te && (Aw es' (aj τ te).cells && Aw es (aj τ te).cells) with
     | true=>some ((xs.length+ys.length)*(aj τ te).bytes<=140737488355328/\xs.length+ys.length<=maxLen,.row z,.trade i (.row te (aj τ te).cells (xs++ys)))
     | false=>none
    | _=>none
   | _,_=>none
  | false=>none
 | _=>none
def appendC (τ:List (Nat×TI)) (t:TypeId) (a b:SV) (η:Nat->Option HB) (z:Nat):Option (Prop×SV×Up):=match (aj τ t).sh with
 | .slice te=>match aj τ te with
  | ⟨sh,cells,bytes,zero,_⟩=>match sh.known && (Av 0 cells && Aw zero.length cells) with
   | true=>match a,b with
    | .row i,.d (.slice es ys)=>match η i with
     | some (.row te' es' xs)=>match Aw te' te && (Aw es' cells && Aw es cells) with
      | true=>some ((xs.length+ys.length)*bytes<=140737488355328/\xs.length+ys.length<=maxLen,.row z,.trade i (.row te cells (xs++ys)))
      | false=>none
     | _=>none
    | _,_=>none
   | false=>none
 | _=>none
theorem u9 (τ:List (Nat×TI)) (t:TypeId) (a b:SV) (η:Nat->Option HB) (z:Nat):appendC τ t a b η z=ye τ t a b η z:=by
 unfold appendC ye;cases (aj τ t).sh with
 | slice te =>
  generalize aj τ te=ti;cases ti;rfl
 | _=>rfl
def d9 (τ:List (Nat×TI)) (g:Operand->SV) (t:TypeId) (len:Nat) (ps:List (Nat×Operand)):Option (Prop×SV×Up):=match (aj τ t).sh with
 | .slice te=>match (aj τ te).sh.known && (Av 0 (aj τ te).cells && (gk (aj τ te).zero && (Aw (aj τ te).zero.length (aj τ te).cells && Nat.ble (len*(aj τ te).cells) 16777216))) with
  | true=>match qx (λi=>some (i*(aj τ te).cells,(aj τ te).cells)) (xu (ov τ te) (len*(aj τ te).cells)) (ps.map λp=>(p.1,g p.2)) with
   | some cs=>match Aw cs.length (len*(aj τ te).cells) with
    | true=>match rowsOf (cellEs τ 4 te) (aj τ te).cells len cs with
     | some xs=>some (True,.d (.slice (aj τ te).cells xs),.no)
     | none=>none
    | false=>none
   | none=>none
  | false=>none
 | _=>none
def rowsS:SV->List Nat
 | .row i=>[i]
 | _=>[]
def rowsA:SV->List Nat
 | .agg ss=>ss.flatMap rowsS
 | s=>rowsS s
def sealS (i es:Nat) (xs:List (List D)):SV->SV
 | .row j=>match Aw j i with|true=>.d (.slice es xs)|false=>.row j
 | s=>s
def vc (i es:Nat) (xs:List (List D)):SV->SV
 | .agg ss=>.agg (ss.map (sealS i es xs))
 | s=>sealS i es xs s
def mv (τ:List (Nat×TI)) (g:Operand->SV) (η:Nat->Option HB) (t:TypeId) (len:Nat) (ps:List (Nat×Operand)):Option (Prop×SV×Up):=match ps.flatMap λp=>rowsA (g p.2) with
 | []=>d9 τ g t len ps
 | [i]=>match η i with
  | some (.row _ es xs)=>match d9 τ (λx=>vc i es xs (g x)) t len ps with
   | some (p,s,.no)=>some (p,s,.del i)
   | _=>none
  | _=>none
 | _=>none
def qf (τ:List (Nat×TI)) (te:TypeId) (a b:SV) (η:Nat->Option HB):Option (Prop×SV×Up):=match a with
 | .loc i o=>match η i with
  | some (.blk tb cs)=>match b.isVar && ((aj τ te).sh.known && (Aw b.cells.length (aj τ te).cells && Nat.ble (o+b.cells.length) cs.length)) with
   | true=>qw (ky cs o b.cells) λl=>some (True,.tup [],.set i (.blk tb l))
   | false=>none
  | _=>none
 | .prow i j es o=>match η i with
  | some (.row tb es' xs)=>match b with
   | .d x=>match (aj τ te).sh.known && (Aw (aj τ te).cells 1 && (Aw es 1 && (Aw es' 1 && Aw o 0))) with
    | true=>some (j<xs.length/\(∀ y∈xs,y.length=1),.tup [],.set i (.row tb 1 (xs.set j [x])))
    | false=>none
   | _=>none
  | _=>none
 | _=>none
def makeC (τ:List (Nat×TI)) (t:TypeId) (a b:SV) (z:Nat):Option (Prop×SV×Up):=match (aj τ t).sh with
 | .slice te=>match (aj τ te).sh.known && (Aw (aj τ te).cells 1 && gk (aj τ te).zero) with
  | true=>match (aj τ te).zero with
   | [v0]=>match cSV v0 with
    | .d x0=>match a,b with
     | .d (.int .i64 n),.d (.int .i64 m)=>some (n=m/\0<=n/\(aj τ te).bytes*n.toNat<=281474976710656/\n.toNat<=maxLen,.row z,.new (.row te 1 (Ap n.toNat [x0])))
     | _,_=>none
    | _=>none
   | _=>none
  | false=>none
 | _=>none
def mj (τ:List (Nat×TI)) (g:Operand->SV) (η:Nat->Option HB) (z:Nat):Op->Option (Prop×SV×Up)
 | .alloc te=>match (aj τ te).sh.known && gk (aj τ te).zero with
  | true=>qw (ov τ te) λl=>some (True,.loc z 0,.new (.blk te l))
  | false=>none
 | .box te x=>match (g x).isVar with
  | true=>qw (g x).cells λl=>some (True,.loc z 0,.new (.blk te l))
  | false=>none
 | .buildSlice t len ps=>mv τ g η t len ps.toList
 | .makeSlice t x y=>makeC τ t (g x) (g y) z
 | .call { callee:=.builtin .append,args,argTypes }=>match args.toList,argTypes.toList with
  | [x,y],[t,t']=>match Aw t t' with
   | true=>appendC τ t (g x) (g y) η z
   | false=>none
  | _,_=>none
 | op=>match evC τ g η op with
  | some (p,s)=>some (p,s,.no)
  | none=>none
def iz (τ:List (Nat×TI)) (g:Operand->SV) (η:Nat->Option HB) (z:Nat) (dst:Option Nat) (op:Op):Option (Prop×SV×Up):=match dst with
 | some _=>mj τ g η z op
 | none=>match op with
  | .store te x y=>qf τ te (g x) (g y) η
  | _=>none
theorem Hp.get_cons (d:Nat) (s:HB) (H:Hp) (t:Nat):Hp.get ((d,s)::H) t=if d=t then some s else Hp.get H t:=by
 simp only [Hp.get];cases h:Aw d t with
 | true=>rw [if_pos (Ao h)]
 | false=>rw [if_neg (B0 h)]
theorem Hp.get_set (i:Nat) (b:HB):∀ (H:Hp) (b0:HB),Hp.get H i=some b0->∀ t,Hp.get (Hp.set H i b) t=if i=t then some b else Hp.get H t
 | [],_,h,_=>by simp [Hp.get] at h
 | (d,s)::H,b0,h,t=>by
  rw [Hp.get_cons] at h
  simp only [Hp.set]
  cases hb:Aw d i with
  | true =>
   have:=Ao hb
   subst this
   simp only [Hp.get_cons]
   split<;>rfl
  | false =>
   have hne:=B0 hb
   rw [if_neg hne] at h
   simp only [Hp.get_cons]
   rw [Hp.get_set i b H b0 h t]
   by_cases h1:d=t
   ·subst h1;rw [if_pos rfl,if_neg (λh=>hne h.symm),if_pos rfl]
   ·rw [if_neg h1,if_neg h1]
theorem Hp.get_none {H:Hp} {i:Nat} (h:i ∉ H.map (·.1)):Hp.get H i=none:=by
 cases hg:Hp.get H i with
 | none=>rfl
 | some b=>exact absurd (List.mem_map.2 ⟨_,Hp.get_mem H i b hg,rfl⟩) h
theorem Hp.get_del (i:Nat):∀ (H:Hp),(H.map (·.1)).Nodup->∀ t,Hp.get (Hp.del H i) t=if i=t then none else Hp.get H t
 | [],_,t=>by simp [Hp.del,Hp.get]
 | (d,s)::H,hn,t=>by
  obtain⟨h1,h2⟩:=List.nodup_cons.1 hn
  simp only [Hp.del]
  cases hb:Aw d i with
  | true =>
   have:=Ao hb
   subst this
   simp only [Hp.get_cons]
   by_cases h3:d=t
   ·subst h3;rw [if_pos rfl];exact Hp.get_none h1
   ·rw [if_neg h3,if_neg h3]
  | false =>
   have hne:=B0 hb
   simp only [Hp.get_cons]
   rw [Hp.get_del i H h2 t]
   by_cases h3:d=t
   ·subst h3;rw [if_pos rfl,if_neg (λh=>hne h.symm),if_pos rfl]
   ·rw [if_neg h3,if_neg h3]
theorem Hp.mem_get:∀ (H:Hp),(H.map (·.1)).Nodup->∀ p∈H,Hp.get H p.1=some p.2
 | [],_,p,hp=>by simp at hp
 | (d,s)::H,hn,p,hp=>by
  obtain⟨h1,h2⟩:=List.nodup_cons.1 hn
  rw [Hp.get_cons]
  rcases List.mem_cons.1 hp with rfl|hp
  ·rw [if_pos rfl]
  ·have:d≠p.1:=λh=>h1 (List.mem_map.2 ⟨p,hp,h.symm⟩)
   rw [if_neg this];exact Hp.mem_get H h2 p hp
section
variable {Γ : Ctx} {k : Nat -> Prop} {L : Sl} {H : Hp} {a : Act} {w : World} {e : Env}
theorem Models.widenTo (m:Models Γ k L H e a w) {k':Nat->Prop} (hk':∀ i,k i->k' i):∃ e',Models Γ k' L H e' a w:=by
 let e':Env:=⟨e.β,e.η,k'⟩
 have he:∀ i,e.dom i->e'.β i=e.β i/\e'.η i=e.η i:=λ_ _=>⟨rfl,rfl⟩
 have hk:∀ i,e.dom i->e'.dom i:=λi h=>hk' i ((m.top i).1 h)
 have hol:ah e' H=ah e H:=ma he H λp hp=>(m.heap p hp).1
 have hX:∀ b,Γ.X e' H b↔Γ.X e H b:=λb=>by unfold Ctx.X;rw [hol]
 refine⟨e',⟨⟨λi=>Iff.rfl,λp hp=>⟨hk _ (m.heap p hp).1,?_⟩,m.ids,hol▸m.nodup,λb hb=>m.mine b (hol▸hb),m.os,m.tape,m.output,m.drawn,m.size,m.block,m.obound,λj hj=>hk' j (m.jle j hj),m.anchor⟩,m.defers,m.len,λt=>?_⟩⟩
 ·exact HRel.keep (Ah _) (λ_ _ _=>rfl) (λb _ h=>(hX b).1 h) p (λ_ _=>rfl) (HRel.ext hk he p (m.heap p hp).1 (m.heap p hp).2)
 ·exact Rel.keep (Ah _) (λ_ _ _=>rfl) (λb _ h=>(hX b).1 h) _ _ (Rel.ext hk he _ _ (m.slot t))
theorem Models.widen (m:Models Γ k L H e a w) (z:Nat):∃ e',Models Γ (mg k z) L H e' a w:=m.widenTo λ_ h=>Or.inl h
theorem OpOk.widen {o:Oper} {k':Nat->Prop} {L':Sl} {H':Hp} (h:OpOk Γ o k L H k' L' H') (z:Nat):OpOk Γ o k L H (mg k' z) L' H':=by
 intro e a w Q m;refine Oper.wp_mono ?_ (h e a w Q m);rintro a' w' ⟨e',m'⟩;exact m'.widen z
def putL:Option Nat->SV->Sl->Sl
 | none,_,L=>L
 | some d,s,L=>(d,s)::L
def dstOk (Γ:Ctx):Option Nat->Bool
 | none=>true
 | some d=>Av d Γ.n
theorem yb {τ:List (Nat×TI)} {g:Operand->SV} {t len:Nat} {ps:List (Nat×Operand)} {p:Prop} {s:SV} {u:Up} (h:d9 τ g t len ps=some (p,s,u)):u = .no:=by
 unfold d9 at h;repeat' (split at h)
 all_goals cases h
 rfl
theorem bs_sound2 {d:Nat} {t len:Nat} {ty:TypeId} {pos:String} {af:Array Edge} {g:Option (Nat×Bool)} {ps:Array (Nat×Operand)} {p:Prop} {s:SV} {L2:Sl} {H2:Hp} (hs:∀ e a w,Models Γ k L H e a w->Models Γ k L2 H2 e a w/\Models Γ k L H2 e a w)
  (h:d9 Γ.τ (ap L2) t len ps.toList=some (p,s,.no)) (hok:bz (.buildSlice t len ps)=true) (hd:Av d Γ.n=true) :
  OpOk Γ ⟨some d,.buildSlice t len ps,ty,pos,af,g⟩ k L H k ((d,s)::L) H2:=by
 unfold d9 at h;split at h
 ·rename_i te ht;split at h
  ·rename_i hc;simp only [Ae] at hc;obtain⟨c1,c2,c3,c4,c5⟩:=hc;split at h
   ·rename_i cs hf;split at h
    ·rename_i hl;split at h
     ·rename_i xs hx;cases h;obtain⟨pl⟩:=ps;have hok':na pl=true:=xc _ (by simpa [bz,Op.operands,List.all_map,Function.comp_def] using hok);rw [show (List.map (λp=>(p.1,ap L2 p.2)) (Array.mk pl).toList)=m9 L2 pl from (xb pl).symm] at hf;exact op_buildSlice2 hs ht c1 rfl c2 c3 c4 hok' c5 hf hl hx hd
     ·cases h
    ·cases h
   ·cases h
  ·cases h
 ·cases h
theorem bs_sound {d:Nat} {t len:Nat} {ty:TypeId} {pos:String} {af:Array Edge} {g:Option (Nat×Bool)} {ps:Array (Nat×Operand)} {p:Prop} {s:SV} (h:d9 Γ.τ (ap L) t len ps.toList=some (p,s,.no)) (hok:bz (.buildSlice t len ps)=true) (hd:Av d Γ.n=true) :
  OpOk Γ ⟨some d,.buildSlice t len ps,ty,pos,af,g⟩ k L H k ((d,s)::L) H:=bs_sound2 (λ_ _ _ m=>⟨m,m⟩) h hok hd
theorem seal_get (i es:Nat) (xs:List (List D)):∀ (L:Sl) (t:Nat),Sl.get (L.map λq=>(q.1,vc i es xs q.2)) t=vc i es xs (L.get t)
 | [],_=>rfl
 | (d,s)::L,t=>by
  rw [List.map_cons,Sl.get_cons,Sl.get_cons,seal_get i es xs L t]
  split<;>rfl
theorem seal_op (i es:Nat) (xs:List (List D)) (L:Sl) (x:Operand):ap (L.map λq=>(q.1,vc i es xs q.2)) x=vc i es xs (ap L x):=by
 cases x with
 | tmp t=>exact seal_get i es xs L t
 | const v =>
  simp only [ap];unfold cSV;split<;>rfl
 | global g=>rfl
 | func f=>rfl
theorem seal_relS {X X':Nat->Prop} {e:Env} {w:World} {i es:Nat} {xs:List (List D)} (hX:∀ b,X' b->X b) (hi:RepC X' w (e.η i) (.slice es xs)) (s:SV) (v:Value) (h:Rel X e w s v):Rel X' e w (sealS i es xs s) v:=by
 have hk:=Rel.keep (Ah _) (λ_ _ _=>rfl) (λb _ h=>hX b h) (Y:=X') (w':=w) _ _ h;unfold sealS;split
 ·rename_i j;cases hb:Aw j i with
  | true =>
   have:=Ao hb
   subst this;simp only;rw [h.2.1];exact hi
  | false=>exact hk
 ·exact hk
theorem seal_relL {X X':Nat->Prop} {e:Env} {w:World} {i es:Nat} {xs:List (List D)} (hX:∀ b,X' b->X b) (hi:RepC X' w (e.η i) (.slice es xs)):∀ (ss:List SV) (vs:List Value),RelL X e w ss vs->RelL X' e w (ss.map (sealS i es xs)) vs
 | [],[],_=>trivial
 | [],_::_,h=>h.elim
 | _::_,[],h=>h.elim
 | s::ss,v::vs,h=>⟨seal_relS hX hi s v h.1,seal_relL hX hi ss vs h.2⟩
theorem seal_relA {X X':Nat->Prop} {e:Env} {w:World} {i es:Nat} {xs:List (List D)} (hX:∀ b,X' b->X b) (hi:RepC X' w (e.η i) (.slice es xs)) (s:SV) (v:Value) (h:Rel X e w s v):Rel X' e w (vc i es xs s) v:=by
 cases s with
 | agg ss =>
  obtain⟨vs,h1,h2⟩:=h;exact⟨vs,h1,seal_relL hX hi ss vs h2⟩
 | _=>exact seal_relS hX hi _ v h
theorem bs_soundR {d i es:Nat} {t len te:Nat} {ty:TypeId} {pos:String} {af:Array Edge} {g:Option (Nat×Bool)} {ps:Array (Nat×Operand)} {p:Prop} {s:SV} {xs:List (List D)} (hH:Hp.get H i=some (.row te es xs))
  (h:d9 Γ.τ (λx=>vc i es xs (ap L x)) t len ps.toList=some (p,s,.no)) (hok:bz (.buildSlice t len ps)=true) (hd:Av d Γ.n=true) :
  OpOk Γ ⟨some d,.buildSlice t len ps,ty,pos,af,g⟩ k L H k ((d,s)::L) (Hp.del H i):=by
 refine bs_sound2 (L2:=L.map λq=>(q.1,vc i es xs q.2)) (λe a w m=>?_) (by rw [show ap (L.map λq=>(q.1,vc i es xs q.2))=λx=>vc i es xs (ap L x) from funext (seal_op i es xs L)];exact h) hok hd;obtain⟨m2,hX⟩:=m.del i;have hi:=qn m hH;exact⟨⟨m2.toHeap,m2.defers,m2.len,λt=>by rw [seal_get];exact seal_relA hX hi _ _ (m.slot t)⟩,m2⟩
theorem vt {d:Nat} {op:Op} {ty:TypeId} {pos:String} {af:Array Edge} {gd:Option (Nat×Bool)} {z:Nat} {p:Prop} {s:SV} {u:Up} (h:mj Γ.τ (ap L) (Hp.get H) z op=some (p,s,u)) (hp:p) (hu:u.okD Γ.dr) (hok:bz op=true) (hd:Av d Γ.n=true) (hz:¬ k z) :
  OpOk Γ ⟨some d,op,ty,pos,af,gd⟩ k L H (mg k z) ((d,s)::L) (u.appL z H):=by
 have ev:∀ (op:Op),bz op=true->(match evC Γ.τ (ap L) (Hp.get H) op with|some (p,s)=>some (p,s,Up.no)|none=>none)=some (p,s,u)->OpOk Γ ⟨some d,op,ty,pos,af,gd⟩ k L H (mg k z) ((d,s)::L) (u.appL z H):=by
  intro op hok h;cases he:evC Γ.τ (ap L) (Hp.get H) op with
  | none=>simp [he] at h
  | some q =>
   obtain⟨p',s'⟩:=q;simp only [he,Option.some.injEq,Prod.mk.injEq] at h;obtain⟨rfl,rfl,rfl⟩:=h;exact (op_ev (evC_sound he hp hok) hd).widen z
 cases op with
 | alloc te =>
  simp only [mj,gg] at h;split at h
  ·rename_i hc;cases h;simp only [Ae] at hc;exact op_alloc hz hc.1 hc.2 rfl hd
  ·cases h
 | box te x =>
  simp only [mj,gg] at h;split at h
  ·rename_i hc;cases h;exact op_box hz rfl (by simpa [bz,Op.operands] using hok) hc hd
  ·cases h
 | buildSlice t len ps =>
  simp only [mj] at h;unfold mv at h;split at h
  ·have hu:u = .no:=yb h;subst hu;exact (bs_sound h hok hd).widen z
  ·rename_i i _;split at h
   ·rename_i te0 es xs hH;split at h
    ·rename_i p' s' hb;cases h;exact (bs_soundR hH hb hok hd).widen z
    ·cases h
   ·cases h
  ·cases h
 | makeSlice t x y =>
  simp only [mj,makeC] at h;split at h
  ·rename_i te ht;split at h
   ·rename_i hc;simp only [Ae] at hc;split at h
    ·rename_i v0 hv0;split at h
     ·rename_i x0 hx0;split at h
      ·rename_i n m' hx hy;cases h;obtain⟨rfl,h0,h1,h2⟩:=hp;exact op_mk hz ht hc.1 (Ao hc.2.1) hv0 hx0 hc.2.2 hx hy (Int.toNat_of_nonneg h0).symm h1 h2 hd
      ·cases h
     ·cases h
    ·cases h
   ·cases h
  ·cases h
 | call c =>
  obtain⟨callee,args,ts⟩:=c;cases callee with
  | builtin b =>
   cases b;case append =>
    simp only [mj] at h;split at h
    ·rename_i x y t t' ha ht;obtain⟨al⟩:=args;obtain⟨tl⟩:=ts;simp only at ha ht;subst ha;subst ht;split at h
     ·rename_i htt;have:=Ao htt
      subst this;rw [u9] at h;unfold ye at h;split at h
      ·rename_i te ht;split at h
       ·rename_i hc;simp only [Ae] at hc;split at h
        ·rename_i i es ys hx hy;split at h
         ·rename_i te' es' xs hH;split at h
          ·rename_i hcc;simp only [Ae] at hcc;have e1:=Ao hcc.1;have e2:=Ao hcc.2.1;have e3:=Ao hcc.2.2;subst e1;subst e2;subst e3;cases h;haveI:NoDr Γ:=⟨hu⟩
           exact op_append_row hz ht hc.1 rfl hc.2.1 hc.2.2 hx hH hy hd hp.1 hp.2
          ·cases h
         ·cases h
        ·cases h
       ·cases h
      ·cases h
     ·cases h
    ·cases h
   all_goals exact ev _ hok h
  | _=>exact ev _ hok h
 | _=>exact ev _ hok h
theorem stepC_sound {dst:Option Nat} {op:Op} {ty:TypeId} {pos:String} {af:Array Edge} {gd:Option (Nat×Bool)} {z:Nat} {p:Prop} {s:SV} {u:Up} (h:iz Γ.τ (ap L) (Hp.get H) z dst op=some (p,s,u)) (hp:p) (hu:u.okD Γ.dr) (hok:bz op=true) (hd:dstOk Γ dst=true) (hz:¬ k z) :
  OpOk Γ ⟨dst,op,ty,pos,af,gd⟩ k L H (mg k z) (putL dst s L) (u.appL z H):=by
 cases dst with
 | some d=>exact vt h hp hu hok hd hz
 | none =>
  cases op with
  | store te x y =>
   simp only [iz] at h;simp only [qf,gg] at h;split at h
   ·rename_i i o hx;split at h
    ·rename_i tb cs hH;split at h
     ·rename_i hc;cases h;simp only [Ae] at hc;simp only [bz,Op.operands,Do,Ae] at hok;exact (op_store hx hH rfl hok.2.1 hc.1 hc.2.1 hc.2.2.1 hc.2.2.2).widen z
     ·cases h
    ·cases h
   ·rename_i i j es o hx;split at h
    ·rename_i tb es' xs hH;split at h
     ·rename_i x hy;split at h
      ·rename_i hc;cases h;simp only [Ae] at hc;simp only [bz,Op.operands,Do,Ae] at hok;obtain⟨c1,c2,c3,c4,c5⟩:=hc;have e3:=Ao c3;have e4:=Ao c4;have e5:=Ao c5;have e2:=Ao c2;subst e3;subst e5;rw [e4] at hH;have hone:xs[j].length=1:=hp.2 _ (List.getElem_mem hp.1);have hsp:ig xs[j] 0 [x]=[x]:=by
        unfold ig;match hx1:xs[j],hone with
        | [u],_=>rfl
       have:=op_storeP (k:=k) (te:=te) (pos:=pos) (af:=af) (g:=gd) (ty:=ty) (new:=[x]) hx hH hp.1 hy hok.2.1 rfl c1 (by rw [show Γ.cells te=1 from e2];rfl) rfl
       rw [hsp] at this;exact this.widen z
      ·cases h
     ·cases h
    ·cases h
   ·cases h
  | _=>cases h
theorem Models.same (m:Models Γ k L H e a w) {L':Sl} {H':Hp} (hL:∀ t,Sl.get L t=Sl.get L' t) (hH:∀ i,Hp.get H i=Hp.get H' i) (hn:(H'.map (·.1)).Nodup):Models Γ k L' H' e a w:=by
 have hmem:∀ p,p∈H'↔p∈H:=by
  intro p;constructor
  ·intro hp;have:=Hp.mem_get H' hn p hp
   rw [<- hH] at this;exact Hp.get_mem H p.1 p.2 this
  ·intro hp;have:=Hp.mem_get H m.ids p hp
   rw [hH] at this;exact Hp.get_mem H' p.1 p.2 this
 have hperm:H'.Perm H:=(List.perm_ext_iff_of_nodup (nc hn) (nc m.ids)).2 hmem;have hop:(ah e H').Perm (ah e H):=hperm.filterMap _;have hX:∀ b,Γ.X e H' b↔Γ.X e H b:=λb=>or_congr Iff.rfl (hop.mem_iff)
 refine⟨⟨m.top,λp hp=>⟨(m.heap p ((hmem p).1 hp)).1,?_⟩,hn,hop.nodup_iff.2 m.nodup,λb hb=>m.mine b (hop.mem_iff.1 hb),m.os,m.tape,m.output,m.drawn,m.size,m.block,m.obound,m.jle,m.anchor⟩,m.defers,m.len,λt=>?_⟩
 ·exact HRel.keep (Ah _) (λ_ _ _=>rfl) (λb _ h=>(hX b).1 h) p (λ_ _=>rfl) (m.heap p ((hmem p).1 hp)).2
 ·rw [<- hL];exact Rel.keep (Ah _) (λ_ _ _=>rfl) (λb _ h=>(hX b).1 h) _ _ (m.slot t)
end
structure FS where
 ℓ:Nat->SV
 η:Nat->Option HB
def FS.op (s:FS):Operand->SV
 | .tmp t=>s.ℓ t
 | .const v=>cSV v
 | .func f=>.fn f []
 | _=>.junk
def FS.put (s:FS):Option Nat->SV->FS
 | none,_=>s
 | some d,v=>⟨λt=>if d=t then v else s.ℓ t,s.η⟩
def FS.app (s:FS) (z:Nat) (dst:Option Nat) (v:SV) (u:Up):FS:=⟨(s.put dst v).ℓ,u.app z s.η⟩
def ofL (L:Sl) (H:Hp):FS:=⟨L.get,Hp.get H⟩
theorem jt (L:Sl) (H:Hp):(ofL L H).op=ap L:=by funext x;cases x<;>rfl
theorem l7 (L:Sl) (H:Hp) (dst:Option Nat) (v:SV):(ofL L H).put dst v=ofL (putL dst v L) H:=by
 cases dst with
 | none=>rfl
 | some d=>simp only [FS.put,ofL,putL,FS.mk.injEq,and_true];funext t;rw [Sl.get_cons]
section
variable {Γ : Ctx} {k : Nat -> Prop} {L : Sl} {H : Hp} {a : Act} {w : World} {e : Env} {t t' ty : TypeId} {x y : Operand}
theorem op_bs0 {d z te:TypeId} {pos:String} {af:Array Edge} {g:Option (Nat×Bool)} {es:Nat} (hz':¬ k z) (ht:Γ.sh t = .slice te) (hkn:(Γ.sh te).known=true) (hes:Γ.cells te=es) (hpos:Av 0 es=true) (hz:gk (aj Γ.τ te).zero=true) (hzl:Aw (aj Γ.τ te).zero.length (Γ.cells te)=true) (hd:Av d Γ.n=true) :
  OpOk Γ ⟨some d,.buildSlice t 0 #[],ty,pos,af,g⟩ k L H (mg k z) ((d,.row z)::L) ((z,.row te es [])::H):=by
 intro e a w Q m;have hze:¬ e.dom z:=λh=>hz' ((m.top z).1 h)
 obtain⟨vs',f2,f3,hrun⟩:=ql (ty:=ty) (len:=0) (ps:=[]) (cs':=[]) ht hkn hes hpos hz hzl rfl (by simp) (by simp [xu,qx,m9]) m;unfold Oper.wp;rw [hrun];have hv0:vs' = #[]:=by
  have:=RelL.length _ _ f2
  apply Array.toList_inj.1;exact List.eq_nil_of_length_eq_zero (by simpa using this.symm)
 subst hv0;have hη:(e.bindRow z (.slice (some ⟨w.heap.size,0,none⟩) 0 0)).η z = .slice (some ⟨w.heap.size,0,none⟩) 0 0:=if_pos rfl;have m2:=m.new hz' (hb:=.row te es []) (e':=e.bindRow z (.slice (some ⟨w.heap.size,0,none⟩) 0 0)) (w':=w.alloc (.cells #[] te)) (λi=>or_congr (m.top i) Iff.rfl) (e.bindRow_ext _ _ hze) (em Γ.dr _ _)
  (λb hb=>by simp only [HB.owned,hη,Value.ownBlock,Option.some.injEq] at hb;omega) (λhX=>by
   refine⟨[],⟨by simp,.inr ⟨w.heap.size,0,#[],by rw [hη];rfl,Ak _,heap_alloc_new w _,Ah _,Ak _,by simp,by simp⟩⟩,by simp,by simp,by simp⟩)
 exact⟨_,m2.put (s:=.row z) (v:=.slice (some ⟨w.heap.size,0,none⟩) 0 0) (Ab hd) ⟨.inr rfl,hη.symm,rfl⟩⟩
end
end
section
open Go Go.RowKit
def FnRow (dr:Bool) (P:Program) (τ:List (Nat×TI)) (τok:dz P τ) (f:FuncId) (args:List SV) (te:TypeId) (es:Nat) (R:List (List D)->Prop):Prop :=
 FnOk dr P τ τok f args 0 0 [] (λ_ r H2=>∃ ys,R ys/\r = .row 0/\H2=[(0,.row te es ys)])
theorem FnRow.use {dr:Bool} {P:Program} {τ:List (Nat×TI)} {τok:dz P τ} {Γ:Ctx} {k:Nat->Prop} {L:Sl} {H:Hp} {f:FuncId} {args:List SV} {te:TypeId} {es:Nat} {R:List (List D)->Prop} (hc:FnRow dr P τ τok f args te es R) {e:Env} {w:World} {a:Act} (m:Models Γ k L H e a w) (hlow:SV.lowL 0 args=true)
  (vs:List Value) (hr:RelL (Γ.X e H) e w args vs) (z:Nat) :
  Calls P f vs.toArray w (λen w'=>∃ ys v,R ys/\en = .returned v/\Beld dr w.heap.size w w'/\v.oneCell'=true/\(∀ b,v.ownBlock=some b->w.heap.size<=b) /\
   ∀ (X':Nat->Prop) (e':Env),e'.η z=v->(∀ b,X' b->Γ.X e H b∨v.ownBlock=some b)->HRel X' e' w' (z,.row te es ys)):=by
 have hO:∀ b,Γ.X e H b->b<w.heap.size:=λb hb=>hb.elim (λh=>A0 (m.obound b h).1 m.size) (m.lt b)
 have hX:∀ e' b,Ctx.X ⟨P,τ,τok,Γ.X e H,w,λb=>b∈ah (e.ren id 0) [],0,0,(e.ren id 0).an,none,dl,true,dr⟩ e' [] b↔Γ.X e H b:=by
  intro e' b;unfold Ctx.X;simp [ah]
 refine (hc.2 (Γ.X e H) (e.ren id 0) w vs ⟨λ_=>Iff.rfl,by simp,by simp,by simp [ah],by simp [ah],rfl,rfl,rfl,λ_=>Ah _,Ah _,λ_ _ _=>rfl,λb hb=>⟨hO b hb,by simp [ah]⟩,λj hj=>absurd hj (A9 j),λj hj=>absurd hj (A9 j)⟩ ?_).mono ?_
 ·exact RelL.keep (Ah _) (λ_ _ _=>rfl) (λb _ hy=>(hX _ b).1 hy) _ _ (RelL.env _ _ hlow hr)
 ·rintro en w' ⟨k',r,H',e',v,⟨ys,hR,rfl,rfl⟩,rfl,hH,hrel⟩;obtain⟨_,hv,hone⟩:=hrel;refine⟨ys,v,hR,rfl,⟨⟨hH.os,hH.tape,hH.output,hH.size,λb hb=>hH.block b hb (by simp [ah])⟩,hH.drawn⟩,hone,λb hb=>?_,λX' e3 hη hsub=>?_⟩
  ·have hown:b∈ah e' [(0,HB.row te es ys)]:=List.mem_filterMap.2 ⟨_,Ac ..,by show (e'.η 0).ownBlock=some b;rw [<- hv];exact hb⟩;rcases (hH.mine b hown).1 with h|h
   ·simp [ah] at h
   ·exact h
  ·have h0:=(hH.heap _ (Ac ..)).2;have h1:=HRel.keep (X:=_) (Y:=X') (Ah _) (λ_ _ _=>rfl) (λb _ hy=>(hsub b hy).imp id λhb=>List.mem_filterMap.2 ⟨_,Ac ..,by show (e'.η 0).ownBlock=some b;rw [<- hv];exact hb⟩) _ (λ_ _=>rfl) h0;obtain⟨vs2,q1,q2,q3,q4⟩:=h1;refine⟨vs2,?_,q2,q3,q4⟩
   rw [hη,hv];exact q1
end
section
open Go Go.RowKit
def FnTr (dr:Bool) (P:Program) (τ:List (Nat×TI)) (τok:dz P τ) (f:FuncId) (args:List SV) (te0:TypeId) (es0:Nat) (xs:List (List D)) (te:TypeId) (es:Nat) (R:List (List D)->Prop):Prop :=
 FnOk dr P τ τok f args 1 1 [(0,.row te0 es0 xs)] (λ_ r H2=>∃ ys,R ys/\r = .row 1/\H2=[(1,.row te es ys)])
theorem FnTr.use {dr:Bool} {P:Program} {τ:List (Nat×TI)} {τok:dz P τ} {Γ:Ctx} {k:Nat->Prop} {L:Sl} {H:Hp} {f:FuncId} {args:List SV} {te0 te:TypeId} {es0 es:Nat} {xs:List (List D)} {R:List (List D)->Prop} (hc:FnTr dr P τ τok f args te0 es0 xs te es R)
  {e:Env} {w:World} {a:Act} (m:Models Γ k L H e a w) {j:Nat} (hH:Hp.get H j=some (.row te0 es0 xs)) (hlow:SV.lowL 1 args=true) (vs:List Value) (hr:RelL (Γ.X e H) e w (SV.renL (λ_=>j) args) vs) (z:Nat) :
  Calls P f vs.toArray w (λen w'=>∃ ys v,R ys/\en = .returned v/\w.heap.size<=w'.heap.size/\w'.os=w.os/\w'.tape=w.tape/\w'.output=w.output/\(dr=true->w.drawn<=w'.drawn)/\v.oneCell'=true /\
   (∀ c,c<w.heap.size->HB.owned e (j,.row te0 es0 xs)≠some c->w'.heap[c]?=w.heap[c]?)/\(∀ b,v.ownBlock=some b->HB.owned e (j,.row te0 es0 xs)=some b∨w.heap.size<=b) /\
   ∀ (X':Nat->Prop) (e':Env),e'.η z=v->(∀ b,X' b->Γ.X e (Hp.del H j) b∨v.ownBlock=some b)->HRel X' e' w' (z,.row te es ys)):=by
 have hmem:=Hp.mem_of hH;obtain⟨_,hXd⟩:=m.del j;have hd:=Hp.del_mem (i:=j) H m.ids;let ec:=e.ren (λ_=>j) 1
 have hown:∀ b,b∈ah ec [(0,.row te0 es0 xs)]↔HB.owned e (j,.row te0 es0 xs)=some b:=by
  intro b;unfold ah;rw [Ep];constructor
  ·rintro⟨p,hp,ho⟩;rw [A1] at hp;subst hp;exact ho
  ·intro ho;exact⟨_,Ac ..,ho⟩
 have hownH:∀ b,HB.owned e (j,.row te0 es0 xs)=some b->b∈ah e H:=λb hb=>List.mem_filterMap.2 ⟨_,hmem,hb⟩
 have hno:∀ b,HB.owned e (j,.row te0 es0 xs)=some b->¬ Γ.X e (Hp.del H j) b:=by
  intro b hb hx;rcases hx with hx|hx
  ·exact (m.mine b (hownH b hb)).2 hx
  ·obtain⟨p,hp,hpb⟩:=List.mem_filterMap.1 hx;exact m.owned_ne (hd p hp).1 hmem (hd p hp).2 hpb hb
 have hO:∀ b,Γ.X e (Hp.del H j) b->b<w.heap.size:=λb hb=>(hXd b hb).elim (λh=>A0 (m.obound b h).1 m.size) (m.lt b)
 have hX:∀ b,Ctx.X ⟨P,τ,τok,Γ.X e (Hp.del H j),w,λb=>b∈ah ec [(0,.row te0 es0 xs)],0,1,ec.an,none,dl,true,dr⟩ ec [(0,.row te0 es0 xs)] b->Γ.X e H b:=by
  intro b hb;rcases hb with hb|hb
  ·exact hXd b hb
  ·exact .inr (hownH b ((hown b).1 hb))
 refine (hc.2 (Γ.X e (Hp.del H j)) ec w vs ⟨λ_=>Iff.rfl,λp hp=>?_,by simp,?_,λb hb=>⟨.inl hb,hno b ((hown b).1 hb)⟩,rfl,rfl,rfl,λ_=>Ah _,Ah _,λ_ _ _=>rfl,λb hb=>⟨hO b hb,λh=>hno b ((hown b).1 h) hb⟩,λi hi=>hi,λ_ _=>rfl⟩ ?_).mono ?_
 ·rw [A1] at hp;subst hp;refine⟨Gm,?_⟩
  exact HRel.keep (e:=e) (Ah _) (λ_ _ _=>rfl) (λb _ h=>hX b h) (j,.row te0 es0 xs) (λ_ _=>rfl) (m.heap _ hmem).2
 ·unfold ah;rw [Bn];split<;>simp
 ·exact RelL.keep (Ah _) (λ_ _ _=>rfl) (λb _ h=>hX b h) _ _ (RelL.ren _ 1 _ _ hlow hr)
 ·rintro en w' ⟨k',r,H',e',v,⟨ys,hR,rfl,rfl⟩,rfl,hH',hrel⟩;obtain⟨_,hv,hone⟩:=hrel;have hb:∀ b,v.ownBlock=some b->b∈ah e' [(1,HB.row te es ys)]:=λb hb=>List.mem_filterMap.2 ⟨_,Ac ..,by show (e'.η 1).ownBlock=some b;rw [<- hv];exact hb⟩
  refine⟨ys,v,hR,rfl,hH'.size,hH'.os,hH'.tape,hH'.output,hH'.drawn,hone,λc hc hne=>hH'.block c hc λh=>hne ((hown c).1 h),λb hvb=>?_,λX' e3 hη hsub=>?_⟩
  ·exact ((hH'.mine b (hb b hvb)).1).imp (λh=>(hown b).1 h) id
  ·have h0:=(hH'.heap _ (Ac ..)).2;have h1:=HRel.keep (X:=_) (Y:=X') (Ah _) (λ_ _ _=>rfl) (λb _ hy=>(hsub b hy).imp id λhvb=>hb b hvb) _ (λ_ _=>rfl) h0;obtain⟨vs2,q1,q2,q3,q4⟩:=h1;refine⟨vs2,?_,q2,q3,q4⟩
   rw [hη,hv];exact q1
theorem Hp.mem_delB {i:Nat}:∀ {H:Hp} {p:Nat×HB},p∈H->p.1≠i->p∈Hp.del H i
 | [],_,h,_=>by simp at h
 | (d,s)::H,p,hp,hne=>by
  simp only [Hp.del]
  cases hb:Aw d i with
  | true =>
   have:=Ao hb
   rcases List.mem_cons.1 hp with rfl|hp'
   ·exact absurd this hne
   ·exact hp'
  | false =>
   rcases List.mem_cons.1 hp with rfl|hp'
   ·exact Ac ..
   ·exact List.mem_cons_of_mem _ (Hp.mem_delB hp' hne)
def FnBl (dr:Bool) (P:Program) (τ:List (Nat×TI)) (τok:dz P τ) (f:FuncId) (args:List SV) (ty:TypeId) (cs:List SV) (R:SV->List SV->Prop):Prop :=
 FnOk dr P τ τok f args 1 1 [(0,.blk ty cs)] (λ_ r H2=>∃ cs',R r cs'/\r.low 0=true/\SV.lowL 0 cs'=true/\H2=[(0,.blk ty cs')])
theorem FnBl.use {dr:Bool} {P:Program} {τ:List (Nat×TI)} {τok:dz P τ} {Γ:Ctx} {k:Nat->Prop} {L:Sl} {H:Hp} {f:FuncId} {args:List SV} {ty:TypeId} {cs:List SV} {R:SV->List SV->Prop} (hc:FnBl dr P τ τok f args ty cs R)
  {e:Env} {w:World} {a:Act} (m:Models Γ k L H e a w) {j:Nat} (hH:Hp.get H j=some (.blk ty cs)) (hcs:SV.lowL 0 cs=true) (hlow:SV.lowL 1 args=true) (vs:List Value) (hr:RelL (Γ.X e H) e w (SV.renL (λ_=>j) args) vs) :
  Calls P f vs.toArray w (λen w'=>∃ r cs' v,R r cs'/\en = .returned v/\w.heap.size<=w'.heap.size/\w'.os=w.os/\w'.tape=w.tape/\w'.output=w.output/\(dr=true->w.drawn<=w'.drawn) /\
   (∀ c,c<w.heap.size->HB.owned e (j,.blk ty cs)≠some c->w'.heap[c]?=w.heap[c]?)/\HRel (Γ.X e H) e w' (j,.blk ty cs')/\Rel (Γ.X e H) e w' r v):=by
 have hmem:=Hp.mem_of hH;obtain⟨_,hXd⟩:=m.del j;have hd:=Hp.del_mem (i:=j) H m.ids;let ec:=e.ren (λ_=>j) 1
 have hown:∀ b,b∈ah ec [(0,.blk ty cs)]↔HB.owned e (j,.blk ty cs)=some b:=by
  intro b;unfold ah;rw [Ep];constructor
  ·rintro⟨p,hp,ho⟩;rw [A1] at hp;subst hp;exact ho
  ·intro ho;exact⟨_,Ac ..,ho⟩
 have hownH:∀ b,HB.owned e (j,.blk ty cs)=some b->b∈ah e H:=λb hb=>List.mem_filterMap.2 ⟨_,hmem,hb⟩
 have hno:∀ b,HB.owned e (j,.blk ty cs)=some b->¬ Γ.X e (Hp.del H j) b:=by
  intro b hb hx;rcases hx with hx|hx
  ·exact (m.mine b (hownH b hb)).2 hx
  ·obtain⟨p,hp,hpb⟩:=List.mem_filterMap.1 hx;exact m.owned_ne (hd p hp).1 hmem (hd p hp).2 hpb hb
 have hO:∀ b,Γ.X e (Hp.del H j) b->b<w.heap.size:=λb hb=>(hXd b hb).elim (λh=>A0 (m.obound b h).1 m.size) (m.lt b)
 have hX:∀ b,Ctx.X ⟨P,τ,τok,Γ.X e (Hp.del H j),w,λb=>b∈ah ec [(0,.blk ty cs)],0,1,ec.an,none,dl,true,dr⟩ ec [(0,.blk ty cs)] b->Γ.X e H b:=by
  intro b hb;rcases hb with hb|hb
  ·exact hXd b hb
  ·exact .inr (hownH b ((hown b).1 hb))
 refine (hc.2 (Γ.X e (Hp.del H j)) ec w vs ⟨λ_=>Iff.rfl,λp hp=>?_,by simp,?_,λb hb=>⟨.inl hb,hno b ((hown b).1 hb)⟩,rfl,rfl,rfl,λ_=>Ah _,Ah _,λ_ _ _=>rfl,λb hb=>⟨hO b hb,λh=>hno b ((hown b).1 h) hb⟩,λi hi=>hi,λ_ _=>rfl⟩ ?_).mono ?_
 ·rw [A1] at hp;subst hp;refine⟨Gm,?_⟩
  obtain⟨vs0,h1,h2,h3⟩:=HRel.keep (e:=e) (Ah _) (λ_ _ _=>rfl) (λb _ h=>hX b h) (j,.blk ty cs) (λ_ _=>rfl) (m.heap _ hmem).2;exact⟨vs0,h1,RelL.env _ _ hcs h2,h3⟩
 ·unfold ah;rw [Bn];split<;>simp
 ·exact RelL.keep (Ah _) (λ_ _ _=>rfl) (λb _ h=>hX b h) _ _ (RelL.ren _ 1 _ _ hlow hr)
 ·rintro en w' ⟨k',r,H',e',v,⟨cs',hR,hlr,hlc,rfl⟩,rfl,hH',hrel⟩;have hβ:e'.β 0=e.β j:=Env.an_β (hH'.anchor 0 Gm);have hXb:∀ b,Γ.X e H b->Ctx.X ⟨P,τ,τok,Γ.X e (Hp.del H j),w,λb=>b∈ah ec [(0,.blk ty cs)],0,1,ec.an,none,dl,true,dr⟩ e' [(0,.blk ty cs')] b:=by
   intro b hb;rcases hb with hb|hb
   ·exact .inl (.inl hb)
   ·obtain⟨p,hp,hpb⟩:=List.mem_filterMap.1 hb;by_cases hpj:p.1=j
    ·refine .inr (List.mem_filterMap.2 ⟨_,Ac ..,?_⟩);have:p=(j,.blk ty cs):=by
      have:=Hp.mem_get H m.ids p hp
      rw [hpj,hH] at this;exact Prod.ext hpj (Option.some.inj this).symm
     subst this;show some (e'.β 0)=some b;rw [hβ];exact hpb
    ·exact .inl (.inr (List.mem_filterMap.2 ⟨p,Hp.mem_delB hp hpj,hpb⟩))
  refine⟨r,cs',v,hR,rfl,hH'.size,hH'.os,hH'.tape,hH'.output,hH'.drawn,λc hc hne=>hH'.block c hc λh=>hne ((hown c).1 h),?_,?_⟩
  ·obtain⟨vs0,h1,h2,h3⟩:=(hH'.heap _ (Ac ..)).2;exact⟨vs0,hβ▸h1,RelL.keep (Ah _) (λ_ _ _=>rfl) (λb _ hy=>hXb b hy) _ _ (RelL.env _ _ hlc h2),h3⟩
  ·exact Rel.keep (Ah _) (λ_ _ _=>rfl) (λb _ hy=>hXb b hy) _ _ (Rel.env _ _ hlr hrel)
end
end Go.Proofs.YtapciiffpnociadGreat
