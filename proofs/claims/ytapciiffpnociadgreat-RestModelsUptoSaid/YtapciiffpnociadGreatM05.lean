/- Several texts in one: GxMk GxUp GxFw GxFt GxAny. Condition: none. -/
import Derived.Test.YtapciiffpnociadGreatM04
import Derived.Laws.MakeOwn
import Derived.Laws.OwnMore
set_option linter.all false
open Array renaming length_toList→A4
open Bool renaming and_eq_true→Ad
open List renaming all_cons→Dp,append_assoc→Bt,filterMap_cons→Bf,flatMap_def→Hf,getElem?_append_left→Bi,getElem?_append_right→A8,getElem?_eq_getElem→Ab,getElem?_take→Br,getElem_set→He,length_set→A3,length_take→Au,map_congr_left→Df,mem_append_left→A0,mem_append_right→B7,mem_cons→Be,mem_cons_of_mem→Ah,mem_cons_self→Ae,mem_filterMap→Eo,mem_singleton→A5,replicate→An
open Nat renaming add_mul→B4,beq→Aw,blt→As,eq_of_beq_eq_true→Aj,le_of_ble_eq_true→Ac,le_refl→Af,lt_of_lt_of_le→Aq,mul_le_mul_right→Bc,ne_of_beq_eq_false→Bj,not_lt_zero→A6,zero_le→Ai,zero_lt_one→Gg
namespace Go.Proofs.YtapciiffpnociadGreat
section
open Go Go.RowKit
variable [Bnds]
section
variable {Γ : Ctx} {k : Nat -> Prop} {L : Sl} {H : Hp} {K : ca} {ops : List Oper} {rest : List Oper} {a : Act} {w : World} {e : Env} {t t' ty : TypeId} {x y : Operand}
def dcellsL:List SV->Option (List D)
 | []=>some []
 | .d x::l=>match dcellsL l with
  | some xs=>some (x::xs)
  | none=>none
 | _::_=>none
def dcells:SV->Option (List D)
 | .d x=>some [x]
 | .agg ss=>dcellsL ss
 | _=>none
theorem dcellsL_spec {X e w}:∀ {ss:List SV} {vs:List Value} {ds:List D},dcellsL ss=some ds->RelL X e w ss vs->vs.length=ds.length/\(∀ u∈vs,u.oneCell'=true)/\∀ q (hq:q<ds.length),∃ u,vs[q]?=some u/\RepC X w u ds[q]
 | [],[],ds,h,_=>by cases h;exact⟨rfl,by simp,λq hq=>absurd hq (A6 q)⟩
 | [],_::_,_,_,h=>h.elim
 | _::_,[],_,_,h=>h.elim
 | s::ss,v::vs,ds,h,⟨h1,h2⟩=>by
  cases s with
  | d x =>
   simp only [dcellsL] at h
   split at h
   ·rename_i xs hx
    cases h
    obtain⟨g1,g2,g3⟩:=dcellsL_spec hx h2
    refine⟨by simp [g1],λu hu=>?_,λq hq=>?_⟩
    ·rcases List.mem_cons.1 hu with rfl|hu
     ·exact (RepC.one h1).1
     ·exact g2 u hu
    ·cases q with
     | zero=>exact⟨v,rfl,h1⟩
     | succ q=>simpa using g3 q (by simpa using hq)
   ·cases h
  | _=>cases h
theorem dcells_spec {X e w} {s:SV} {v:Value} {ds:List D} (h:dcells s=some ds) (hr:Rel X e w s v):v.cells.toList.length=ds.length/\(∀ u∈v.cells.toList,u.oneCell'=true)/\∀ q (hq:q<ds.length),∃ u,v.cells.toList[q]?=some u/\RepC X w u ds[q]:=by
 cases s with
 | d x =>
  cases h;have hr:RepC X w v x:=hr;rw [show v.cells.toList=[v] by rw [(RepC.one hr).2]];refine⟨rfl,λu hu=>?_,λq hq=>?_⟩
  ·rw [List.mem_singleton.1 hu];exact (RepC.one hr).1
  ·have:q=0:=by simp at hq;omega
   subst this;exact⟨v,rfl,hr⟩
 | agg ss =>
  obtain⟨vs,rfl,h2⟩:=hr;have:=dcellsL_spec h h2
  simpa [Value.cells] using this
 | _=>cases h
def gx (ds:List D) (o:Nat) (new:List D):List D:=ds.take o++new++ds.drop (o+new.length)
theorem spliceD_len {ds new:List D} {o:Nat} (h:o+new.length<=ds.length):(gx ds o new).length=ds.length:=by
 unfold gx;simp;omega
theorem mul_lt_row {i j es q:Nat} (h:i<j) (hq:q<es):i*es+q<j*es:=by
 have h1:(i+1)*es<=j*es:=Bc _ h;rw [B4] at h1;omega
theorem tn {α:Type} (vs new:List α) (o p:Nat) (h:o+new.length<=vs.length):(vs.take o++new++vs.drop (o+new.length))[p]?=if p<o then vs[p]? else if p<o+new.length then new[p-o]? else vs[p]?:=by
 have ht:(vs.take o).length=o:=by simp;omega
 by_cases h1:p<o
 ·rw [if_pos h1,Bt,Bi (by omega),Br,if_pos h1]
 ·rw [if_neg h1,Bt,A8 (by omega),ht];by_cases h2:p<o+new.length
  ·rw [if_pos h2,Bi (by omega)]
  ·rw [if_neg h2,A8 (by omega),List.getElem?_drop];congr 1;omega
theorem op_storeP {te tb:TypeId} {pos:String} {af:Array Edge} {g:Option (Nat×Bool)} {i j es o:Nat} {xs:List (List D)} {s:SV} {new:List D} (hx:ai L x = .prow i j es o) (hH:Hp.get H i=some (.row tb es xs)) (hj:j<xs.length)
  (hy:ai L y=s) (hyo:de y=true) (hd:dcells s=some new) (hkn:(Γ.sh te).known=true) (hn:Aw new.length (Γ.cells te)=true) (hle:Nat.ble (o+new.length) es=true) :
  OpOk Γ ⟨none,.store te x y,ty,pos,af,g⟩ k L H k L (Hp.set H i (.row tb es (xs.set j (gx xs[j] o new)))):=by
 intro e a w Q m;obtain⟨inf,z,hi,_,hs,_⟩:=Ctx.info (Sh.known_ne hkn);obtain⟨_,g0,n0,cap0,hη,hp⟩:=evT m hx (yb · _ _ _ _);have hr:=m.op y (b7 hyo);rw [hy] at hr;obtain⟨c1,c2,c3⟩:=dcells_spec hd hr;have hmem:=Hp.mem_of hH;obtain⟨vs,ho,hes,hone,hrep⟩:=(m.heap _ hmem).2;have hle':=Ac hle;have hn':=Aj hn;rcases ho.2 with ⟨h2,h3⟩|⟨g',cap',cur,h2,hb0,hg,hnc,hcm,hcs,htake⟩
 ·omega
 rw [hη] at h2;cases h2;generalize hN:(a.eval y).cells.toList=N at c1 c2 c3;have hlen:vs.length=xs.length*es:=ho.1;have hjr:j*es+o+N.length<=xs.length*es:=by
  have h1:(j+1)*es<=xs.length*es:=Bc _ hj;rw [B4] at h1;omega
 have hcl:xs.length*es<=cur.toList.length:=by
  rw [<- hlen,<- htake,Au];exact Nat.min_le_right _ _
 have hst:=run_storeCells_at Γ.P g0 (j*es+o) tb N 0 cur w hg (by rw [<- A4];omega) c2;have hrun:(execOp a.eval ⟨none,.store te x y,ty,pos,af,g⟩).run Γ.P w = .ok .skip (w.setRow g0 (cur.toList.take (j*es+o)++N++cur.toList.drop (j*es+o+N.length)).toArray):=by
  have hsz:(a.eval y).cells.size=inf.size:=by rw [<- A4,hN,c1,hn',hs]
  rw [<- hN] at hst ⊢;simp only [execOp,Instr.storeAt,hp,Instr.sureAddr];simp [storeVar,cw hi,hsz,hst]
 unfold Oper.wp;rw [hrun];have hown:HB.owned e (i,.row tb es xs)=some g0:=by simp [HB.owned,hη,Value.ownBlock]
 refine⟨e,m.turn (b':=.row tb es (xs.set j (gx xs[j] o new))) hH ?_ rfl rfl rfl (λ_=>Af _) (λc _ hc=>setRow_other w _ c _ (λh=>hc (by rw [hown,h]))) rfl ?_⟩
 ·simp [World.setRow]
 ·have hset:(vs.take (j*es+o)++N++vs.drop (j*es+o+N.length)).length=xs.length*es:=by simp;omega
  have hgo:(w.setRow g0 (cur.toList.take (j*es+o)++N++cur.toList.drop (j*es+o+N.length)).toArray).heap[g0]?=some (.cells (cur.toList.take (j*es+o)++N++cur.toList.drop (j*es+o+N.length)).toArray tb (0,0)):=setRow_heap w g0 cur _ tb (0,0) hg;have hkeep:∀ b,b<w.heap.size->¬ Γ.X e H b->(w.setRow g0 (cur.toList.take (j*es+o)++N++cur.toList.drop (j*es+o+N.length)).toArray).heap[b]?=w.heap[b]?:=λb _ hb=>setRow_other w _ b _ (λh=>hb (.inr (List.mem_filterMap.2 ⟨_,hmem,by rw [hown,h]⟩)))
  have hj0:xs[j].length=es:=hes j hj;refine⟨vs.take (j*es+o)++N++vs.drop (j*es+o+N.length),⟨by rw [hset,A3],.inr ⟨g0,_,_,?_,hb0,hgo,?_,hcm,?_,?_⟩⟩,λi' h'=>?_,λv hv=>?_,λi' h' q hq=>?_⟩
  ·rw [A3];exact hη
  ·rw [A3];exact hnc
  ·rw [<- hcs];simp only [List.size_toArray,List.length_append,Au,List.length_drop,A4];have hcl2:cur.toList.length=cur.size:=A4;omega
  ·rw [A3];apply List.ext_getElem?;intro p;rw [Br];by_cases hp':p<xs.length*es
   ·rw [if_pos hp',tn _ _ _ _ (by omega),tn _ _ _ _ (by omega)];have hcv:cur.toList[p]?=vs[p]?:=by rw [<- htake,Br,if_pos hp']
    rw [hcv]
   ·rw [if_neg hp',List.getElem?_eq_none (by omega)]
  ·rw [He];split
   ·rw [spliceD_len (by omega)];exact hj0
   ·exact hes i' (by simpa using h')
  ·simp only [List.mem_append] at hv;rcases hv with (hv|hv)|hv
   ·exact hone v (List.mem_of_mem_take hv)
   ·exact c2 v hv
   ·exact hone v (List.mem_of_mem_drop hv)
  ·have hi':i'<xs.length:=by simpa using h'
   rw [tn _ _ _ _ (by omega)];have old:∀ (hq:q<xs[i'].length),∃ v,vs[i'*es+q]?=some v/\RepC (Γ.X e H) (w.setRow g0 (cur.toList.take (j*es+o)++N++cur.toList.drop (j*es+o+N.length)).toArray) v (xs[i'][q]'hq):=λhq=>by
    obtain⟨v,p1,p2⟩:=hrep i' hi' q hq;exact⟨v,p1,RepC.keep (by simp [World.setRow]) hkeep (λ_ _ h=>h) p2⟩
   have hei:=hes i' hi';by_cases hij:i'=j
   ·subst hij;have hsl:gx xs[i'] o new=(xs.set i' (gx xs[i'] o new))[i']:=by simp
    have hq0:q<(gx xs[i'] o new).length:=by rw [hsl];exact hq
    have hq':q<es:=by rw [spliceD_len (by omega)] at hq0;omega
    have hg':=tn xs[i'] new o q (by omega);have hgq:(xs[i'].take o++new++xs[i'].drop (o+new.length))[q]?=some ((xs.set i' (gx xs[i'] o new))[i'][q]):=by
     have h9:=Ab hq0;simp only [List.getElem_set_self];exact h9
    rw [hg'] at hgq;by_cases q1:q<o
    ·rw [if_pos q1] at hgq;rw [if_pos (by omega)];obtain⟨v,p1,p2⟩:=old (by omega);rw [Ab (by omega)] at hgq;injection hgq with hgq
     exact⟨v,p1,hgq▸p2⟩
    ·rw [if_neg q1] at hgq;rw [if_neg (by omega)];by_cases q2:q<o+new.length
     ·rw [if_pos q2] at hgq;rw [if_pos (by omega),show i'*es+q-(i'*es+o)=q-o by omega];obtain⟨u,u1,u2⟩:=c3 (q-o) (by omega);rw [Ab (by omega)] at hgq;injection hgq with hgq
      exact⟨u,u1,hgq▸RepC.keep (by simp [World.setRow]) hkeep (λ_ _ h=>h) u2⟩
     ·rw [if_neg q2] at hgq;rw [if_neg (by omega)];obtain⟨v,p1,p2⟩:=old (by omega);rw [Ab (by omega)] at hgq;injection hgq with hgq
      exact⟨v,p1,hgq▸p2⟩
   ·have hsx:(xs.set j (gx xs[j] o new))[i']=xs[i']:=by rw [He,if_neg (λh=>hij h.symm)]
    have hq':q<xs[i'].length:=by rw [<- hsx];exact hq
    obtain⟨v,p1,p2⟩:=old hq';have hv:(xs.set j (gx xs[j] o new))[i'][q]=xs[i'][q]:=by simp only [hsx]
    rw [hv];rcases Nat.lt_or_gt_of_ne hij with h1|h1
    ·have:=mul_lt_row (es:=es) (q:=q) h1 (by omega)
     rw [if_pos (by omega)];exact⟨v,p1,p2⟩
    ·have:=mul_lt_row (es:=es) (q:=o+N.length-1) h1
     have h4:(j+1)*es<=i'*es:=Bc _ h1;rw [B4] at h4;rw [if_neg (by omega),if_neg (by omega)];exact⟨v,p1,p2⟩
theorem op_mk {d z n:Nat} {te:TypeId} {pos:String} {af:Array Edge} {g:Option (Nat×Bool)} {x y:Operand} {m':Int} {v0:Value} {x0:D} (hz':¬ k z) (ht:Γ.sh t = .slice te) (hkn:(Γ.sh te).known=true) (hes:Γ.cells te=1) (hzero:(aj Γ.τ te).zero=[v0]) (hx0:cSV v0 = .d x0) (hzok:ek (aj Γ.τ te).zero=true)
  (hx:ai L x = .d (.int .i64 m')) (hy:ai L y = .d (.int .i64 m')) (hn:m'=(n:Int)) (hroom:(aj Γ.τ te).bytes*n<=281474976710656) (hmax:n<=maxLen) (hd:As d Γ.n=true) :
  OpOk Γ ⟨some d,.makeSlice t x y,ty,pos,af,g⟩ k L H (m5 k z) ((d,.row z)::L) ((z,.row te 1 (An n [x0]))::H):=by
 subst hn;intro e a w Q m;have hze:¬ e.dom z:=λh=>hz' ((m.top z).1 h)
 obtain⟨inf,zv,hi,hzz,hs,hb,hzc⟩:=Ctx.info (Sh.known_ne hkn);have hzcells:zv.cells = #[v0]:=by
  apply Array.toList_inj.1;rw [hzc,hzero]
 have hbytes:(inf.bytes:Int)*(n:Int)<=281474976710656:=by
  have h:((inf.bytes*n:Nat):Int)<=281474976710656:=by rw [hb];omega
  rwa [Int.natCast_mul] at h
 have hrun:=run_make (P:=Γ.P) w t te inf zv (Ctx.slice ht) hi hzz .i64 .i64 (n:Int) n (by omega) (Int.le_refl _) hbytes (by unfold maxLen at hmax;omega);rw [hs,hes,Nat.mul_one,hzcells,Int.toNat_natCast] at hrun;have hop:(execOp a.eval ⟨some d,.makeSlice t x y,ty,pos,af,g⟩).run Γ.P w = .ok (.value (.slice (some ⟨w.heap.size,0,none⟩) n n)) (w.alloc (.cells (madeCells #[v0] n) te)):=by
  simp [execOp,evI m hx,evI m hy,hrun]
 unfold Oper.wp;rw [hop];have hη:(e.bindRow z (.slice (some ⟨w.heap.size,0,none⟩) n n)).η z = .slice (some ⟨w.heap.size,0,none⟩) n n:=if_pos rfl;obtain⟨hz1,hz2⟩:=fg (X:=Γ.X e H) (e:=e) (w:=w) _ hzok;rw [hzero] at hz1 hz2;have hone:v0.oneCell'=true:=hz2 v0 (List.mem_singleton.2 rfl);have hrep:RepC (Γ.X e H) w v0 x0:=by
  have h1:=hz1.1;rw [hx0] at h1;exact h1
 have m2:=m.new hz' (hb:=.row te 1 (An n [x0])) (e':=e.bindRow z (.slice (some ⟨w.heap.size,0,none⟩) n n)) (w':=w.alloc (.cells (madeCells #[v0] n) te)) (λi=>or_congr (m.top i) Iff.rfl) (e.bindRow_ext _ _ hze) (fi Γ.dr _ _)
  (λb hb=>by simp only [HB.owned,hη,Value.ownBlock,Option.some.injEq] at hb;omega) (λhX=>by
   refine⟨An n v0,⟨by simp,.inr ⟨w.heap.size,n,_,by rw [hη,List.length_replicate],Ai _,heap_alloc_new w _,by simp,hmax,by simp [size_madeCells],by rw [toList_madeCells_one];simp⟩⟩,λi h=>by simp,λv hv=>?_,λi h j hj=>?_⟩
   ·rw [(List.mem_replicate.1 hv).2];exact hone
   ·have hj0:j=0:=by simp at hj;omega
    subst hj0;have hin:i<n:=by simpa using h
    refine⟨v0,by simp [hin],?_⟩
    simp only [List.getElem_replicate,List.getElem_cons_zero];exact RepC.keep (fi Γ.dr _ _).size (λb hb _=>(fi Γ.dr _ _).block b hb) (λb hb hx=>hX b hb hx) hrep)
 exact⟨_,m2.put (s:=.row z) (v:=.slice (some ⟨w.heap.size,0,none⟩) n n) (Ac hd) ⟨.inr rfl,hη.symm,rfl⟩⟩
end
end
section
open Go Go.RowKit
variable [Bnds]
inductive Up where
 | no
 | new (b:HB)
 | set (i:Nat) (b:HB)
 | trade (i:Nat) (b:HB)
 | del (i:Nat)
def Up.okD (dr:Bool):Up->Prop
 | .trade _ _=>dr=false
 | _=>True
def fset (η:Nat->Option HB) (i:Nat) (b:Option HB):Nat->Option HB:=λj=>if i=j then b else η j
def Up.app (z:Nat):Up->(Nat->Option HB)->(Nat->Option HB)
 | .no,η=>η
 | .new b,η=>fset η z (some b)
 | .set i b,η=>fset η i (some b)
 | .trade i b,η=>fset (fset η i none) z (some b)
 | .del i,η=>fset η i none
def Up.appL (z:Nat):Up->Hp->Hp
 | .no,H=>H
 | .new b,H=>(z,b)::H
 | .set i b,H=>Hp.set H i b
 | .trade i b,H=>(z,b)::Hp.del H i
 | .del i,H=>Hp.del H i
def Up.names (z:Nat):Up->List Nat
 | .no=>[]
 | .new _=>[z]
 | .set i _=>[i]
 | .trade i _=>[i,z]
 | .del i=>[i]
def yf (τ:List (Nat×TI)) (t:TypeId) (a b:SV) (η:Nat->Option HB) (z:Nat):Option (Prop×SV×Up):=match (aj τ t).sh with
 | .slice te=>match (aj τ te).sh.known && (As 0 (aj τ te).cells && Aw (aj τ te).zero.length (aj τ te).cells) with
  | true=>match a,b with
   | .row i,.d (.slice es ys)=>match η i with
    | some (.row te' es' xs)=>match Aw te' te && (Aw es' (aj τ te).cells && Aw es (aj τ te).cells) with
     | true=>some ((xs.length+ys.length)*(aj τ te).bytes<=140737488355328/\xs.length+ys.length<=maxLen,.row z,.trade i (.row te (aj τ te).cells (xs++ys)))
     | false=>none
    | _=>none
   | _,_=>none
  | false=>none
 | _=>none
def appendC (τ:List (Nat×TI)) (t:TypeId) (a b:SV) (η:Nat->Option HB) (z:Nat):Option (Prop×SV×Up):=match (aj τ t).sh with
 | .slice te=>match aj τ te with
  | ⟨sh,cells,bytes,zero,_⟩=>match sh.known && (As 0 cells && Aw zero.length cells) with
   | true=>match a,b with
    | .row i,.d (.slice es ys)=>match η i with
     | some (.row te' es' xs)=>match Aw te' te && (Aw es' cells && Aw es cells) with
      | true=>some ((xs.length+ys.length)*bytes<=140737488355328/\xs.length+ys.length<=maxLen,.row z,.trade i (.row te cells (xs++ys)))
      | false=>none
     | _=>none
    | _,_=>none
   | false=>none
 | _=>none
theorem va (τ:List (Nat×TI)) (t:TypeId) (a b:SV) (η:Nat->Option HB) (z:Nat):appendC τ t a b η z=yf τ t a b η z:=by
 unfold appendC yf;cases (aj τ t).sh with
 | slice te =>
  generalize aj τ te=ti;cases ti;rfl
 | _=>rfl
def du (τ:List (Nat×TI)) (g:Operand->SV) (t:TypeId) (len:Nat) (ps:List (Nat×Operand)):Option (Prop×SV×Up):=match (aj τ t).sh with
 | .slice te=>match (aj τ te).sh.known && (As 0 (aj τ te).cells && (ek (aj τ te).zero && (Aw (aj τ te).zero.length (aj τ te).cells && Nat.ble (len*(aj τ te).cells) 16777216))) with
  | true=>match nk (λi=>some (i*(aj τ te).cells,(aj τ te).cells)) (qt (ly τ te) (len*(aj τ te).cells)) (ps.map λp=>(p.1,g p.2)) with
   | some cs=>match Aw cs.length (len*(aj τ te).cells) with
    | true=>match rowsOf (cellEs τ 4 te) (aj τ te).cells len cs with
     | some xs=>some (True,.d (.slice (aj τ te).cells xs),.no)
     | none=>none
    | false=>none
   | none=>none
  | false=>none
 | _=>none
def rowsS:SV->List Nat
 | .row i=>[i]
 | _=>[]
def rowsA:SV->List Nat
 | .agg ss=>ss.flatMap rowsS
 | s=>rowsS s
def sealS (i es:Nat) (xs:List (List D)):SV->SV
 | .row j=>match Aw j i with|true=>.d (.slice es xs)|false=>.row j
 | s=>s
def ve (i es:Nat) (xs:List (List D)):SV->SV
 | .agg ss=>.agg (ss.map (sealS i es xs))
 | s=>sealS i es xs s
def mv (τ:List (Nat×TI)) (g:Operand->SV) (η:Nat->Option HB) (t:TypeId) (len:Nat) (ps:List (Nat×Operand)):Option (Prop×SV×Up):=match ps.flatMap λp=>rowsA (g p.2) with
 | []=>du τ g t len ps
 | [i]=>match η i with
  | some (.row _ es xs)=>match du τ (λx=>ve i es xs (g x)) t len ps with
   | some (p,s,.no)=>some (p,s,.del i)
   | _=>none
  | _=>none
 | _=>none
def qf (τ:List (Nat×TI)) (te:TypeId) (a b:SV) (η:Nat->Option HB):Option (Prop×SV×Up):=match a with
 | .loc i o=>match η i with
  | some (.blk tb cs)=>match b.isVar && ((aj τ te).sh.known && (Aw b.cells.length (aj τ te).cells && Nat.ble (o+b.cells.length) cs.length)) with
   | true=>qx (fm cs o b.cells) λl=>some (True,.tup [],.set i (.blk tb l))
   | false=>none
  | _=>none
 | .prow i j es o=>match η i with
  | some (.row tb es' xs)=>match b with
   | .d x=>match (aj τ te).sh.known && (Aw (aj τ te).cells 1 && (Aw es 1 && (Aw es' 1 && Aw o 0))) with
    | true=>some (j<xs.length/\(∀ y∈xs,y.length=1),.tup [],.set i (.row tb 1 (xs.set j [x])))
    | false=>none
   | _=>none
  | _=>none
 | _=>none
def makeC (τ:List (Nat×TI)) (t:TypeId) (a b:SV) (z:Nat):Option (Prop×SV×Up):=match (aj τ t).sh with
 | .slice te=>match (aj τ te).sh.known && (Aw (aj τ te).cells 1 && ek (aj τ te).zero) with
  | true=>match (aj τ te).zero with
   | [v0]=>match cSV v0 with
    | .d x0=>match a,b with
     | .d (.int .i64 n),.d (.int .i64 m)=>some (n=m/\0<=n/\(aj τ te).bytes*n.toNat<=281474976710656/\n.toNat<=maxLen,.row z,.new (.row te 1 (An n.toNat [x0])))
     | _,_=>none
    | _=>none
   | _=>none
  | false=>none
 | _=>none
def mc (τ:List (Nat×TI)) (g:Operand->SV) (η:Nat->Option HB) (z:Nat):Op->Option (Prop×SV×Up)
 | .alloc te=>match (aj τ te).sh.known && ek (aj τ te).zero with
  | true=>qx (ly τ te) λl=>some (True,.loc z 0,.new (.blk te l))
  | false=>none
 | .box te x=>match (g x).isVar with
  | true=>qx (g x).cells λl=>some (True,.loc z 0,.new (.blk te l))
  | false=>none
 | .buildSlice t len ps=>mv τ g η t len ps.toList
 | .makeSlice t x y=>makeC τ t (g x) (g y) z
 | .call { callee:=.builtin .append,args,argTypes }=>match args.toList,argTypes.toList with
  | [x,y],[t,t']=>match Aw t t' with
   | true=>appendC τ t (g x) (g y) η z
   | false=>none
  | _,_=>none
 | op=>match evC τ g η op with
  | some (p,s)=>some (p,s,.no)
  | none=>none
def ir (τ:List (Nat×TI)) (g:Operand->SV) (η:Nat->Option HB) (z:Nat) (dst:Option Nat) (op:Op):Option (Prop×SV×Up):=match dst with
 | some _=>mc τ g η z op
 | none=>match op with
  | .store te x y=>qf τ te (g x) (g y) η
  | _=>none
theorem Hp.get_cons (d:Nat) (s:HB) (H:Hp) (t:Nat):Hp.get ((d,s)::H) t=if d=t then some s else Hp.get H t:=by
 simp only [Hp.get];cases h:Aw d t with
 | true=>rw [if_pos (Aj h)]
 | false=>rw [if_neg (Bj h)]
theorem Hp.get_set (i:Nat) (b:HB):∀ (H:Hp) (b0:HB),Hp.get H i=some b0->∀ t,Hp.get (Hp.set H i b) t=if i=t then some b else Hp.get H t
 | [],_,h,_=>by simp [Hp.get] at h
 | (d,s)::H,b0,h,t=>by
  rw [Hp.get_cons] at h
  simp only [Hp.set]
  cases hb:Aw d i with
  | true =>
   have:=Aj hb
   subst this
   simp only [Hp.get_cons]
   split<;>rfl
  | false =>
   have hne:=Bj hb
   rw [if_neg hne] at h
   simp only [Hp.get_cons]
   rw [Hp.get_set i b H b0 h t]
   by_cases h1:d=t
   ·subst h1;rw [if_pos rfl,if_neg (λh=>hne h.symm),if_pos rfl]
   ·rw [if_neg h1,if_neg h1]
theorem Hp.get_none {H:Hp} {i:Nat} (h:i ∉ H.map (·.1)):Hp.get H i=none:=by
 cases hg:Hp.get H i with
 | none=>rfl
 | some b=>exact absurd (List.mem_map.2 ⟨_,Hp.get_mem H i b hg,rfl⟩) h
theorem Hp.get_del (i:Nat):∀ (H:Hp),(H.map (·.1)).Nodup->∀ t,Hp.get (Hp.del H i) t=if i=t then none else Hp.get H t
 | [],_,t=>by simp [Hp.del,Hp.get]
 | (d,s)::H,hn,t=>by
  obtain⟨h1,h2⟩:=List.nodup_cons.1 hn
  simp only [Hp.del]
  cases hb:Aw d i with
  | true =>
   have:=Aj hb
   subst this
   simp only [Hp.get_cons]
   by_cases h3:d=t
   ·subst h3;rw [if_pos rfl];exact Hp.get_none h1
   ·rw [if_neg h3,if_neg h3]
  | false =>
   have hne:=Bj hb
   simp only [Hp.get_cons]
   rw [Hp.get_del i H h2 t]
   by_cases h3:d=t
   ·subst h3;rw [if_pos rfl,if_neg (λh=>hne h.symm),if_pos rfl]
   ·rw [if_neg h3,if_neg h3]
theorem Hp.mem_get:∀ (H:Hp),(H.map (·.1)).Nodup->∀ p∈H,Hp.get H p.1=some p.2
 | [],_,p,hp=>by simp at hp
 | (d,s)::H,hn,p,hp=>by
  obtain⟨h1,h2⟩:=List.nodup_cons.1 hn
  rw [Hp.get_cons]
  rcases List.mem_cons.1 hp with rfl|hp
  ·rw [if_pos rfl]
  ·have:d≠p.1:=λh=>h1 (List.mem_map.2 ⟨p,hp,h.symm⟩)
   rw [if_neg this];exact Hp.mem_get H h2 p hp
section
variable {Γ : Ctx} {k : Nat -> Prop} {L : Sl} {H : Hp} {a : Act} {w : World} {e : Env}
theorem Models.widenTo (m:Models Γ k L H e a w) {k':Nat->Prop} (hk':∀ i,k i->k' i):∃ e',Models Γ k' L H e' a w:=by
 let e':Env:=⟨e.β,e.η,k'⟩
 have he:∀ i,e.dom i->e'.β i=e.β i/\e'.η i=e.η i:=λ_ _=>⟨rfl,rfl⟩
 have hk:∀ i,e.dom i->e'.dom i:=λi h=>hk' i ((m.top i).1 h)
 have hol:ae e' H=ae e H:=l7 he H λp hp=>(m.heap p hp).1
 have hX:∀ b,Γ.X e' H b↔Γ.X e H b:=λb=>by unfold Ctx.X;rw [hol]
 refine⟨e',⟨⟨λi=>Iff.rfl,λp hp=>⟨hk _ (m.heap p hp).1,?_⟩,m.ids,hol▸m.nodup,λb hb=>m.mine b (hol▸hb),m.os,m.tape,m.output,m.drawn,m.size,m.block,m.obound,m.tabs,λj hj=>hk' j (m.jle j hj),m.anchor⟩,m.defers,m.len,λt=>?_⟩⟩
 ·exact HRel.keep (Af _) (λ_ _ _=>rfl) (λb _ h=>(hX b).1 h) p (λ_ _=>rfl) (HRel.ext hk he p (m.heap p hp).1 (m.heap p hp).2)
 ·exact Rel.keep (Af _) (λ_ _ _=>rfl) (λb _ h=>(hX b).1 h) _ _ (Rel.ext hk he _ _ (m.slot t))
theorem Models.widen (m:Models Γ k L H e a w) (z:Nat):∃ e',Models Γ (m5 k z) L H e' a w:=m.widenTo λ_ h=>Or.inl h
theorem OpOk.widen {o:Oper} {k':Nat->Prop} {L':Sl} {H':Hp} (h:OpOk Γ o k L H k' L' H') (z:Nat):OpOk Γ o k L H (m5 k' z) L' H':=by
 intro e a w Q m;refine Oper.wp_mono ?_ (h e a w Q m);rintro a' w' ⟨e',m'⟩;exact m'.widen z
def putL:Option Nat->SV->Sl->Sl
 | none,_,L=>L
 | some d,s,L=>(d,s)::L
def dstOk (Γ:Ctx):Option Nat->Bool
 | none=>true
 | some d=>As d Γ.n
theorem yc {τ:List (Nat×TI)} {g:Operand->SV} {t len:Nat} {ps:List (Nat×Operand)} {p:Prop} {s:SV} {u:Up} (h:du τ g t len ps=some (p,s,u)):u = .no:=by
 unfold du at h;repeat' (split at h)
 all_goals cases h
 rfl
theorem bs_sound2 {d:Nat} {t len:Nat} {ty:TypeId} {pos:String} {af:Array Edge} {g:Option (Nat×Bool)} {ps:Array (Nat×Operand)} {p:Prop} {s:SV} {L2:Sl} {H2:Hp} (hs:∀ e a w,Models Γ k L H e a w->Models Γ k L2 H2 e a w/\Models Γ k L H2 e a w)
  (h:du Γ.τ (ai L2) t len ps.toList=some (p,s,.no)) (hok:bt (.buildSlice t len ps)=true) (hd:As d Γ.n=true) :
  OpOk Γ ⟨some d,.buildSlice t len ps,ty,pos,af,g⟩ k L H k ((d,s)::L) H2:=by
 unfold du at h;split at h
 ·rename_i te ht;split at h
  ·rename_i hc;simp only [Ad] at hc;obtain⟨c1,c2,c3,c4,c5⟩:=hc;split at h
   ·rename_i cs hf;split at h
    ·rename_i hl;split at h
     ·rename_i xs hx;cases h;obtain⟨pl⟩:=ps;have hok':jz pl=true:=xd _ (by simpa [bt,Op.operands,List.all_map,Function.comp_def] using hok);rw [show (List.map (λp=>(p.1,ai L2 p.2)) (Array.mk pl).toList)=jy L2 pl from (xc pl).symm] at hf;exact op_buildSlice2 hs ht c1 rfl c2 c3 c4 hok' c5 hf hl hx hd
     ·cases h
    ·cases h
   ·cases h
  ·cases h
 ·cases h
theorem bs_sound {d:Nat} {t len:Nat} {ty:TypeId} {pos:String} {af:Array Edge} {g:Option (Nat×Bool)} {ps:Array (Nat×Operand)} {p:Prop} {s:SV} (h:du Γ.τ (ai L) t len ps.toList=some (p,s,.no)) (hok:bt (.buildSlice t len ps)=true) (hd:As d Γ.n=true) :
  OpOk Γ ⟨some d,.buildSlice t len ps,ty,pos,af,g⟩ k L H k ((d,s)::L) H:=bs_sound2 (λ_ _ _ m=>⟨m,m⟩) h hok hd
theorem seal_get (i es:Nat) (xs:List (List D)):∀ (L:Sl) (t:Nat),Sl.get (L.map λq=>(q.1,ve i es xs q.2)) t=ve i es xs (L.get t)
 | [],_=>rfl
 | (d,s)::L,t=>by
  rw [List.map_cons,Sl.get_cons,Sl.get_cons,seal_get i es xs L t]
  split<;>rfl
theorem seal_op (i es:Nat) (xs:List (List D)) (L:Sl) (x:Operand):ai (L.map λq=>(q.1,ve i es xs q.2)) x=ve i es xs (ai L x):=by
 cases x with
 | tmp t=>exact seal_get i es xs L t
 | const v =>
  simp only [ai];unfold cSV;split<;>rfl
 | global g=>rfl
 | func f=>rfl
theorem seal_relS {X X':Nat->Prop} {e:Env} {w:World} {i es:Nat} {xs:List (List D)} (hX:∀ b,X' b->X b) (hi:RepC X' w (e.η i) (.slice es xs)) (s:SV) (v:Value) (h:Rel X e w s v):Rel X' e w (sealS i es xs s) v:=by
 have hk:=Rel.keep (Af _) (λ_ _ _=>rfl) (λb _ h=>hX b h) (Y:=X') (w':=w) _ _ h;unfold sealS;split
 ·rename_i j;cases hb:Aw j i with
  | true =>
   have:=Aj hb
   subst this;simp only;rw [h.2.1];exact hi
  | false=>exact hk
 ·exact hk
theorem seal_relL {X X':Nat->Prop} {e:Env} {w:World} {i es:Nat} {xs:List (List D)} (hX:∀ b,X' b->X b) (hi:RepC X' w (e.η i) (.slice es xs)):∀ (ss:List SV) (vs:List Value),RelL X e w ss vs->RelL X' e w (ss.map (sealS i es xs)) vs
 | [],[],_=>trivial
 | [],_::_,h=>h.elim
 | _::_,[],h=>h.elim
 | s::ss,v::vs,h=>⟨seal_relS hX hi s v h.1,seal_relL hX hi ss vs h.2⟩
theorem seal_relA {X X':Nat->Prop} {e:Env} {w:World} {i es:Nat} {xs:List (List D)} (hX:∀ b,X' b->X b) (hi:RepC X' w (e.η i) (.slice es xs)) (s:SV) (v:Value) (h:Rel X e w s v):Rel X' e w (ve i es xs s) v:=by
 cases s with
 | agg ss =>
  obtain⟨vs,h1,h2⟩:=h;exact⟨vs,h1,seal_relL hX hi ss vs h2⟩
 | _=>exact seal_relS hX hi _ v h
theorem bs_soundR {d i es:Nat} {t len te:Nat} {ty:TypeId} {pos:String} {af:Array Edge} {g:Option (Nat×Bool)} {ps:Array (Nat×Operand)} {p:Prop} {s:SV} {xs:List (List D)} (hH:Hp.get H i=some (.row te es xs))
  (h:du Γ.τ (λx=>ve i es xs (ai L x)) t len ps.toList=some (p,s,.no)) (hok:bt (.buildSlice t len ps)=true) (hd:As d Γ.n=true) :
  OpOk Γ ⟨some d,.buildSlice t len ps,ty,pos,af,g⟩ k L H k ((d,s)::L) (Hp.del H i):=by
 refine bs_sound2 (L2:=L.map λq=>(q.1,ve i es xs q.2)) (λe a w m=>?_) (by rw [show ai (L.map λq=>(q.1,ve i es xs q.2))=λx=>ve i es xs (ai L x) from funext (seal_op i es xs L)];exact h) hok hd;obtain⟨m2,hX⟩:=m.del i;have hi:=qk m hH;exact⟨⟨m2.toHeap,m2.defers,m2.len,λt=>by rw [seal_get];exact seal_relA hX hi _ _ (m.slot t)⟩,m2⟩
theorem vz {d:Nat} {op:Op} {ty:TypeId} {pos:String} {af:Array Edge} {gd:Option (Nat×Bool)} {z:Nat} {p:Prop} {s:SV} {u:Up} (h:mc Γ.τ (ai L) (Hp.get H) z op=some (p,s,u)) (hp:p) (hu:u.okD Γ.dr) (hok:bt op=true) (hd:As d Γ.n=true) (hz:¬ k z) :
  OpOk Γ ⟨some d,op,ty,pos,af,gd⟩ k L H (m5 k z) ((d,s)::L) (u.appL z H):=by
 have ev:∀ (op:Op),bt op=true->(match evC Γ.τ (ai L) (Hp.get H) op with|some (p,s)=>some (p,s,Up.no)|none=>none)=some (p,s,u)->OpOk Γ ⟨some d,op,ty,pos,af,gd⟩ k L H (m5 k z) ((d,s)::L) (u.appL z H):=by
  intro op hok h;cases he:evC Γ.τ (ai L) (Hp.get H) op with
  | none=>simp [he] at h
  | some q =>
   obtain⟨p',s'⟩:=q;simp only [he,Option.some.injEq,Prod.mk.injEq] at h;obtain⟨rfl,rfl,rfl⟩:=h;exact (op_ev (evC_sound he hp hok) hd).widen z
 cases op with
 | alloc te =>
  simp only [mc,fj] at h;split at h
  ·rename_i hc;cases h;simp only [Ad] at hc;exact op_alloc hz hc.1 hc.2 rfl hd
  ·cases h
 | box te x =>
  simp only [mc,fj] at h;split at h
  ·rename_i hc;cases h;exact op_box hz rfl (by simpa [bt,Op.operands] using hok) hc hd
  ·cases h
 | buildSlice t len ps =>
  simp only [mc] at h;unfold mv at h;split at h
  ·have hu:u = .no:=yc h;subst hu;exact (bs_sound h hok hd).widen z
  ·rename_i i _;split at h
   ·rename_i te0 es xs hH;split at h
    ·rename_i p' s' hb;cases h;exact (bs_soundR hH hb hok hd).widen z
    ·cases h
   ·cases h
  ·cases h
 | makeSlice t x y =>
  simp only [mc,makeC] at h;split at h
  ·rename_i te ht;split at h
   ·rename_i hc;simp only [Ad] at hc;split at h
    ·rename_i v0 hv0;split at h
     ·rename_i x0 hx0;split at h
      ·rename_i n m' hx hy;cases h;obtain⟨rfl,h0,h1,h2⟩:=hp;exact op_mk hz ht hc.1 (Aj hc.2.1) hv0 hx0 hc.2.2 hx hy (Int.toNat_of_nonneg h0).symm h1 h2 hd
      ·cases h
     ·cases h
    ·cases h
   ·cases h
  ·cases h
 | call c =>
  obtain⟨callee,args,ts⟩:=c;cases callee with
  | builtin b =>
   cases b;case append =>
    simp only [mc] at h;split at h
    ·rename_i x y t t' ha ht;obtain⟨al⟩:=args;obtain⟨tl⟩:=ts;simp only at ha ht;subst ha;subst ht;split at h
     ·rename_i htt;have:=Aj htt
      subst this;rw [va] at h;unfold yf at h;split at h
      ·rename_i te ht;split at h
       ·rename_i hc;simp only [Ad] at hc;split at h
        ·rename_i i es ys hx hy;split at h
         ·rename_i te' es' xs hH;split at h
          ·rename_i hcc;simp only [Ad] at hcc;have e1:=Aj hcc.1;have e2:=Aj hcc.2.1;have e3:=Aj hcc.2.2;subst e1;subst e2;subst e3;cases h;haveI:NoDr Γ:=⟨hu⟩
           exact op_append_row hz ht hc.1 rfl hc.2.1 hc.2.2 hx hH hy hd hp.1 hp.2
          ·cases h
         ·cases h
        ·cases h
       ·cases h
      ·cases h
     ·cases h
    ·cases h
   all_goals exact ev _ hok h
  | _=>exact ev _ hok h
 | _=>exact ev _ hok h
theorem stepC_sound {dst:Option Nat} {op:Op} {ty:TypeId} {pos:String} {af:Array Edge} {gd:Option (Nat×Bool)} {z:Nat} {p:Prop} {s:SV} {u:Up} (h:ir Γ.τ (ai L) (Hp.get H) z dst op=some (p,s,u)) (hp:p) (hu:u.okD Γ.dr) (hok:bt op=true) (hd:dstOk Γ dst=true) (hz:¬ k z) :
  OpOk Γ ⟨dst,op,ty,pos,af,gd⟩ k L H (m5 k z) (putL dst s L) (u.appL z H):=by
 cases dst with
 | some d=>exact vz h hp hu hok hd hz
 | none =>
  cases op with
  | store te x y =>
   simp only [ir] at h;simp only [qf,fj] at h;split at h
   ·rename_i i o hx;split at h
    ·rename_i tb cs hH;split at h
     ·rename_i hc;cases h;simp only [Ad] at hc;simp only [bt,Op.operands,Dp,Ad] at hok;exact (op_store hx hH rfl hok.2.1 hc.1 hc.2.1 hc.2.2.1 hc.2.2.2).widen z
     ·cases h
    ·cases h
   ·rename_i i j es o hx;split at h
    ·rename_i tb es' xs hH;split at h
     ·rename_i x hy;split at h
      ·rename_i hc;cases h;simp only [Ad] at hc;simp only [bt,Op.operands,Dp,Ad] at hok;obtain⟨c1,c2,c3,c4,c5⟩:=hc;have e3:=Aj c3;have e4:=Aj c4;have e5:=Aj c5;have e2:=Aj c2;subst e3;subst e5;rw [e4] at hH;have hone:xs[j].length=1:=hp.2 _ (List.getElem_mem hp.1);have hsp:gx xs[j] 0 [x]=[x]:=by
        unfold gx;match hx1:xs[j],hone with
        | [u],_=>rfl
       have:=op_storeP (k:=k) (te:=te) (pos:=pos) (af:=af) (g:=gd) (ty:=ty) (new:=[x]) hx hH hp.1 hy hok.2.1 rfl c1 (by rw [show Γ.cells te=1 from e2];rfl) rfl
       rw [hsp] at this;exact this.widen z
      ·cases h
     ·cases h
    ·cases h
   ·cases h
  | _=>cases h
theorem Models.same (m:Models Γ k L H e a w) {L':Sl} {H':Hp} (hL:∀ t,Sl.get L t=Sl.get L' t) (hH:∀ i,Hp.get H i=Hp.get H' i) (hn:(H'.map (·.1)).Nodup):Models Γ k L' H' e a w:=by
 have hmem:∀ p,p∈H'↔p∈H:=by
  intro p;constructor
  ·intro hp;have:=Hp.mem_get H' hn p hp
   rw [<- hH] at this;exact Hp.get_mem H p.1 p.2 this
  ·intro hp;have:=Hp.mem_get H m.ids p hp
   rw [hH] at this;exact Hp.get_mem H' p.1 p.2 this
 have hperm:H'.Perm H:=(List.perm_ext_iff_of_nodup (nb hn) (nb m.ids)).2 hmem;have hop:(ae e H').Perm (ae e H):=hperm.filterMap _;have hX:∀ b,Γ.X e H' b↔Γ.X e H b:=λb=>or_congr Iff.rfl (hop.mem_iff)
 refine⟨⟨m.top,λp hp=>⟨(m.heap p ((hmem p).1 hp)).1,?_⟩,hn,hop.nodup_iff.2 m.nodup,λb hb=>m.mine b (hop.mem_iff.1 hb),m.os,m.tape,m.output,m.drawn,m.size,m.block,m.obound,m.tabs,m.jle,m.anchor⟩,m.defers,m.len,λt=>?_⟩
 ·exact HRel.keep (Af _) (λ_ _ _=>rfl) (λb _ h=>(hX b).1 h) p (λ_ _=>rfl) (m.heap p ((hmem p).1 hp)).2
 ·rw [<- hL];exact Rel.keep (Af _) (λ_ _ _=>rfl) (λb _ h=>(hX b).1 h) _ _ (m.slot t)
end
structure FS where
 ℓ:Nat->SV
 η:Nat->Option HB
def FS.op (s:FS):Operand->SV
 | .tmp t=>s.ℓ t
 | .const v=>cSV v
 | .func f=>.fn f []
 | _=>.junk
def FS.put (s:FS):Option Nat->SV->FS
 | none,_=>s
 | some d,v=>⟨λt=>if d=t then v else s.ℓ t,s.η⟩
def FS.app (s:FS) (z:Nat) (dst:Option Nat) (v:SV) (u:Up):FS:=⟨(s.put dst v).ℓ,u.app z s.η⟩
def ofL (L:Sl) (H:Hp):FS:=⟨L.get,Hp.get H⟩
theorem j6 (L:Sl) (H:Hp):(ofL L H).op=ai L:=by funext x;cases x<;>rfl
theorem li (L:Sl) (H:Hp) (dst:Option Nat) (v:SV):(ofL L H).put dst v=ofL (putL dst v L) H:=by
 cases dst with
 | none=>rfl
 | some d=>simp only [FS.put,ofL,putL,FS.mk.injEq,and_true];funext t;rw [Sl.get_cons]
section
variable {Γ : Ctx} {k : Nat -> Prop} {L : Sl} {H : Hp} {a : Act} {w : World} {e : Env} {t t' ty : TypeId} {x y : Operand}
theorem op_bs0 {d z te:TypeId} {pos:String} {af:Array Edge} {g:Option (Nat×Bool)} {es:Nat} (hz':¬ k z) (ht:Γ.sh t = .slice te) (hkn:(Γ.sh te).known=true) (hes:Γ.cells te=es) (hpos:As 0 es=true) (hz:ek (aj Γ.τ te).zero=true) (hzl:Aw (aj Γ.τ te).zero.length (Γ.cells te)=true) (hd:As d Γ.n=true) :
  OpOk Γ ⟨some d,.buildSlice t 0 #[],ty,pos,af,g⟩ k L H (m5 k z) ((d,.row z)::L) ((z,.row te es [])::H):=by
 intro e a w Q m;have hze:¬ e.dom z:=λh=>hz' ((m.top z).1 h)
 obtain⟨vs',f2,f3,hrun⟩:=m9 (ty:=ty) (len:=0) (ps:=[]) (cs':=[]) ht hkn hes hpos hz hzl rfl (by simp) (by simp [qt,nk,jy]) m;unfold Oper.wp;rw [hrun];have hv0:vs' = #[]:=by
  have:=RelL.length _ _ f2
  apply Array.toList_inj.1;exact List.eq_nil_of_length_eq_zero (by simpa using this.symm)
 subst hv0;have hη:(e.bindRow z (.slice (some ⟨w.heap.size,0,none⟩) 0 0)).η z = .slice (some ⟨w.heap.size,0,none⟩) 0 0:=if_pos rfl;have m2:=m.new hz' (hb:=.row te es []) (e':=e.bindRow z (.slice (some ⟨w.heap.size,0,none⟩) 0 0)) (w':=w.alloc (.cells #[] te)) (λi=>or_congr (m.top i) Iff.rfl) (e.bindRow_ext _ _ hze) (fi Γ.dr _ _)
  (λb hb=>by simp only [HB.owned,hη,Value.ownBlock,Option.some.injEq] at hb;omega) (λhX=>by
   refine⟨[],⟨by simp,.inr ⟨w.heap.size,0,#[],by rw [hη];rfl,Ai _,heap_alloc_new w _,Af _,Ai _,by simp,by simp⟩⟩,by simp,by simp,by simp⟩)
 exact⟨_,m2.put (s:=.row z) (v:=.slice (some ⟨w.heap.size,0,none⟩) 0 0) (Ac hd) ⟨.inr rfl,hη.symm,rfl⟩⟩
end
end
section
open Go Go.RowKit
variable [Bnds]
def FnRow (dr:Bool) (P:Program) (τ:List (Nat×TI)) (τok:dc P τ) (f:FuncId) (args:List SV) (te:TypeId) (es:Nat) (R:List (List D)->Prop):Prop :=
 FnOk dr P τ τok f args 0 0 [] (λ_ r H2=>∃ ys,R ys/\r = .row 0/\H2=[(0,.row te es ys)])
theorem FnRow.use {dr:Bool} {Γ:Ctx} {τ:List (Nat×TI)} {τok:dc Γ.P τ} {k:Nat->Prop} {L:Sl} {H:Hp} {f:FuncId} {args:List SV} {te:TypeId} {es:Nat} {R:List (List D)->Prop} (hc:FnRow dr Γ.P τ τok f args te es R) {e:Env} {w:World} {a:Act} (m:Models Γ k L H e a w) (hlow:SV.lowL 0 args=true)
  (vs:List Value) (hr:RelL (Γ.X e H) e w args vs) (z:Nat) :
  Calls Γ.P f vs.toArray w (λen w'=>∃ ys v,R ys/\en = .returned v/\Beld dr w.heap.size w w'/\v.oneCell'=true/\(∀ b,v.ownBlock=some b->w.heap.size<=b) /\
   ∀ (X':Nat->Prop) (e':Env),e'.η z=v->(∀ b,X' b->Γ.X e H b∨v.ownBlock=some b)->HRel X' e' w' (z,.row te es ys)):=by
 have hO:∀ b,Γ.X e H b->b<w.heap.size:=λb hb=>hb.elim (λh=>Aq (m.obound b h).1 m.size) (m.lt b)
 have hX:∀ e' b,Ctx.X ⟨Γ.P,τ,τok,Γ.X e H,w,λb=>b∈ae (e.ren id 0) [],0,0,(e.ren id 0).an,none,cy,true,dr⟩ e' [] b↔Γ.X e H b:=by
  intro e' b;unfold Ctx.X;simp [ae]
 refine (hc.2 (Γ.X e H) (e.ren id 0) w vs ⟨λ_=>Iff.rfl,by simp,by simp,by simp [ae],by simp [ae],rfl,rfl,rfl,λ_=>Af _,Af _,λ_ _ _=>rfl,λb hb=>⟨hO b hb,by simp [ae]⟩,m.tabsAt.sub (by simp [ae]),λj hj=>absurd hj (A6 j),λj hj=>absurd hj (A6 j)⟩ ?_).mono ?_
 ·exact RelL.keep (Af _) (λ_ _ _=>rfl) (λb _ hy=>(hX _ b).1 hy) _ _ (RelL.env _ _ hlow hr)
 ·rintro en w' ⟨k',r,H',e',v,⟨ys,hR,rfl,rfl⟩,rfl,hH,hrel⟩;obtain⟨_,hv,hone⟩:=hrel;refine⟨ys,v,hR,rfl,⟨⟨hH.os,hH.tape,hH.output,hH.size,λb hb=>hH.block b hb (by simp [ae])⟩,hH.drawn⟩,hone,λb hb=>?_,λX' e3 hη hsub=>?_⟩
  ·have hown:b∈ae e' [(0,HB.row te es ys)]:=List.mem_filterMap.2 ⟨_,Ae ..,by show (e'.η 0).ownBlock=some b;rw [<- hv];exact hb⟩;rcases (hH.mine b hown).1 with h|h
   ·simp [ae] at h
   ·exact h
  ·have h0:=(hH.heap _ (Ae ..)).2;have h1:=HRel.keep (X:=_) (Y:=X') (Af _) (λ_ _ _=>rfl) (λb _ hy=>(hsub b hy).imp id λhb=>List.mem_filterMap.2 ⟨_,Ae ..,by show (e'.η 0).ownBlock=some b;rw [<- hv];exact hb⟩) _ (λ_ _=>rfl) h0;obtain⟨vs2,q1,q2,q3,q4⟩:=h1;refine⟨vs2,?_,q2,q3,q4⟩
   rw [hη,hv];exact q1
end
section
open Go Go.RowKit
variable [Bnds]
def FnTr (dr:Bool) (P:Program) (τ:List (Nat×TI)) (τok:dc P τ) (f:FuncId) (args:List SV) (te0:TypeId) (es0:Nat) (xs:List (List D)) (te:TypeId) (es:Nat) (R:List (List D)->Prop):Prop :=
 FnOk dr P τ τok f args 1 1 [(0,.row te0 es0 xs)] (λ_ r H2=>∃ ys,R ys/\r = .row 1/\H2=[(1,.row te es ys)])
theorem FnTr.use {dr:Bool} {Γ:Ctx} {τ:List (Nat×TI)} {τok:dc Γ.P τ} {k:Nat->Prop} {L:Sl} {H:Hp} {f:FuncId} {args:List SV} {te0 te:TypeId} {es0 es:Nat} {xs:List (List D)} {R:List (List D)->Prop} (hc:FnTr dr Γ.P τ τok f args te0 es0 xs te es R)
  {e:Env} {w:World} {a:Act} (m:Models Γ k L H e a w) {j:Nat} (hH:Hp.get H j=some (.row te0 es0 xs)) (hlow:SV.lowL 1 args=true) (vs:List Value) (hr:RelL (Γ.X e H) e w (SV.renL (λ_=>j) args) vs) (z:Nat) :
  Calls Γ.P f vs.toArray w (λen w'=>∃ ys v,R ys/\en = .returned v/\w.heap.size<=w'.heap.size/\w'.os=w.os/\w'.tape=w.tape/\w'.output=w.output/\(dr=true->w.drawn<=w'.drawn)/\v.oneCell'=true /\
   (∀ c,c<w.heap.size->HB.owned e (j,.row te0 es0 xs)≠some c->w'.heap[c]?=w.heap[c]?)/\(∀ b,v.ownBlock=some b->HB.owned e (j,.row te0 es0 xs)=some b∨w.heap.size<=b) /\
   ∀ (X':Nat->Prop) (e':Env),e'.η z=v->(∀ b,X' b->Γ.X e (Hp.del H j) b∨v.ownBlock=some b)->HRel X' e' w' (z,.row te es ys)):=by
 have hmem:=Hp.mem_of hH;obtain⟨_,hXd⟩:=m.del j;have hd:=Hp.del_mem (i:=j) H m.ids;let ec:=e.ren (λ_=>j) 1
 have hown:∀ b,b∈ae ec [(0,.row te0 es0 xs)]↔HB.owned e (j,.row te0 es0 xs)=some b:=by
  intro b;unfold ae;rw [Eo];constructor
  ·rintro⟨p,hp,ho⟩;rw [A5] at hp;subst hp;exact ho
  ·intro ho;exact⟨_,Ae ..,ho⟩
 have hownH:∀ b,HB.owned e (j,.row te0 es0 xs)=some b->b∈ae e H:=λb hb=>List.mem_filterMap.2 ⟨_,hmem,hb⟩
 have hno:∀ b,HB.owned e (j,.row te0 es0 xs)=some b->¬ Γ.X e (Hp.del H j) b:=by
  intro b hb hx;rcases hx with hx|hx
  ·exact (m.mine b (hownH b hb)).2 hx
  ·obtain⟨p,hp,hpb⟩:=List.mem_filterMap.1 hx;exact m.owned_ne (hd p hp).1 hmem (hd p hp).2 hpb hb
 have hO:∀ b,Γ.X e (Hp.del H j) b->b<w.heap.size:=λb hb=>(hXd b hb).elim (λh=>Aq (m.obound b h).1 m.size) (m.lt b)
 have hX:∀ b,Ctx.X ⟨Γ.P,τ,τok,Γ.X e (Hp.del H j),w,λb=>b∈ae ec [(0,.row te0 es0 xs)],0,1,ec.an,none,cy,true,dr⟩ ec [(0,.row te0 es0 xs)] b->Γ.X e H b:=by
  intro b hb;rcases hb with hb|hb
  ·exact hXd b hb
  ·exact .inr (hownH b ((hown b).1 hb))
 refine (hc.2 (Γ.X e (Hp.del H j)) ec w vs ⟨λ_=>Iff.rfl,λp hp=>?_,by simp,?_,λb hb=>⟨.inl hb,hno b ((hown b).1 hb)⟩,rfl,rfl,rfl,λ_=>Af _,Af _,λ_ _ _=>rfl,λb hb=>⟨hO b hb,λh=>hno b ((hown b).1 h) hb⟩,m.tabsAt.sub (λb hb=>hownH b ((hown b).1 hb)),λi hi=>hi,λ_ _=>rfl⟩ ?_).mono ?_
 ·rw [A5] at hp;subst hp;refine⟨Gg,?_⟩
  exact HRel.keep (e:=e) (Af _) (λ_ _ _=>rfl) (λb _ h=>hX b h) (j,.row te0 es0 xs) (λ_ _=>rfl) (m.heap _ hmem).2
 ·unfold ae;rw [Bf];split<;>simp
 ·exact RelL.keep (Af _) (λ_ _ _=>rfl) (λb _ h=>hX b h) _ _ (RelL.ren _ 1 _ _ hlow hr)
 ·rintro en w' ⟨k',r,H',e',v,⟨ys,hR,rfl,rfl⟩,rfl,hH',hrel⟩;obtain⟨_,hv,hone⟩:=hrel;have hb:∀ b,v.ownBlock=some b->b∈ae e' [(1,HB.row te es ys)]:=λb hb=>List.mem_filterMap.2 ⟨_,Ae ..,by show (e'.η 1).ownBlock=some b;rw [<- hv];exact hb⟩
  refine⟨ys,v,hR,rfl,hH'.size,hH'.os,hH'.tape,hH'.output,hH'.drawn,hone,λc hc hne=>hH'.block c hc λh=>hne ((hown c).1 h),λb hvb=>?_,λX' e3 hη hsub=>?_⟩
  ·exact ((hH'.mine b (hb b hvb)).1).imp (λh=>(hown b).1 h) id
  ·have h0:=(hH'.heap _ (Ae ..)).2;have h1:=HRel.keep (X:=_) (Y:=X') (Af _) (λ_ _ _=>rfl) (λb _ hy=>(hsub b hy).imp id λhvb=>hb b hvb) _ (λ_ _=>rfl) h0;obtain⟨vs2,q1,q2,q3,q4⟩:=h1;refine⟨vs2,?_,q2,q3,q4⟩
   rw [hη,hv];exact q1
theorem Hp.mem_delB {i:Nat}:∀ {H:Hp} {p:Nat×HB},p∈H->p.1≠i->p∈Hp.del H i
 | [],_,h,_=>by simp at h
 | (d,s)::H,p,hp,hne=>by
  simp only [Hp.del]
  cases hb:Aw d i with
  | true =>
   have:=Aj hb
   rcases List.mem_cons.1 hp with rfl|hp'
   ·exact absurd this hne
   ·exact hp'
  | false =>
   rcases List.mem_cons.1 hp with rfl|hp'
   ·exact Ae ..
   ·exact Ah _ (Hp.mem_delB hp' hne)
def FnBl (dr:Bool) (P:Program) (τ:List (Nat×TI)) (τok:dc P τ) (f:FuncId) (args:List SV) (ty:TypeId) (cs:List SV) (R:SV->List SV->Prop):Prop :=
 FnOk dr P τ τok f args 1 1 [(0,.blk ty cs)] (λ_ r H2=>∃ cs',R r cs'/\r.low 0=true/\SV.lowL 0 cs'=true/\H2=[(0,.blk ty cs')])
theorem FnBl.use {dr:Bool} {Γ:Ctx} {τ:List (Nat×TI)} {τok:dc Γ.P τ} {k:Nat->Prop} {L:Sl} {H:Hp} {f:FuncId} {args:List SV} {ty:TypeId} {cs:List SV} {R:SV->List SV->Prop} (hc:FnBl dr Γ.P τ τok f args ty cs R)
  {e:Env} {w:World} {a:Act} (m:Models Γ k L H e a w) {j:Nat} (hH:Hp.get H j=some (.blk ty cs)) (hcs:SV.lowL 0 cs=true) (hlow:SV.lowL 1 args=true) (vs:List Value) (hr:RelL (Γ.X e H) e w (SV.renL (λ_=>j) args) vs) :
  Calls Γ.P f vs.toArray w (λen w'=>∃ r cs' v,R r cs'/\en = .returned v/\w.heap.size<=w'.heap.size/\w'.os=w.os/\w'.tape=w.tape/\w'.output=w.output/\(dr=true->w.drawn<=w'.drawn) /\
   (∀ c,c<w.heap.size->HB.owned e (j,.blk ty cs)≠some c->w'.heap[c]?=w.heap[c]?)/\HRel (Γ.X e H) e w' (j,.blk ty cs')/\Rel (Γ.X e H) e w' r v):=by
 have hmem:=Hp.mem_of hH;obtain⟨_,hXd⟩:=m.del j;have hd:=Hp.del_mem (i:=j) H m.ids;let ec:=e.ren (λ_=>j) 1
 have hown:∀ b,b∈ae ec [(0,.blk ty cs)]↔HB.owned e (j,.blk ty cs)=some b:=by
  intro b;unfold ae;rw [Eo];constructor
  ·rintro⟨p,hp,ho⟩;rw [A5] at hp;subst hp;exact ho
  ·intro ho;exact⟨_,Ae ..,ho⟩
 have hownH:∀ b,HB.owned e (j,.blk ty cs)=some b->b∈ae e H:=λb hb=>List.mem_filterMap.2 ⟨_,hmem,hb⟩
 have hno:∀ b,HB.owned e (j,.blk ty cs)=some b->¬ Γ.X e (Hp.del H j) b:=by
  intro b hb hx;rcases hx with hx|hx
  ·exact (m.mine b (hownH b hb)).2 hx
  ·obtain⟨p,hp,hpb⟩:=List.mem_filterMap.1 hx;exact m.owned_ne (hd p hp).1 hmem (hd p hp).2 hpb hb
 have hO:∀ b,Γ.X e (Hp.del H j) b->b<w.heap.size:=λb hb=>(hXd b hb).elim (λh=>Aq (m.obound b h).1 m.size) (m.lt b)
 have hX:∀ b,Ctx.X ⟨Γ.P,τ,τok,Γ.X e (Hp.del H j),w,λb=>b∈ae ec [(0,.blk ty cs)],0,1,ec.an,none,cy,true,dr⟩ ec [(0,.blk ty cs)] b->Γ.X e H b:=by
  intro b hb;rcases hb with hb|hb
  ·exact hXd b hb
  ·exact .inr (hownH b ((hown b).1 hb))
 refine (hc.2 (Γ.X e (Hp.del H j)) ec w vs ⟨λ_=>Iff.rfl,λp hp=>?_,by simp,?_,λb hb=>⟨.inl hb,hno b ((hown b).1 hb)⟩,rfl,rfl,rfl,λ_=>Af _,Af _,λ_ _ _=>rfl,λb hb=>⟨hO b hb,λh=>hno b ((hown b).1 h) hb⟩,m.tabsAt.sub (λb hb=>hownH b ((hown b).1 hb)),λi hi=>hi,λ_ _=>rfl⟩ ?_).mono ?_
 ·rw [A5] at hp;subst hp;refine⟨Gg,?_⟩
  obtain⟨vs0,h1,h2,h3⟩:=HRel.keep (e:=e) (Af _) (λ_ _ _=>rfl) (λb _ h=>hX b h) (j,.blk ty cs) (λ_ _=>rfl) (m.heap _ hmem).2;exact⟨vs0,h1,RelL.env _ _ hcs h2,h3⟩
 ·unfold ae;rw [Bf];split<;>simp
 ·exact RelL.keep (Af _) (λ_ _ _=>rfl) (λb _ h=>hX b h) _ _ (RelL.ren _ 1 _ _ hlow hr)
 ·rintro en w' ⟨k',r,H',e',v,⟨cs',hR,hlr,hlc,rfl⟩,rfl,hH',hrel⟩;have hβ:e'.β 0=e.β j:=Env.an_β (hH'.anchor 0 Gg);have hXb:∀ b,Γ.X e H b->Ctx.X ⟨Γ.P,τ,τok,Γ.X e (Hp.del H j),w,λb=>b∈ae ec [(0,.blk ty cs)],0,1,ec.an,none,cy,true,dr⟩ e' [(0,.blk ty cs')] b:=by
   intro b hb;rcases hb with hb|hb
   ·exact .inl (.inl hb)
   ·obtain⟨p,hp,hpb⟩:=List.mem_filterMap.1 hb;by_cases hpj:p.1=j
    ·refine .inr (List.mem_filterMap.2 ⟨_,Ae ..,?_⟩);have:p=(j,.blk ty cs):=by
      have:=Hp.mem_get H m.ids p hp
      rw [hpj,hH] at this;exact Prod.ext hpj (Option.some.inj this).symm
     subst this;show some (e'.β 0)=some b;rw [hβ];exact hpb
    ·exact .inl (.inr (List.mem_filterMap.2 ⟨p,Hp.mem_delB hp hpj,hpb⟩))
  refine⟨r,cs',v,hR,rfl,hH'.size,hH'.os,hH'.tape,hH'.output,hH'.drawn,λc hc hne=>hH'.block c hc λh=>hne ((hown c).1 h),?_,?_⟩
  ·obtain⟨vs0,h1,h2,h3⟩:=(hH'.heap _ (Ae ..)).2;exact⟨vs0,hβ▸h1,RelL.keep (Af _) (λ_ _ _=>rfl) (λb _ hy=>hXb b hy) _ _ (RelL.env _ _ hlc h2),h3⟩
  ·exact Rel.keep (Af _) (λ_ _ _=>rfl) (λb _ hy=>hXb b hy) _ _ (Rel.env _ _ hlr hrel)
end
section
open Go Go.RowKit
variable [Bnds]
def io (ops:List Oper) (ℓ:Nat->SV):Option (Nat×Bool)->Option Bool
 | none=>some true
 | some (j,want)=>match mi ops j with
  | some o=>match o.dst with
   | some t=>match ℓ t with
    | .d (.bool true)=>some want
    | .d (.bool false)=>some (!want)
    | .tup []=>some false
    | _=>none
   | none=>none
  | none=>none
theorem j3 (ops:List Oper) (L:Sl) (g:Option (Nat×Bool)):io ops L.get g=aq ops L g:=by
 cases g with
 | none=>rfl
 | some q=>rfl
def mt (ops:List Oper) (i j:Nat):Bool:=match mi ops i with
 | some o=>o.after.toList.any λe=>Region.binds .any e && Aw e.on j
 | none=>false
def qo (ops:List Oper) (i j:Nat):Bool:=mt ops i j || match mi ops i with
 | some o=>o.after.toList.any λe=>Region.binds .any e && mt ops e.on j
 | none=>false
def tmpOf:Operand->List Nat
 | .tmp t=>[t]
 | _=>[]
def usesG (ops:List Oper):Option (Nat×Bool)->List Nat
 | some (j,_)=>match mi ops j with
  | some oj=>oj.dst.toList
  | none=>[]
 | none=>[]
def usesO (ops:List Oper) (o:Oper):List Nat:=o.op.operands.toList.flatMap tmpOf++usesG ops o.guard
def nin:Option Nat->List Nat->Bool
 | some d,l=>notIn d l
 | none,_=>true
def apartO (ops:List Oper) (a b:Oper):Bool:=nin a.dst (usesO ops b) && (nin b.dst (usesO ops a) && nin a.dst b.dst.toList)
def isCall (o:Oper):Bool:=match o.op with
 | .call { callee:=.value _,.. }=>true
 | .buildSlice _ n _=>Aw n 0
 | .lookup ..=>true
 | .call { callee:=.builtin .unsafeSliceData,.. }=>true
 | _=>false
def SV.nm:SV->Option Nat
 | .loc i _=>some i
 | .row i=>some i
 | .mp i=>some i
 | .prow i _ _ _=>some i
 | .sl i _ _ _=>some i
 | .rsl i _ _ _=>some i
 | _=>none
def rdsR (g:Operand->SV):Op->List Nat
 | .buildSlice _ _ ps=>ps.toList.flatMap λp=>rowsA (g p.2)
 | _=>[]
def kz (g:Operand->SV) (op:Op):List Nat:=(op.operands.toList.filterMap λx=>(g x).nm)++rdsR g op
def vm:List Nat->List Nat->Bool
 | [],_=>true
 | i::r,l=>notIn i l && vm r l
theorem s9:∀ {l r:List Nat},vm l r=true->∀ i,i∈l->i ∉ r
 | [],_,_,i,h=>by simp at h
 | j::l,r,h,i,hi=>by
  simp only [vm,Ad] at h
  rcases List.mem_cons.1 hi with rfl|hi
  ·exact f7 _ _ h.1
  ·exact s9 h.2 i hi
theorem disj_of:∀ {l r:List Nat},(∀ i,i∈l->i ∉ r)->vm l r=true
 | [],_,_=>rfl
 | j::l,r,h=>by
  simp only [vm,Ad]
  exact⟨n5 (h j (Ae ..)),disj_of λi hi=>h i (Ah _ hi)⟩
abbrev Log:=List (Nat×List Nat×List Nat)
def fz (ops:List Oper) (i:Nat) (rd wr:List Nat):Log->Bool
 | []=>true
 | q::lg=>((vm q.2.2 rd && (vm wr q.2.1 && vm wr q.2.2)) || (qo ops i q.1 || mt ops q.1 i)) && fz ops i rd wr lg
theorem okLog_spec {ops:List Oper} {i:Nat} {rd wr:List Nat}:∀ {lg:Log},fz ops i rd wr lg=true↔∀ q∈lg,((vm q.2.2 rd && (vm wr q.2.1 && vm wr q.2.2)) || (qo ops i q.1 || mt ops q.1 i))=true
 | []=>by simp [fz]
 | q::lg=>by simp only [fz,Ad,okLog_spec (lg:=lg),Be,forall_eq_or_imp]
section
variable {τ : List (Nat×TI)} {g g' : Operand -> SV} {η η' : Nat -> Option HB}
theorem loadC_congr {t:TypeId} {s:SV} (h:∀ i,s.nm=some i->η i=η' i):sp τ t s η=sp τ t s η':=by
 cases s with
 | loc i o=>simp only [sp,h i rfl]
 | _=>rfl
theorem loadP_congr {t:TypeId} {s:SV} (h:∀ i,s.nm=some i->η i=η' i):loadP τ t s η=loadP τ t s η':=by
 cases s with
 | prow i j es o=>simp only [loadP,h i rfl]
 | _=>exact loadC_congr (τ:=τ) (t:=t) h
theorem indexP_congr {t:TypeId} {a b:SV} (h:∀ i,a.nm=some i->η i=η' i):indexP τ t a b η=indexP τ t a b η':=by
 cases a with
 | row i=>simp only [indexP,h i rfl]
 | _=>rfl
theorem lenC_congr {t:TypeId} {s:SV} (h:∀ i,s.nm=some i->η i=η' i):lenC τ t s η=lenC τ t s η':=by
 unfold lenC;split
 ·split
  ·rfl
  ·rfl
  ·rfl
  ·rw [h _ rfl]
  ·rfl
  ·rfl
  ·rfl
 ·rfl
 ·rfl
theorem sliceC_congr {t:TypeId} {s:SV} {lo hi:Option SV} (h:∀ i,s.nm=some i->η i=η' i):sliceC τ t s lo hi η=sliceC τ t s lo hi η':=by
 cases s with
 | row i=>simp only [sliceC,h i rfl]
 | d x=>cases x<;>rfl
 | _=>rfl
theorem convC_congr {t t':TypeId} {s:SV} (h:∀ i,s.nm=some i->η i=η' i):convC τ t t' s η=convC τ t t' s η':=by
 unfold convC;split<;>first|rfl|rw [h _ rfl]
theorem evC_congr (op:Op) (hg:∀ x∈op.operands.toList,g x=g' x) (hη:∀ x∈op.operands.toList,∀ i,(g x).nm=some i->η i=η' i):evC τ g η op=evC τ g' η' op:=by
 cases op with
 | move x=>simp only [evC,hg x (by simp [Op.operands])]
 | assign x=>simp only [evC,hg x (by simp [Op.operands])]
 | pick c a b=>simp only [evC,hg c (by simp [Op.operands]),hg a (by simp [Op.operands]),hg b (by simp [Op.operands])]
 | binOp op t x y t'=>simp only [evC,hg x (by simp [Op.operands]),hg y (by simp [Op.operands])]
 | unOp op t x=>cases op<;>simp only [evC,hg x (by simp [Op.operands])]
 | load t x =>
  simp only [evC];rw [loadP_congr (hη x (by simp [Op.operands])),hg x (by simp [Op.operands])]
 | fieldAddr t x f=>simp only [evC,hg x (by simp [Op.operands])]
 | indexAddr t x y =>
  simp only [evC];rw [indexP_congr (hη x (by simp [Op.operands])),hg x (by simp [Op.operands]),hg y (by simp [Op.operands])]
 | index t x y=>simp only [evC,hg x (by simp [Op.operands]),hg y (by simp [Op.operands])]
 | slice t x lo hi mx =>
  cases mx with
  | some _=>rfl
  | none =>
   simp only [evC,hg x (by simp [Op.operands])];have h1:lo.map g=lo.map g':=by cases lo with
    | none=>rfl
    | some z=>simp [hg z (by simp [Op.operands])]
   have h2:hi.map g=hi.map g':=by cases hi with
    | none=>rfl
    | some z=>simp [hg z (by simp [Op.operands])]
   rw [h1,h2];exact sliceC_congr λi hi=>hη x (by simp [Op.operands]) i (by rw [hg x (by simp [Op.operands])];exact hi)
 | convert t t' x =>
  simp only [evC];rw [convC_congr (hη x (by simp [Op.operands])),hg x (by simp [Op.operands])]
 | nilCheck x=>simp only [evC,hg x (by simp [Op.operands])]
 | extract x i=>simp only [evC,hg x (by simp [Op.operands])]
 | makeFunc fn first captured =>
  cases fn with
  | func f =>
   simp only [evC];have:captured.toList.map g=captured.toList.map g':=Df λx hx=>hg x (by simp [Op.operands] at hx ⊢;exact .inr hx)
   rw [this]
  | _=>rfl
 | build te ps =>
  simp only [evC];have:(ps.toList.map λp=>(p.1,g p.2))=ps.toList.map λp=>(p.1,g' p.2):=Df λp hp=>by
   rw [hg p.2 (by simp [Op.operands];exact⟨p.1,by simpa using hp⟩)]
  rw [this]
 | call c =>
  obtain⟨callee,args,ts⟩:=c;cases callee with
  | builtin b =>
   cases b<;>try rfl
   case len =>
    obtain⟨al⟩:=args;obtain⟨tl⟩:=ts;simp only [evC];split
    ·rename_i x t;rw [lenC_congr (hη x (by simp [Op.operands,Call.operands])),hg x (by simp [Op.operands,Call.operands])]
    ·rfl
  | _=>rfl
 | _=>rfl
theorem storeC_congr {t:TypeId} {s b:SV} (h:∀ i,s.nm=some i->η i=η' i):qf τ t s b η=qf τ t s b η':=by
 cases s with
 | loc i o=>simp only [qf,h i rfl]
 | prow i j es o=>simp only [qf,h i rfl]
 | _=>rfl
theorem appendC_congr {t z:Nat} {s b:SV} (h:∀ i,s.nm=some i->η i=η' i):appendC τ t s b η z=appendC τ t s b η' z:=by
 rw [va,va];unfold yf;split
 ·split
  ·split
   ·rw [h _ rfl]
   ·rfl
  ·rfl
 ·rfl
theorem rv {t len:Nat} {ps:List (Nat×Operand)} (h:∀ p∈ps,g p.2=g' p.2):du τ g t len ps=du τ g' t len ps:=by
 unfold du;have:(ps.map λp=>(p.1,g p.2))=ps.map λp=>(p.1,g' p.2):=Df λp hp=>by rw [h p hp]
 rw [this]
theorem rowsA_congr {ps:List (Nat×Operand)} (h:∀ p∈ps,g p.2=g' p.2):(ps.flatMap λp=>rowsA (g p.2))=ps.flatMap λp=>rowsA (g' p.2):=by
 rw [Hf,Hf];congr 1;exact Df λp hp=>by rw [h p hp]
theorem buildSliceR_congr {t len:Nat} {ps:List (Nat×Operand)} (h:∀ p∈ps,g p.2=g' p.2) (hη:∀ i∈ps.flatMap (λp=>rowsA (g p.2)),η i=η' i):mv τ g η t len ps=mv τ g' η' t len ps:=by
 unfold mv;rw [<- rowsA_congr h];cases hf:ps.flatMap λp=>rowsA (g p.2) with
 | nil=>exact rv h
 | cons i r =>
  cases r with
  | nil =>
   simp only;rw [hη i (by rw [hf];exact Ae ..)];cases η' i with
   | none=>rfl
   | some b =>
    cases b with
    | blk ty cs=>rfl
    | map kd kvs=>rfl
    | row te es xs =>
     simp only;rw [rv (g:=λx=>ve i es xs (g x)) (g':=λx=>ve i es xs (g' x)) λp hp=>by simp only [h p hp]]
  | cons _ _=>rfl
theorem rdsR_congr (op:Op) (h:∀ x∈op.operands.toList,g x=g' x):rdsR g op=rdsR g' op:=by
 cases op with
 | buildSlice t len ps=>exact rowsA_congr λp hp=>h p.2 (by simp [Op.operands];exact⟨p.1,by simpa using hp⟩)
 | _=>rfl
theorem stepC_congr (z:Nat) (dst:Option Nat) (op:Op) (hg:∀ x∈op.operands.toList,g x=g' x) (hη:∀ x∈op.operands.toList,∀ i,(g x).nm=some i->η i=η' i) (hR:∀ i,i∈rdsR g op->η i=η' i):ir τ g η z dst op=ir τ g' η' z dst op:=by
 have ev:=evC_congr (τ:=τ) op hg hη;cases dst with
 | none =>
  cases op with
  | store t x y =>
   simp only [ir];rw [storeC_congr (hη x (by simp [Op.operands])),hg x (by simp [Op.operands]),hg y (by simp [Op.operands])]
  | _=>rfl
 | some d =>
  simp only [ir];cases op with
  | alloc t=>rfl
  | box t x=>simp only [mc,hg x (by simp [Op.operands])]
  | makeSlice t x y=>simp only [mc,hg x (by simp [Op.operands]),hg y (by simp [Op.operands])]
  | buildSlice t len ps =>
   simp only [mc];exact buildSliceR_congr (λp hp=>hg p.2 (by simp [Op.operands];exact⟨p.1,by simpa using hp⟩)) hR
  | call c =>
   obtain⟨callee,args,ts⟩:=c;cases callee with
   | builtin b =>
    cases b;case append =>
     obtain⟨al⟩:=args;obtain⟨tl⟩:=ts;simp only [mc];split
     ·rename_i x y t t';rw [appendC_congr (hη x (by simp [Op.operands,Call.operands])),hg x (by simp [Op.operands,Call.operands]),hg y (by simp [Op.operands,Call.operands])]
     ·rfl
    all_goals (simp only [mc,ev])
   | _=>simp only [mc,ev]
  | _=>simp only [mc,ev]
end
theorem FS.op_app {s:FS} {z:Nat} {dst:Option Nat} {v:SV} {u:Up} {x:Operand} (h:nin dst (tmpOf x)=true):(s.app z dst v u).op x=s.op x:=by
 cases x with
 | tmp t =>
  cases dst with
  | none=>rfl
  | some d =>
   have:=f7 _ _ h
   show (if d=t then v else s.ℓ t)=s.ℓ t;rw [if_neg (λhd=>this (by rw [hd];exact Ae ..))]
 | _=>rfl
theorem Up.app_out {u:Up} {z:Nat} {η:Nat->Option HB} {j:Nat} (h:j ∉ u.names z):u.app z η j=η j:=by
 cases u with
 | no=>rfl
 | new b=>exact if_neg λhj=>h (by rw [<- hj];exact Ae ..)
 | set i b=>exact if_neg λhj=>h (by rw [<- hj];exact Ae ..)
 | del i=>exact if_neg λhj=>h (by rw [<- hj];exact Ae ..)
 | trade i b =>
  show (if z=j then _ else (if i=j then none else η j))=η j;rw [if_neg λhj=>h (by rw [<- hj];simp [Up.names]),if_neg λhj=>h (by rw [<- hj];simp [Up.names])]
theorem Up.app_in {u:Up} {z:Nat} {η η':Nat->Option HB} {j:Nat} (h:j∈u.names z):u.app z η j=u.app z η' j:=by
 cases u with
 | no=>simp [Up.names] at h
 | new b=>simp only [Up.names,A5] at h;subst h;simp [Up.app,fset]
 | set i b=>simp only [Up.names,A5] at h;subst h;simp [Up.app,fset]
 | del i=>simp only [Up.names,A5] at h;subst h;simp [Up.app,fset]
 | trade i b =>
  simp only [Up.names,Be,List.not_mem_nil,or_false] at h;show (if z=j then _ else (if i=j then none else η j))=(if z=j then _ else (if i=j then none else η' j));rcases h with rfl|rfl
  ·rw [if_pos rfl,if_pos rfl]
  ·rw [if_pos rfl,if_pos rfl]
theorem Up.comm {u u':Up} {z z':Nat} (h:vm (u.names z) (u'.names z')=true) (η:Nat->Option HB):u.app z (u'.app z' η)=u'.app z' (u.app z η):=by
 funext j;by_cases h1:j∈u.names z
 ·have h2:=s9 h j h1;rw [Up.app_out h2];exact Up.app_in h1
 ·rw [Up.app_out h1];by_cases h2:j∈u'.names z'
  ·exact Up.app_in h2
  ·rw [Up.app_out h2,Up.app_out h2,Up.app_out h1]
theorem FS.app_comm {s:FS} {z z':Nat} {d d':Option Nat} {v v':SV} {u u':Up} (hd:nin d d'.toList=true) (h:vm (u.names z) (u'.names z')=true):(s.app z d v u).app z' d' v' u'=(s.app z' d' v' u').app z d v u:=by
 have hl:((s.app z d v u).put d' v').ℓ=((s.app z' d' v' u').put d v).ℓ:=by
  funext t;cases d with
  | none=>cases d'<;>rfl
  | some x =>
   cases d' with
   | none=>rfl
   | some y =>
    have hne:x≠y:=λhe=>f7 _ _ hd (by rw [he];exact Ae ..)
    show (if y=t then v' else if x=t then v else s.ℓ t)=(if x=t then v else if y=t then v' else s.ℓ t);by_cases h1:y=t
    ·rw [if_pos h1,if_neg (λh2=>hne (h2.trans h1.symm)),if_pos h1]
    ·rw [if_neg h1,if_neg h1]
 have hh:u'.app z' (u.app z s.η)=u.app z (u'.app z' s.η):=(Up.comm h s.η).symm;unfold FS.app;exact FS.mk.injEq ..▸⟨hl,hh⟩
theorem nin_flat {d:Option Nat} {xs:List Operand} (h:nin d (xs.flatMap tmpOf)=true):∀ x∈xs,nin d (tmpOf x)=true:=by
 intro x hx;cases d with
 | none=>rfl
 | some d=>exact n5 λhm=>f7 _ _ h (List.mem_flatMap.2 ⟨x,hx,hm⟩)
theorem nin_append {d:Option Nat} {l r:List Nat} (h:nin d (l++r)=true):nin d l=true/\nin d r=true:=by
 cases d with
 | none=>exact⟨rfl,rfl⟩
 | some d=>exact⟨n5 λhm=>f7 _ _ h (A0 _ hm),n5 λhm=>f7 _ _ h (B7 _ hm)⟩
theorem nin_uses {ops:List Oper} {d:Option Nat} {o:Oper} (h:nin d (usesO ops o)=true):(∀ x∈o.op.operands.toList,nin d (tmpOf x)=true)/\nin d (usesG ops o.guard)=true :=
 ⟨nin_flat (nin_append h).1,(nin_append h).2⟩
theorem wantedF_app {ops:List Oper} {s:FS} {z:Nat} {dst:Option Nat} {v:SV} {u:Up} {gd:Option (Nat×Bool)} (h:nin dst (usesG ops gd)=true):io ops (s.app z dst v u).ℓ gd=io ops s.ℓ gd:=by
 cases dst with
 | none=>rfl
 | some d =>
  cases gd with
  | none=>rfl
  | some q =>
   obtain⟨j,want⟩:=q;simp only [io,usesG] at h ⊢;cases ho:mi ops j with
   | none=>rfl
   | some o =>
    simp only [ho] at h ⊢;cases hd:o.dst with
    | none=>rfl
    | some t =>
     simp only [hd] at h ⊢;have hne:d≠t:=λhe=>f7 _ _ h (by rw [he];exact Ae ..)
     have:(s.app z (some d) v u).ℓ t=s.ℓ t:=if_neg hne
     rw [this]
def knowsF (ρ:Nat->Nat) (η:Nat->Option HB):Hp->Prop
 | []=>True
 | (i,b)::r=>η (ρ i)=some (b.ren ρ)/\knowsF ρ η r
theorem knowsF_is (ρ:Nat->Nat) (H:Hp):∀ Hc:Hp,knowsF ρ (Hp.get H) Hc↔KnowsH ρ H Hc
 | []=>Iff.rfl
 | (_,_)::r=>and_congr Iff.rfl (knowsF_is ρ H r)
theorem um {ρ:Nat->Nat} {η η':Nat->Option HB}:∀ {Hc:Hp},(∀ i,i∈Hc.map (λp=>ρ p.1)->η i=η' i)->knowsF ρ η Hc->knowsF ρ η' Hc
 | [],_,_=>trivial
 | (i,b)::r,h,⟨h1,h2⟩=>⟨by rw [<- h (ρ i) (Ae ..)];exact h1,um (λj hj=>h j (Ah _ hj)) h2⟩
def yh (J:Nat):Hp->Bool
 | []=>true
 | (i,_)::r=>As i J && yh J r
theorem allBelow_spec {J:Nat}:∀ {H:Hp},yh J H=true->∀ p∈H,p.1<J
 | [],_,p,hp=>by simp at hp
 | (i,b)::r,h,p,hp=>by
  simp only [yh,Ad] at h
  rcases List.mem_cons.1 hp with rfl|hp
  ·exact Ac h.1
  ·exact allBelow_spec h.2 p hp
inductive Mv (Γ:Ctx) (ops:List Oper) (κ:Nat) (s:FS) (i:Nat) (o:Oper):Bool->(SV->Up->Prop)->List Nat->List Nat->Prop
 | skip:io ops s.ℓ o.guard=some false->dstOk Γ o.dst=true->Mv Γ ops κ s i o false (λv u=>v = .tup []/\u = .no) [] []
 | step (p:Prop) (v0:SV) (u0:Up):io ops s.ℓ o.guard=some true->ir Γ.τ s.op s.η (κ+i) o.dst o.op=some (p,v0,u0)->p->u0.okD Γ.dr->bt o.op=true->dstOk Γ o.dst=true ->
   Mv Γ ops κ s i o false (λv u=>v=v0/\u=u0) (kz s.op o.op) (u0.names (κ+i))
 | call (d:Nat) (f:FuncId) (x:Operand) (caps:List SV) (xs:List Operand) (ts:Array TypeId) (R:SV->Prop):io ops s.ℓ o.guard=some true->o.op = .call { callee:=.value x,args:=xs.toArray,argTypes:=ts }->o.dst=some d->s.op x = .fn f caps ->
   FnP Γ.dr Γ.P Γ.τ Γ.τok f (xs.map s.op++caps) R->SV.lowL 0 (xs.map s.op++caps)=true->bt o.op=true->As d Γ.n=true->Mv Γ ops κ s i o true (λv u=>R v/\u = .no) [] []
 | callR (d:Nat) (f:FuncId) (x:Operand) (caps:List SV) (xs:List Operand) (ts:Array TypeId) (ρ:Nat->Nat) (args:List SV) (J:Nat) (Hc:Hp) (R:SV->Prop):io ops s.ℓ o.guard=some true->o.op = .call { callee:=.value x,args:=xs.toArray,argTypes:=ts }->o.dst=some d->s.op x = .fn f caps ->
   FnOk Γ.dr Γ.P Γ.τ Γ.τok f args J J Hc (λ_ r H2=>R r/\H2=Hc)->xs.map s.op++caps=SV.renL ρ args->SV.lowL J args=true->knowsF ρ s.η Hc->Hp.low J Hc=true->a7 (Hc.map λp=>ρ p.1)=true->a7 (Hc.map (·.1))=true->yg J (Hc.map (·.1))=true->yh J Hc=true ->
   (∀ r,R r->r.low 0=true/\r.rowsGe J=true)->Hp.rowsGe J Hc=true->bt o.op=true->As d Γ.n=true->Mv Γ ops κ s i o true (λv u=>R v/\u = .no) (Hc.map λp=>ρ p.1) []
 | callW (d:Nat) (f:FuncId) (x:Operand) (caps:List SV) (xs:List Operand) (ts:Array TypeId) (te:TypeId) (es:Nat) (R:List (List D)->Prop):io ops s.ℓ o.guard=some true->o.op = .call { callee:=.value x,args:=xs.toArray,argTypes:=ts }->o.dst=some d->s.op x = .fn f caps ->
   FnRow Γ.dr Γ.P Γ.τ Γ.τok f (xs.map s.op++caps) te es R->SV.lowL 0 (xs.map s.op++caps)=true->bt o.op=true->As d Γ.n=true->Mv Γ ops κ s i o true (λv u=>∃ ys,R ys/\v = .row (κ+i)/\u = .new (.row te es ys)) [] [κ+i]
 | callT (d:Nat) (f:FuncId) (xs:List Operand) (ts:Array TypeId) (j:Nat) (args:List SV) (te0 te:TypeId) (es0 es:Nat) (ds:List (List D)) (R:List (List D)->Prop):io ops s.ℓ o.guard=some true->o.op = .call { callee:=.value (.func f),args:=xs.toArray,argTypes:=ts }->o.dst=some d ->
   FnTr Γ.dr Γ.P Γ.τ Γ.τok f args te0 es0 ds te es R->xs.map s.op=SV.renL (λ_=>j) args->SV.lowL 1 args=true->s.η j=some (.row te0 es0 ds)->bt o.op=true->As d Γ.n=true->Γ.dr=false ->
   Mv Γ ops κ s i o true (λv u=>∃ ys,R ys/\v = .row (κ+i)/\u = .trade j (.row te es ys)) [j] [j,κ+i]
 | callB (d:Nat) (f:FuncId) (xs:List Operand) (ts:Array TypeId) (j:Nat) (args:List SV) (ty:TypeId) (cs:List SV) (R:SV->List SV->Prop):io ops s.ℓ o.guard=some true->o.op = .call { callee:=.value (.func f),args:=xs.toArray,argTypes:=ts }->o.dst=some d ->
   FnBl Γ.dr Γ.P Γ.τ Γ.τok f args ty cs R->xs.map s.op=SV.renL (λ_=>j) args->SV.lowL 1 args=true->s.η j=some (.blk ty cs)->SV.lowL 0 cs=true->bt o.op=true->As d Γ.n=true ->
   Mv Γ ops κ s i o true (λv u=>∃ cs',R v cs'/\u = .set j (.blk ty cs')) [j] [j]
 | look (d:Nat) (j:Nat) (v0:SV):io ops s.ℓ o.guard=some true->isCall o=true->o.dst=some d->(∀ (k:Nat->Prop) (L:Sl) (H:Hp),(∀ x∈o.op.operands.toList,ai L x=s.op x)->Hp.get H j=s.η j->Ev Γ k L H o.op o.type v0)->As d Γ.n=true ->
   Mv Γ ops κ s i o true (λv u=>v=v0/\u = .no) [j] []
 | bs0 (d:Nat) (t te:TypeId) (es:Nat):io ops s.ℓ o.guard=some true->o.op = .buildSlice t 0 #[]->o.dst=some d->(aj Γ.τ t).sh = .slice te->(aj Γ.τ te).sh.known=true->(aj Γ.τ te).cells=es->As 0 es=true ->
   ek (aj Γ.τ te).zero=true->Aw (aj Γ.τ te).zero.length (aj Γ.τ te).cells=true->As d Γ.n=true->Mv Γ ops κ s i o true (λv u=>v = .row (κ+i)/\u = .new (.row te es [])) [] [κ+i]
inductive DR (Γ:Ctx) (ops:List Oper) (κ:Nat):List (Nat×Oper)->Log->(FS->Prop)->FS->Prop
 | nil {lg K s}:K s->DR Γ ops κ [] lg K s
 | cons {i:Nat} {o:Oper} {rest lg K s} (c:Bool) (S:SV->Up->Prop) (rd wr:List Nat):Mv Γ ops κ s i o c S rd wr->fz ops i rd wr lg=true->(∃ v u,S v u)->(∀ v u,S v u->u.names (κ+i)=wr) ->
   (∀ v u,S v u->DR Γ ops κ rest ((i,rd,wr)::lg) K (s.app (κ+i) o.dst v u))->DR Γ ops κ ((i,o)::rest) lg K s
section
variable {Γ : Ctx} {ops : List Oper} {κ : Nat} {s : FS} {i j : Nat} {o oi oj : Oper} {c : Bool} {S S' : SV -> Up -> Prop} {rd wr rd' wr' : List Nat}
theorem Mv.det (h:Mv Γ ops κ s i o false S rd wr) (h':Mv Γ ops κ s i o false S' rd' wr'):S=S'/\rd=rd'/\wr=wr':=by
 cases h with
 | skip hw _ =>
  cases h' with
  | skip _ _=>exact⟨rfl,rfl,rfl⟩
  | step _ _ _ hw'=>rw [hw] at hw';cases hw'
 | step p v0 u0 hw hs _ _ _ _ =>
  cases h' with
  | skip hw' _=>rw [hw] at hw';cases hw'
  | step p' v0' u0' _ hs' _ _ _ _ =>
   rw [hs] at hs';cases hs';exact⟨rfl,rfl,rfl⟩
theorem Mv.call_is (h:Mv Γ ops κ s i o true S rd wr):isCall o=true:=by
 cases h with
 | call d f x caps xs ts R _ ho=>unfold isCall;rw [ho]
 | callR d f x caps xs ts ρ args J Hc R _ ho=>unfold isCall;rw [ho]
 | callW d f x caps xs ts te es R _ ho=>unfold isCall;rw [ho]
 | callT d f xs ts j args te0 te es0 es ds R _ ho=>unfold isCall;rw [ho]
 | callB d f xs ts j args ty cs R _ ho=>unfold isCall;rw [ho]
 | look d j v0 _ hc=>exact hc
 | bs0 d t te es _ ho=>unfold isCall;rw [ho];rfl
theorem Mv.one (h:Mv Γ ops κ s i o false S rd wr) {v u v' u'} (h1:S v u) (h2:S v' u'):v=v'/\u=u':=by
 cases h with
 | skip=>exact⟨h1.1.trans h2.1.symm,h1.2.trans h2.2.symm⟩
 | step=>exact⟨h1.1.trans h2.1.symm,h1.2.trans h2.2.symm⟩
theorem Mv.move {z:Nat} {dst:Option Nat} {v:SV} {u:Up} (ha:nin dst (usesO ops o)=true) (hd:∀ i,i∈rd->i ∉ u.names z):Mv Γ ops κ (s.app z dst v u) i o c S rd wr↔Mv Γ ops κ s i o c S rd wr:=by
 obtain⟨h1,h2⟩:=nin_uses ha;have hop:∀ x∈o.op.operands.toList,(s.app z dst v u).op x=s.op x:=λx hx=>FS.op_app (h1 x hx)
 have hw:io ops (s.app z dst v u).ℓ o.guard=io ops s.ℓ o.guard:=wantedF_app h2;have hrd:kz (s.app z dst v u).op o.op=kz s.op o.op:=by
  unfold kz;rw [ob (g:=λx=>(s.op x).nm) λx hx=>by rw [hop x hx],rdsR_congr o.op hop]
 have hst:(∀ i,i∈kz s.op o.op->i ∉ u.names z)->ir Γ.τ (s.app z dst v u).op (s.app z dst v u).η (κ+i) o.dst o.op=ir Γ.τ s.op s.η (κ+i) o.dst o.op:=λhd =>
  stepC_congr _ _ _ hop (λx hx i hi=>Up.app_out (hd i (A0 _ (List.mem_filterMap.2 ⟨x,hx,by rw [<- hop x hx];exact hi⟩)))) λi hi=>Up.app_out (hd i (B7 _ (by rw [<- rdsR_congr o.op hop];exact hi)))
 have hcall:∀ (x:Operand) (xs:List Operand) (ts:Array TypeId),o.op = .call { callee:=.value x,args:=xs.toArray,argTypes:=ts }->(s.app z dst v u).op x=s.op x/\xs.map (s.app z dst v u).op=xs.map s.op:=by
  intro x xs ts ho;exact⟨hop x (by rw [ho];simp [Op.operands,Call.operands]),Df λy hy=>hop y (by rw [ho];simp [Op.operands,Call.operands,hy])⟩
 constructor
 ·intro h;cases h with
  | skip a b=>exact .skip (hw▸a) b
  | step p v0 u0 a b c d e f=>exact hrd▸.step p v0 u0 (hw▸a) (hst (hrd▸hd)▸b) c d e f
  | call d f x caps xs ts R a b c e g h k l =>
   obtain⟨q1,q2⟩:=hcall x xs ts b;rw [q1] at e;rw [q2] at g h;exact .call d f x caps xs ts R (hw▸a) b c e g h k l
  | callR d f x caps xs ts ρ args J Hc R a b c e g h i j k l m n o' p q r t =>
   obtain⟨q1,q2⟩:=hcall x xs ts b;rw [q1] at e;rw [q2] at h;exact .callR d f x caps xs ts ρ args J Hc R (hw▸a) b c e g h i (um (λy hy=>Up.app_out (hd y hy)) j) k l m n o' p q r t
  | callW d f x caps xs ts te es R a b c e g h k l =>
   obtain⟨q1,q2⟩:=hcall x xs ts b;rw [q1] at e;rw [q2] at g h;exact .callW d f x caps xs ts te es R (hw▸a) b c e g h k l
  | callT d f xs ts j args te0 te es0 es ds R a b c e g h k l m n =>
   obtain⟨_,q2⟩:=hcall (.func f) xs ts b;rw [q2] at g;have k':u.app z s.η j=some (.row te0 es0 ds):=k;rw [Up.app_out (hd j (Ae ..))] at k';exact .callT d f xs ts j args te0 te es0 es ds R (hw▸a) b c e g h k' l m n
  | callB d f xs ts j args ty cs R a b c e g h k l m n =>
   obtain⟨_,q2⟩:=hcall (.func f) xs ts b;rw [q2] at g;have k':u.app z s.η j=some (.blk ty cs):=k;rw [Up.app_out (hd j (Ae ..))] at k';exact .callB d f xs ts j args ty cs R (hw▸a) b c e g h k' l m n
  | look d j v0 a b c e f=>exact .look d j v0 (hw▸a) b c (λk L H h1 h2=>e k L H (λx hx=>(h1 x hx).trans (hop x hx).symm) (h2.trans (Up.app_out (hd j (Ae ..))).symm)) f
  | bs0 d t te es a b c e f g h j k l=>exact .bs0 d t te es (hw▸a) b c e f g h j k l
 ·intro h;cases h with
  | skip a b=>exact .skip (hw▸a) b
  | step p v0 u0 a b c d e f=>exact hrd▸.step p v0 u0 (hw▸a) ((hst hd).symm▸b) c d e f
  | call d f x caps xs ts R a b c e g h k l =>
   obtain⟨q1,q2⟩:=hcall x xs ts b;rw [<- q1] at e;rw [<- q2] at g h;exact .call d f x caps xs ts R (hw▸a) b c e g h k l
  | callR d f x caps xs ts ρ args J Hc R a b c e g h i j k l m n o' p q r t =>
   obtain⟨q1,q2⟩:=hcall x xs ts b;rw [<- q1] at e;rw [<- q2] at h;exact .callR d f x caps xs ts ρ args J Hc R (hw▸a) b c e g h i (um (λy hy=>(Up.app_out (hd y hy)).symm) j) k l m n o' p q r t
  | callW d f x caps xs ts te es R a b c e g h k l =>
   obtain⟨q1,q2⟩:=hcall x xs ts b;rw [<- q1] at e;rw [<- q2] at g h;exact .callW d f x caps xs ts te es R (hw▸a) b c e g h k l
  | callT d f xs ts j args te0 te es0 es ds R a b c e g h k l m n =>
   obtain⟨_,q2⟩:=hcall (.func f) xs ts b;rw [<- q2] at g;exact .callT d f xs ts j args te0 te es0 es ds R (hw▸a) b c e g h ((Up.app_out (hd j (Ae ..))).trans k) l m n
  | callB d f xs ts j args ty cs R a b c e g h k l m n =>
   obtain⟨_,q2⟩:=hcall (.func f) xs ts b;rw [<- q2] at g;exact .callB d f xs ts j args ty cs R (hw▸a) b c e g h ((Up.app_out (hd j (Ae ..))).trans k) l m n
  | look d j v0 a b c e f=>exact .look d j v0 (hw▸a) b c (λk L H h1 h2=>e k L H (λx hx=>(h1 x hx).trans (hop x hx)) (h2.trans (Up.app_out (hd j (Ae ..))))) f
  | bs0 d t te es a b c e f g h j k l=>exact .bs0 d t te es (hw▸a) b c e f g h j k l
end
end
end Go.Proofs.YtapciiffpnociadGreat
