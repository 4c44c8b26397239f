/- Several texts in one: GxIns DagE. Condition: none. -/
import Derived.Test.YtapciiffpnociaaGreatP09
import Derived.Laws.LoneSync
import Derived.Lib.AppendZerosOnto
import Derived.Test.YtapciiffpnociaaGreatP13
namespace Go.Proofs.YtapciiffpnociaaGreat
open Go Go.RowKit
theorem run_copy_rowN {P:Program} (w:World) (dT sT ty elem:TypeId) (g o dLen dCap:Nat) (a:Addr) (sLen sCap:Nat) (cur:Array Value) (t:TypeId) (cs:List Value) (inf:TypeInfo)
  (hu:P.underlying dT=some (.slice elem)) (hi:P.info? elem=some inf) (hg:w.heap[g]? = some (.cells cur t (0,0))) (hn:cs.length=Nat.min sLen dLen * inf.size)
  (hsrc:∀ j v,cs[j]? = some v→w.cell? (a.add j)=some v) (hfit:o + cs.length≤cur.size) (h1:∀ v∈cs,v.oneCell' = true) :
  (Builtin.copy_ #[dT,sT] ty #[.slice (some ⟨g,o,none⟩) dLen dCap,.slice (some a) sLen sCap]).run P w =
   .ok (goInt (Nat.min sLen dLen)) (w.setRow g (cur.toList.take o++cs++cur.toList.drop (o + cs.length)).toArray):=by
 have hf:=run_firstCells_some (P:=P) w inf.size (Nat.min sLen dLen) a sLen sCap cs hn hsrc
 have hst:=run_storeCells_at P g o t cs 0 cur w hg (by simpa using hfit) h1
 simp only [Nat.add_zero] at hst
 simp [Builtin.copy_,run_underlying hu,Builtin.lenOf,sizeOf,typeInfo,hi,hf,hst]
theorem frozen_own {w:World} {g:Nat} {cur:Array Value} {t:TypeId} (hg:w.heap[g]? = some (.cells cur t (0,0))) (o:Nat) (s:Option Nat):w.frozen? ⟨g,o,s⟩=false:=by
 unfold World.frozen?
 rw [hg]
 cases s <;> simp
theorem run_overlaps_own {P:Program} (w:World) (tS tR e:TypeId) (ht:P.underlying tS=some (.slice e)) (size:Nat) (hz:∀ w,(Go.sizeOf e).run P w = .ok size w)
  (a b:Addr) (la ca lb cb:Nat) (hne:a.block≠b.block) (tA tB:TypeId) (kA kB:Nat) (hsa:w.shape? a.block=some (tA,kA)) (hsb:w.shape? b.block=some (tB,kB)) (hkA:kA≠0)
  (hfb:w.frozen? b=false) (hfe:w.frozen? { block:=b.block,off:=kB }=false) :
  (Extern.SlicesOverlaps.overlaps #[tS,tS] #[tR] #[.slice (some a) la ca,.slice (some b) lb cb]).run P w = .ok (.bool false) w:=by
 have hnb:(a.block != b.block)=true:=by simpa using hne
 have hnb':(a.block == b.block)=false:=by simpa using hne
 change Sem.run P (α:=Value) (do
  let some t := (#[tS, tS] : Array TypeId)[0]? | stuck "slices.overlaps: no parameter types"
  let .slice elem ← underlying t | stuck "slices.overlaps: slice type expected"
  let size ← sizeOf elem
  match (some a:Option Addr),(some b:Option Addr) with
  | some a,some b =>
   if la=0∨lb=0∨size=0 then pure (Value.bool false)
   else if a.block != b.block && (← frozen a) && (← frozen b) then unsupported .addressObserved
   else do
    if a.block != b.block then do
     noView a;noView b
     if ← mayBeOne a b then return Value.bool ((← choose (.extern "sameAddr.stringBytes" 2)) == 1)
    pure (Value.bool (a.block == b.block && a.off < b.off + lb * size && b.off < a.off + la * size))
  | _,_=>pure (Value.bool false)) w=_
 by_cases h0:la=0∨lb=0∨size=0
 ·simp [run_underlying ht,hz,h0]
 ·cases kA with
  | zero=>exact absurd rfl hkA
  | succ kA =>
   cases hfa:w.frozen? a <;> cases hfa2:w.frozen? { block:=a.block,off:=kA + 1 } <;>
    simp [run_underlying ht,hz,h0,hnb,hnb',frozen,noView,viewAt,mayBeOne,stringish,shape,Sem.run,hsa,hsb,hfb,hfe,hfa,hfa2]
section
variable {Γ : Ctx} {kk : Nat → Prop} {L : Sl} {H : Hp} {a : Act} {w : World} {e : Env}
theorem row_at (m:Models Γ kk L H e a w) {i es g n c:Nat} {tb:TypeId} {xs:List (List D)} (hH:Hp.get H i=some (.row tb es xs)) (hη:e.η i = .slice (some ⟨g,0,none⟩) n c) :
  ∃ (cur:Array Value) (vs:List Value),w.heap[g]? = some (.cells cur tb (0,0))∧n=xs.length∧xs.length≤c∧c≤maxLen∧cur.size=c * es∧cur.toList.take (xs.length * es)=vs∧vs.length=xs.length * es ∧
   (∀ p (hp:p < xs.length),(xs[p]'hp).length=es)∧(∀ v∈vs,v.oneCell' = true)∧∀ p (hp:p < xs.length) q (hq:q < (xs[p]'hp).length),∃ v,vs[p * es + q]? = some v∧RepC (Γ.X e H) w v ((xs[p]'hp)[q]'hq):=by
 obtain⟨vs,ho,hes,hone,hrep⟩:=(m.heap _ (Hp.mem_of hH)).2
 rcases ho.2 with ⟨h2,_⟩|⟨g',cap',cur,h2,_,hg,hnc,hcm,hcs,htake⟩
 ·rw [hη] at h2;cases h2
 ·rw [hη] at h2
  cases h2
  exact⟨cur,vs,hg,rfl,hnc,hcm,hcs,htake,ho.1,hes,hone,hrep⟩
theorem cell_cur {w:World} {g:Nat} {cur:Array Value} {t:TypeId} (hg:w.heap[g]? = some (.cells cur t (0,0))) (j:Nat):w.cell? ⟨g,j,none⟩=cur[j]?:=by
 simp [World.cell?,hg]
theorem seg_cells {es:Nat} {xs:List (List D)} {vs:List Value} (hl:vs.length=xs.length * es) (hes:∀ p (hp:p < xs.length),(xs[p]'hp).length=es) {X:Nat→Prop} {w:World} (hrep:∀ p (hp:p < xs.length) q (hq:q < (xs[p]'hp).length),∃ v,vs[p * es + q]? = some v∧RepC X w v ((xs[p]'hp)[q]'hq))
  {j q:Nat} (hjq:j + q≤xs.length):((vs.drop (j * es)).take (q * es)).length=((xs.drop j).take q).length * es∧(∀ p (hp:p < ((xs.drop j).take q).length),(((xs.drop j).take q)[p]'hp).length=es) ∧
   ∀ p (hp:p < ((xs.drop j).take q).length) r (hr:r < (((xs.drop j).take q)[p]'hp).length),∃ v,((vs.drop (j * es)).take (q * es))[p * es + r]? = some v∧RepC X w v ((((xs.drop j).take q)[p]'hp)[r]'hr):=by
 have hq:((xs.drop j).take q).length=q:=by rw [List.length_take,List.length_drop];omega
 have hge:∀ p (hp:p < ((xs.drop j).take q).length),((xs.drop j).take q)[p]'hp=xs[j + p]'(by omega):=fun p hp=>by rw [List.getElem_take,List.getElem_drop]
 have hm:j * es + q * es≤xs.length * es:=by rw [← Nat.add_mul];exact Nat.mul_le_mul_right _ hjq
 refine⟨by rw [hq,List.length_take,List.length_drop];omega,fun p hp=>by rw [hge p hp];exact hes _ _,fun p hp r hr=>?_⟩
 have hr':r < (xs[j + p]'(by omega)).length:=by rw [← hge p hp];exact hr
 obtain⟨v,h1,h2⟩:=hrep (j + p) (by omega) r hr'
 refine⟨v,?_,by simpa [hge p hp] using h2⟩
 have hre:r < es:=by rw [← hes (j + p) (by omega)];exact hr'
 have hlt:p * es + r < q * es:=by
  have:(p + 1) * es≤q * es:=Nat.mul_le_mul_right _ (by omega)
  rw [Nat.add_mul] at this;omega
 rw [List.getElem?_take,if_pos hlt,List.getElem?_drop,← h1]
 congr 1
 rw [Nat.add_mul];omega
end
section
variable {Γ : Ctx} {k : Nat} {L : Sl} {H H' : Hp} {K : cq} {ops : List Oper} {rest : List Oper} {t t' : TypeId} {x y : Operand}
theorem anchor_η {kk:Nat→Prop} {a:Act} {w:World} {e:Env} (m:Models Γ kk L H e a w) {i:Nat} {v:Value} (hJ:Nat.blt i Γ.J=true) (hη:(Γ.β0 i).2=v):e.η i=v:=by
 have:=m.anchor i (Nat.le_of_ble_eq_true hJ)
 rw [← hη,← this]
 rfl
theorem ds_capRow {d i es:Nat} {tb ty:TypeId} {pos:String} {af:Array Edge} {g:Option (Nat × Bool)} {xs:List (List D)} (hx:a8 L x = .row i) (hH:Hp.get H i=some (.row tb es xs)) (hJ:Nat.blt i Γ.J=true) (ht:(ay Γ.τ t).sh = .slice t') (hw:bf ops L g=some true) (hd:Nat.blt d Γ.n=true)
  (h0:xs=[]→DS false Γ ops rest K k ((d,.d (.int .i64 0))::L) H)
  (h1:∀ g0 c,(Γ.β0 i).2 = .slice (some ⟨g0,0,none⟩) xs.length c→xs.length≤c→c≤maxLen→DS false Γ ops rest K k ((d,.d (.int .i64 c))::L) H) :
  DS false Γ ops (⟨some d,.call { callee:=.builtin .cap,args:=#[x],argTypes:=#[t] },ty,pos,af,g⟩::rest) K k L H:=by
 refine gl hw fun e a w m=>?_
 obtain⟨_,hv,_⟩:=evT m hx (kg · _)
 have ha:=m.anchor i (Nat.le_of_ble_eq_true hJ)
 obtain⟨vs,ho,_⟩:=(m.heap _ (Hp.mem_of hH)).2
 rcases ho.2 with ⟨hη,h3⟩|⟨g0,c,cur,hη,_,_,hnc,hmx,_⟩
 ·rw [hη] at hv
  have hrun:(execOp a.eval ⟨some d,.call { callee:=.builtin .cap,args:=#[x],argTypes:=#[t] },ty,pos,af,g⟩).run Γ.P w = .ok (.value (.int .i64 0)) w:=by
   simp [execOp,resolve,invoke,builtin,hv,Builtin.cap_,goInt,run_underlying (Ctx.slice ht)]
  unfold Oper.wp
  rw [hrun]
  exact⟨k,_,H,e,m.put (s:=.d (.int .i64 0)) (v:=.int .i64 0) (Nat.le_of_ble_eq_true hd) (RepC.int (by decide)),h0 (List.eq_nil_of_length_eq_zero h3)⟩
 ·rw [hη] at hv
  have hrun:(execOp a.eval ⟨some d,.call { callee:=.builtin .cap,args:=#[x],argTypes:=#[t] },ty,pos,af,g⟩).run Γ.P w = .ok (.value (.int .i64 c)) w:=by
   simp [execOp,resolve,invoke,builtin,hv,Builtin.cap_,goInt,run_underlying (Ctx.slice ht)]
  unfold Oper.wp
  rw [hrun]
  exact⟨k,_,H,e,m.put (s:=.d (.int .i64 c)) (v:=.int .i64 c) (Nat.le_of_ble_eq_true hd) (RepC.int (WalkArith.wf_i64 (by unfold maxLen at hmx;omega))),h1 g0 c (by rw [← hη];exact (congrArg Prod.snd ha).symm) hnc hmx⟩
theorem highC_some (s:SV) (a b:Nat):iz a (some s)=iz b (some s):=by
 unfold iz
 split <;> first|rfl|simp_all
theorem ev_slice_ext {kk:Nat→Prop} {i es g0 n0 c:Nat} {ty:TypeId} {hi:Option Operand} {m':Int} {len:Nat} (ht:(ay Γ.τ t).sh = .slice t') (hkn:(ay Γ.τ t').sh.known=true) (hx:a8 L x = .row i) (hJ:Nat.blt i Γ.J=true) (hη:(Γ.β0 i).2 = .slice (some ⟨g0,0,none⟩) n0 c)
  (hh:iz len (hi.map (a8 L))=some m') (hlen:hi=none→len=n0) (h0:0≤m') (h2:m'≤c) (hmx:c≤maxLen):Ev Γ kk L H (.slice t x none hi none) ty (.rsl i es 0 m'.toNat):=by
 intro e a w m
 obtain⟨hd,hv,_⟩:=evT m hx (kg · _)
 have he:=anchor_η m hJ hη
 rw [he] at hv
 cases hi with
 | none =>
  have hl:=hlen rfl
  subst hl
  cases hh
  have hrun:=fun w'=>jm (len:=len) (cap:=c) (lo:=none) (hi:=none) (n:=0) (m':=len) m (some ⟨g0,0,none⟩) ht hkn rfl rfl (Int.le_refl 0) (by omega) (by omega) w'
  refine⟨sliced (some ⟨g0,0,none⟩) 0 len c (Γ.cells t'),fun _ _ _ _ w' _=>?_,hd,?_,.inr ⟨g0,len,c,0,he,Nat.zero_le _,hmx,by omega,?_,fun _=>by simp⟩⟩
  ·have:=hrun w'
   simp only [Option.map_none] at this
   simp [execOp,Instr.sliceAt,hv,run_underlying (Ctx.slice ht),this]
  ·unfold sliced;split <;> rfl
  ·unfold sliced;split <;> simp [Addr.add_at]
 | some z =>
  rw [Option.map_some,highC_some _ len n0] at hh
  have hrun:=fun w'=>jm (len:=n0) (cap:=c) (lo:=none) (hi:=some z) (n:=0) (m':=m') m (some ⟨g0,0,none⟩) ht hkn rfl hh (Int.le_refl 0) h0 (by omega) w'
  refine⟨sliced (some ⟨g0,0,none⟩) 0 m'.toNat c (Γ.cells t'),fun _ _ _ _ w' _=>?_,hd,?_,.inr ⟨g0,n0,c,0,he,Nat.zero_le _,hmx,by omega,?_,fun _=>by simp⟩⟩
  ·have:=hrun w'
   simp only [Option.map_none,Option.map_some] at this
   simp [execOp,Instr.sliceAt,hv,run_underlying (Ctx.slice ht),this]
  ·unfold sliced;split <;> rfl
  ·unfold sliced;split <;> simp [Addr.add_at]
theorem ev_slice_far {kk:Nat→Prop} {i es j len:Nat} {tb ty:TypeId} {xs:List (List D)} {lo hi:Operand} {n m':Int} (ht:(ay Γ.τ t).sh = .slice t') (hc:(ay Γ.τ t').cells=es) (hkn:(ay Γ.τ t').sh.known=true) (hx:a8 L x = .rsl i es j len) (hH:Hp.get H i=some (.row tb es xs))
  (hl:a8 L lo = .d (.int .i64 n)) (hh:a8 L hi = .d (.int .i64 m')) (h0:0≤n) (h1:n≤m') (h2:j + m'.toNat≤xs.length) (hpos:0 < xs.length):Ev Γ kk L H (.slice t x (some lo) (some hi) none) ty (.rsl i es (j + n.toNat) (m'.toNat - n.toNat)):=by
 intro e a w m
 obtain⟨hd,_,hcs⟩:=evT m hx (js · _ _ _ _)
 rcases hcs with ⟨hη,hv,rfl,rfl⟩|⟨g,n0,cap,o,hη,hk,hmx,hn,hv,ho⟩
 ·obtain⟨vs,hown,_⟩:=(m.heap _ (Hp.mem_of hH)).2
  rcases hown.2 with ⟨_,h3⟩|⟨g',cap',cur,h3,_⟩
  ·omega
  ·rw [hη] at h3;cases h3
 ·obtain⟨cur,vs,_,hnx,hxc,_⟩:=row_at m hH hη
  have hrun:=fun w'=>jm (len:=len) (cap:=cap - j) (lo:=some lo) (hi:=some hi) (n:=n) (m':=m') m (some ⟨g,o,none⟩) ht hkn (by simp [lowC,hl]) (by simp [iz,hh]) h0 h1 (by omega) w'
  refine⟨sliced (some ⟨g,o,none⟩) n.toNat m'.toNat (cap - j) (Γ.cells t'),fun _ _ _ _ w' _=>?_,hd,?_,.inr ⟨g,n0,cap,if cap - j=n.toNat then o else o + n.toNat * es,hη,by omega,hmx,by omega,?_,?_⟩⟩
  ·have:=hrun w'
   simp only [Option.map_some] at this
   simp [execOp,Instr.sliceAt,hv,run_underlying (Ctx.slice ht),this]
  ·unfold sliced;split <;> rfl
  ·unfold sliced
   split
   ·rw [Nat.sub_sub]
   ·rw [Option.map_some,Addr.add_at,Nat.sub_sub]
    have hc':Γ.cells t' = es:=hc
    rw [hc']
  ·intro h
   have hoj:j < cap∨j=0:=by omega
   have:=ho hoj
   subst this
   split
   ·rename_i hcap
    rcases h with h|h
    ·omega
    ·have:n.toNat=0:=by omega
     rw [this,Nat.add_zero]
   ·rw [Nat.add_mul]
theorem ev_slice3 {kk:Nat→Prop} {i es:Nat} {tb ty:TypeId} {xs:List (List D)} {lo hi mx:Operand} {n m' p:Int} (ht:(ay Γ.τ t).sh = .slice t') (hkn:(ay Γ.τ t').sh.known=true) (hx:a8 L x = .row i) (hH:Hp.get H i=some (.row tb es xs))
  (hl:a8 L lo = .d (.int .i64 n)) (hh:a8 L hi = .d (.int .i64 m')) (hm:a8 L mx = .d (.int .i64 p)) (h0:0≤n) (h1:n≤m') (h2:m'≤p) (h3:p≤xs.length):Ev Γ kk L H (.slice t x (some lo) (some hi) (some mx)) ty .junk:=by
 intro e a w m
 obtain⟨hd,hv,_⟩:=evT m hx (kg · _)
 obtain⟨inf,z,hi',_,hs,_⟩:=Ctx.info (Sh.known_ne hkn)
 have e1:=evI m hl
 have e2:=evI m hh
 have e3:=evI m hm
 obtain⟨vs,ho,_⟩:=(m.heap _ (Hp.mem_of hH)).2
 have key:∀ (ao:Option Addr) (len cap:Nat),xs.length≤cap→∃ v,∀ w',(Instr.slice t (.slice ao len cap) (some (.int .i64 n)) (some (.int .i64 m')) (some (.int .i64 p))).run Γ.P w' = .ok v w':=by
  intro ao len cap hc
  have hn:n≤max m' 0:=by omega
  have hm':m'≤max p 0:=by omega
  have hp:p≤(cap:Int):=by omega
  have h01:0≤m':=by omega
  have h02:0≤p:=by omega
  refine⟨.slice (if p.toNat=n.toNat then ao else ao.map (·.add (n.toNat * inf.size))) (m'.toNat - n.toNat) (p.toNat - n.toNat),fun w'=>?_⟩
  have hz:(sizeOf t').run Γ.P w' = .ok inf.size w':=dl hi' w'
  simp [Instr.slice,run_underlying (Ctx.slice ht),Instr.sliceBounds,Instr.sliceBound,asIntOf,hn,hm',hp,h0,h01,h02,hz,Result.andThen]
 rcases ho.2 with ⟨hη,h4⟩|⟨g,cap,cur,hη,_,_,hnc,hmx,_⟩
 ·rw [hη] at hv
  obtain⟨v,hk2⟩:=key none 0 0 (by omega)
  refine⟨v,fun _ _ _ _ w' _=>?_,trivial⟩
  simp [execOp,Instr.sliceAt,hv,run_underlying (Ctx.slice ht),e1,e2,e3,hk2 w']
 ·rw [hη] at hv
  obtain⟨v,hk2⟩:=key (some ⟨g,0,none⟩) xs.length cap (by omega)
  refine⟨v,fun _ _ _ _ w' _=>?_,trivial⟩
  simp [execOp,Instr.sliceAt,hv,run_underlying (Ctx.slice ht),e1,e2,e3,hk2 w']
theorem copy_core {kk:Nat→Prop} {a:Act} {w:World} {e:Env} (m:Models Γ kk L H e a w) {d i es j n sLen sCap:Nat} {tb ty t2:TypeId} {pos:String} {af:Array Edge} {g:Option (Nat × Bool)} {xs ys:List (List D)} {N:List Value} {ad:Addr}
  (hx:a8 L x = .rsl i es j n) (hH:Hp.get H i=some (.row tb es xs)) (ht:(ay Γ.τ t).sh = .slice t') (hkn:(ay Γ.τ t').sh.known=true) (hes:(ay Γ.τ t').cells=es) (h0:0 < ys.length) (hq:ys.length=Nat.min sLen n) (hj:j + ys.length≤xs.length)
  (hv:a.eval y = .slice (some ad) sLen sCap) (hN:N.length=ys.length * es) (hyl:∀ p (hp:p < ys.length),(ys[p]'hp).length=es) (h1:∀ v∈N,v.oneCell' = true) (hr:∀ p (hp:p < ys.length) q (hq:q < (ys[p]'hp).length),∃ v,N[p * es + q]? = some v∧RepC (Γ.X e H) w v ((ys[p]'hp)[q]'hq))
  (hsrc:∀ j v,N[j]? = some v→w.cell? (ad.add j)=some v) :
  ∃ w',(execOp a.eval ⟨some d,.call { callee:=.builtin .copy,args:=#[x,y],argTypes:=#[t,t2] },ty,pos,af,g⟩).run Γ.P w = .ok (.value (.int .i64 ys.length)) w'∧Models Γ kk L (Hp.set H i (.row tb es (xs.take j++ys++xs.drop (j + ys.length)))) e a w':=by
 obtain⟨inf,z,hi,_,hs,_⟩:=Ctx.info (Sh.known_ne hkn)
 have hsz:inf.size=es:=by rw [hs];exact hes
 obtain⟨_,_,hcs⟩:=evT m hx (js · _ _ _ _)
 obtain⟨vs,hown,_⟩:=(m.heap _ (Hp.mem_of hH)).2
 rcases hcs with ⟨hη,_,rfl,rfl⟩|⟨g0,n0,cap,o,hη,hk,hmx,hn,hvx,ho⟩
 ·rw [hq] at h0
  simp at h0
 ·rcases hown.2 with ⟨h2,_⟩|⟨g',cap',cur,h2,_,hg,hnc,_,_⟩
  ·rw [hη] at h2;cases h2
  rw [hη] at h2
  cases h2
  have hoj:=ho (by omega)
  subst hoj
  obtain⟨hfit,m2⟩:=row_write m hH (j:=j) (ys:=ys) (N:=N) hj hN hyl h1 hr hη hg
  have hrun:=run_copy_rowN (P:=Γ.P) w t t2 ty t' g0 (j * es) n (cap - j) ad sLen sCap cur tb N inf (Ctx.slice ht) hi hg (by rw [hN,hsz,hq]) hsrc hfit h1
  refine⟨_,?_,m2⟩
  simp only [execOp,resolve,invoke,builtin,Sem.run_bind,Sem.run_pure,Result.andThen_ok,List.map_toArray,List.map_cons,List.map_nil,hvx,hv,hrun,goInt,hq]
theorem ds_copyD {d i es j n:Nat} {tb ty t2:TypeId} {pos:String} {af:Array Edge} {g:Option (Nat × Bool)} {xs ys:List (List D)} (hx:a8 L x = .rsl i es j n) (hH:Hp.get H i=some (.row tb es xs)) (hy:a8 L y = .d (.slice es ys)) (ht:(ay Γ.τ t).sh = .slice t') (hkn:(ay Γ.τ t').sh.known=true) (hes:(ay Γ.τ t').cells=es)
  (h0:0 < ys.length) (hn:ys.length≤n) (hj:j + ys.length≤xs.length) (hw:bf ops L g=some true) (hd:Nat.blt d Γ.n=true) (hS:setF H i (.row tb es (xs.take j++ys++xs.drop (j + ys.length))) some=some H') (hk:DS false Γ ops rest K k ((d,.d (.int .i64 ys.length))::L) H') :
  DS false Γ ops (⟨some d,.call { callee:=.builtin .copy,args:=#[x,y],argTypes:=#[t,t2] },ty,pos,af,g⟩::rest) K k L H:=by
 rw [ke] at hS
 cases hS
 refine gl hw fun e a w m=>?_
 have hry:=evT m hy (k7 · _ _)
 obtain⟨ao,capy,hvy,hlc,hcy,hnone⟩:=hry.slice_inv
 cases ao with
 | none=>exact absurd (hnone rfl) (fun h=>by rw [h] at h0;simp at h0)
 | some ad =>
  have hr:=hry
  rw [hvy] at hr
  obtain⟨_,hye,us,u1,u2,u3,u4⟩:=sliceAddr hr
  obtain⟨w',hrun,m2⟩:=copy_core (d:=d) (ty:=ty) (t2:=t2) (pos:=pos) (af:=af) (g:=g) m hx hH ht hkn hes h0 (Nat.min_eq_left hn).symm hj hvy u1 hye u3 u4 u2
  unfold Oper.wp
  rw [hrun]
  refine⟨k,_,_,e,m2.put (s:=.d (.int .i64 ys.length)) (v:=.int .i64 ys.length) (Nat.le_of_ble_eq_true hd) (RepC.int (WalkArith.wf_i64 ?_)),hk⟩
  unfold maxLen at hcy
  omega
theorem view_cells {kk:Nat→Prop} {a:Act} {w:World} {e:Env} (m:Models Γ kk L H e a w) {i es p len q:Nat} {tb:TypeId} {xs:List (List D)} (hy:a8 L y = .rsl i es p len) (hH:Hp.get H i=some (.row tb es xs)) (hp:p + q≤xs.length) (hq:0 < q) (hl:q≤len) :
  ∃ (ad:Addr) (sCap:Nat) (N:List Value),a.eval y = .slice (some ad) len sCap∧N.length=((xs.drop p).take q).length * es∧(∀ r (hr:r < ((xs.drop p).take q).length),(((xs.drop p).take q)[r]'hr).length=es)∧(∀ v∈N,v.oneCell' = true) ∧
   (∀ r (hr:r < ((xs.drop p).take q).length) s (hs:s < (((xs.drop p).take q)[r]'hr).length),∃ v,N[r * es + s]? = some v∧RepC (Γ.X e H) w v ((((xs.drop p).take q)[r]'hr)[s]'hs))∧∀ j v,N[j]? = some v→w.cell? (ad.add j)=some v:=by
 obtain⟨_,_,hcs⟩:=evT m hy (js · _ _ _ _)
 rcases hcs with ⟨hη,_,rfl,rfl⟩|⟨g0,n0,cap,o,hη,hk,hmx,hn,hvx,ho⟩
 ·omega
 ·obtain⟨cur,vs,hg,rfl,hnc,hcm,hcs,htake,hlen,hes,hone,hrep⟩:=row_at m hH hη
  have hoj:=ho (by omega)
  subst hoj
  obtain⟨s1,s2,s3⟩:=seg_cells hlen hes hrep (j:=p) (q:=q) hp
  refine⟨⟨g0,p * es,none⟩,cap - p,(vs.drop (p * es)).take (q * es),hvx,s1,s2,fun v hv=>hone v (List.mem_of_mem_drop (List.mem_of_mem_take hv)),s3,fun j v hj=>?_⟩
  have hjl:j < q * es:=by
   rw [List.getElem?_take] at hj
   split at hj
   ·assumption
   ·cases hj
  rw [List.getElem?_take,if_pos hjl,List.getElem?_drop,← htake,List.getElem?_take] at hj
  split at hj
  ·rw [Addr.add_lit,cell_cur hg,← hj,Array.getElem?_toList]
  ·cases hj
theorem ds_copyRR (q:Nat) {d i es j n i2 p len:Nat} {tb tb2 ty t2:TypeId} {pos:String} {af:Array Edge} {g:Option (Nat × Bool)} {xs zs:List (List D)} (hx:a8 L x = .rsl i es j n) (hH:Hp.get H i=some (.row tb es xs)) (hy:a8 L y = .rsl i2 es p len) (hH2:Hp.get H i2=some (.row tb2 es zs))
  (ht:(ay Γ.τ t).sh = .slice t') (hkn:(ay Γ.τ t').sh.known=true) (hes:(ay Γ.τ t').cells=es) (h0:0 < q) (hq:q=Nat.min len n) (hp:p + q≤zs.length) (hj:j + q≤xs.length) (hw:bf ops L g=some true) (hd:Nat.blt d Γ.n=true)
  (hS:setF H i (.row tb es (xs.take j++(zs.drop p).take q++xs.drop (j + q))) some=some H') (hk:DS false Γ ops rest K k ((d,.d (.int .i64 q))::L) H') :
  DS false Γ ops (⟨some d,.call { callee:=.builtin .copy,args:=#[x,y],argTypes:=#[t,t2] },ty,pos,af,g⟩::rest) K k L H:=by
 rw [ke] at hS
 cases hS
 refine gl hw fun e a w m=>?_
 have hql:q≤len:=by rw [hq];exact Nat.min_le_left _ _
 have hyl:((zs.drop p).take q).length=q:=by rw [List.length_take,List.length_drop];omega
 obtain⟨ad,sCap,N,hv,s1,s2,s3,s4,s5⟩:=view_cells m hy hH2 hp h0 hql
 obtain⟨w',hrun,m2⟩:=copy_core (d:=d) (ty:=ty) (t2:=t2) (pos:=pos) (af:=af) (g:=g) m hx hH ht hkn hes (by rw [hyl];exact h0) (by rw [hyl];exact hq) (by rw [hyl];exact hj) hv s1 s2 s3 s4 s5
 rw [hyl] at hrun m2
 unfold Oper.wp
 rw [hrun]
 refine⟨k,_,_,e,m2.put (s:=.d (.int .i64 q)) (v:=.int .i64 q) (Nat.le_of_ble_eq_true hd) (RepC.int (WalkArith.wf_i64 ?_)),hk⟩
 obtain⟨_,_,hcs⟩:=evT m hy (js · _ _ _ _)
 rcases hcs with ⟨_,_,_,rfl⟩|⟨g0,n0,cap,o,_,_,hmx,hn,_⟩
 ·omega
 ·unfold maxLen at hmx;omega
theorem ds_copyGrow (s:Nat) {d i es p n len:Nat} {tb ty t2:TypeId} {pos:String} {af:Array Edge} {g:Option (Nat × Bool)} {xs:List (List D)} {jx jy nx ns:Nat} (hx:a8 L x = .rsl i es jx nx) (hH:Hp.get H i=some (.row tb es xs)) (hy:a8 L y = .rsl i es jy len) (hs:L.get s = .rsl i es 0 ns) (hjx:p + 1=jx) (hnx:n=nx) (hjy:p=jy) (hns:xs.length + 1=ns)
  (ht:(ay Γ.τ t).sh = .slice t') (hkn:(ay Γ.τ t').sh.known=true) (hes:(ay Γ.τ t').cells=es) (hp:p + n=xs.length) (hl:n≤len) (h0:0 < n) (hw:bf ops L g=some true) (hd:Nat.blt d Γ.n=true)
  (hD:delF H i some=some H') (hk:DS false Γ ops rest K (k + 1) ((d,.d (.int .i64 n))::(s,.row k)::L) ((k,.row tb es (xs.take (p + 1)++xs.drop p))::H')) :
  DS false Γ ops (⟨some d,.call { callee:=.builtin .copy,args:=#[x,y],argTypes:=#[t,t2] },ty,pos,af,g⟩::rest) K k L H:=by
 subst hjx hnx hjy hns
 rw [mg] at hD
 cases hD
 refine gl hw fun e a w m=>?_
 have hyl:(xs.drop p).length=n:=by rw [List.length_drop];omega
 have htk:(xs.drop p).take n=xs.drop p:=List.take_of_length_le (by omega)
 obtain⟨ad,sCap,N,hv,s1,s2,s3,s4,s5⟩:=view_cells m hy hH (q:=n) (by omega) h0 hl
 obtain⟨inf,z,hi,_,hss,_⟩:=Ctx.info (Sh.known_ne hkn)
 have hsz:inf.size=es:=by rw [hss];exact hes
 obtain⟨_,_,hcs⟩:=evT m hx (js · _ _ _ _)
 have hslot:=m.slot s
 rw [hs] at hslot
 obtain⟨_,hone1,hcase⟩:=hslot
 rcases hcs with ⟨_,_,_,rfl⟩|⟨g0,n0,cap,o,hη,hk1,hmx,hn,hvx,ho⟩
 ·omega
 rcases hcase with ⟨hη2,_⟩|⟨g1,n1,cap1,o1,hη2,_,_,hn1,hv1,ho1⟩
 ·rw [hη] at hη2;cases hη2
 rw [hη] at hη2
 cases hη2
 have h01:=ho1 (.inr rfl)
 rw [Nat.zero_mul] at h01
 subst h01
 obtain⟨cur,vs,hg,rfl,hnc,hcm,hcsz,htake,hlen,hxes,hone,hrep⟩:=row_at m hH hη
 have hoj:=ho (by omega)
 subst hoj
 rw [htk] at s1
 simp only [htk] at s2 s4
 have hNl:N.length=n * es:=by rw [s1,hyl]
 have hfit:(p + 1) * es + N.length≤cur.size:=by
  rw [hNl,hcsz,← Nat.add_mul]
  exact Nat.mul_le_mul_right _ (by omega)
 have hrun:=run_copy_rowN (P:=Γ.P) w t t2 ty t' g0 ((p + 1) * es) n (cap - (p + 1)) ad len sCap cur tb N inf (Ctx.slice ht) hi hg (by rw [hNl,hsz,show Nat.min len n=n from Nat.min_eq_right hl]) s5 hfit s3
 have hop:(execOp a.eval ⟨some d,.call { callee:=.builtin .copy,args:=#[x,y],argTypes:=#[t,t2] },ty,pos,af,g⟩).run Γ.P w = .ok (.value (.int .i64 n)) (w.setRow g0 (cur.toList.take ((p + 1) * es)++N++cur.toList.drop ((p + 1) * es + N.length)).toArray):=by
  simp only [execOp,resolve,invoke,builtin,Sem.run_bind,Sem.run_pure,Result.andThen_ok,List.map_toArray,List.map_cons,List.map_nil,hvx,hv,hrun,goInt,show Nat.min len n=n from Nat.min_eq_right hl]
 unfold Oper.wp
 rw [hop]
 have hmem:=Hp.mem_of hH
 have hze:¬ e.dom k:=fun h=>f5 k ((m.top k).1 h)
 have hηk:(e.bindRow k (.slice (some ⟨g0,0,none⟩) (xs.length + 1) cap)).η k = .slice (some ⟨g0,0,none⟩) (xs.length + 1) cap:=if_pos rfl
 have hown:HB.owned e (i,.row tb es xs)=some g0:=by simp [HB.owned,hη,Value.ownBlock]
 have hnl:(xs.take (p + 1)++xs.drop p).length=xs.length + 1:=by rw [List.length_append,List.length_take,List.length_drop];omega
 have hgo:=setRow_heap w g0 cur (cur.toList.take ((p + 1) * es)++N++cur.toList.drop ((p + 1) * es + N.length)).toArray tb (0,0) hg
 have m2:=m.trade (hb:=.row tb es (xs.take (p + 1)++xs.drop p)) hH (f5 k) (e':=e.bindRow k (.slice (some ⟨g0,0,none⟩) (xs.length + 1) cap)) (w':=w.setRow g0 (cur.toList.take ((p + 1) * es)++N++cur.toList.drop ((p + 1) * es + N.length)).toArray) (fun i=>or_congr (m.top i) Iff.rfl) (e.bindRow_ext _ _ hze) (by simp [World.setRow]) rfl rfl rfl (fun _=>Nat.le_refl _)
  (fun c _ hne=>setRow_other w _ c _ (fun h=>hne (by rw [hown,h]))) (fun c hc=>by simp only [HB.owned,hηk] at hc;exact .inl (by rw [hown];exact hc)) (fun hX=>by
   have hkeep:∀ b,b < w.heap.size→¬ Γ.X e H b→(w.setRow g0 (cur.toList.take ((p + 1) * es)++N++cur.toList.drop ((p + 1) * es + N.length)).toArray).heap[b]? = w.heap[b]?:=fun b _ hb=>setRow_other w _ b _ (fun h=>hb (.inr (List.mem_filterMap.2 ⟨_,hmem,by rw [hown,h]⟩)))
   have hp1:(p + 1) * es≤xs.length * es:=Nat.mul_le_mul_right _ (by omega)
   have hvt:(vs.take ((p + 1) * es)).length=(p + 1) * es:=by rw [List.length_take,hlen];omega
   refine⟨vs.take ((p + 1) * es)++N,⟨?_,.inr ⟨g0,cap,_,by rw [hηk,hnl],Nat.zero_le _,hgo,by rw [hnl];omega,hcm,?_,?_⟩⟩,fun r hr=>?_,fun v hv=>?_,fun r hr q hq=>?_⟩
   ·rw [List.length_append,hvt,hNl,hnl,← Nat.add_mul];congr 1;omega
   ·rw [← hcsz]
    simp only [List.size_toArray,List.length_append,List.length_take,List.length_drop,Array.length_toList]
    omega
   ·have ht1:cur.toList.take ((p + 1) * es)=vs.take ((p + 1) * es):=by rw [← htake,List.take_take,Nat.min_eq_left hp1]
    rw [hnl,ht1,List.take_append_of_le_length (by rw [List.length_append,hvt,hNl,← Nat.add_mul];exact Nat.mul_le_mul_right _ (by omega)),List.take_of_length_le (by rw [List.length_append,hvt,hNl,← Nat.add_mul];exact Nat.mul_le_mul_right _ (by omega))]
   ·by_cases h:r < p + 1
    ·rw [List.getElem_append_left (by rw [List.length_take];omega),List.getElem_take];exact hxes _ _
    ·rw [List.getElem_append_right (by rw [List.length_take];omega)];exact s2 _ (by rw [hyl,List.length_take];omega)
   ·rcases List.mem_append.1 hv with hv|hv
    ·exact hone v (List.mem_of_mem_take hv)
    ·exact s3 v hv
   ·have key:∀ {v:Value} {x:D},RepC (Γ.X e H) w v x→RepC _ (w.setRow g0 (cur.toList.take ((p + 1) * es)++N++cur.toList.drop ((p + 1) * es + N.length)).toArray) v x:=fun h=>RepC.keep (by simp [World.setRow]) hkeep hX h
    by_cases h:r < p + 1
    ·have he:(xs.take (p + 1)++xs.drop p)[r]=xs[r]'(by omega):=by rw [List.getElem_append_left (by rw [List.length_take];omega),List.getElem_take]
     have hq':q < (xs[r]'(by omega)).length:=by rw [← he];exact hq
     obtain⟨v,p1,p2⟩:=hrep r (by omega) q hq'
     have hqe:q < es:=by rw [← hxes r (by omega)];exact hq'
     refine⟨v,?_,key (by simpa [he] using p2)⟩
     have:(r + 1) * es≤(p + 1) * es:=Nat.mul_le_mul_right _ h
     rw [Nat.add_mul,Nat.one_mul] at this
     rw [List.getElem?_append_left (by omega),List.getElem?_take,if_pos (by omega),p1]
    ·have hr':r - (p + 1) < (xs.drop p).length:=by rw [hyl];omega
     have hlt:(xs.take (p + 1)).length=p + 1:=by rw [List.length_take];omega
     have he:(xs.take (p + 1)++xs.drop p)[r]=(xs.drop p)[r - (p + 1)]'hr':=by
      rw [List.getElem_append_right (by omega)]
      congr 1
      omega
     have hq':q < ((xs.drop p)[r - (p + 1)]'hr').length:=by rw [← he];exact hq
     obtain⟨v,p1,p2⟩:=s4 (r - (p + 1)) hr' q hq'
     refine⟨v,?_,key (by simpa [he] using p2)⟩
     have h2:(p + 1) * es≤r * es:=Nat.mul_le_mul_right _ (by omega)
     rw [List.getElem?_append_right (by omega),hvt,← p1]
     congr 1
     rw [Nat.sub_mul]
     omega)
 have m3:=m2.cast (fe k)
 have m4:Models Γ (lo (k + 1)) ((s,.row k)::L) ((k,.row tb es (xs.take (p + 1)++xs.drop p))::Hp.del H i) (e.bindRow k (.slice (some ⟨g0,0,none⟩) (xs.length + 1) cap)) a (w.setRow g0 (cur.toList.take ((p + 1) * es)++N++cur.toList.drop ((p + 1) * es + N.length)).toArray):=by
  refine⟨m3.toHeap,m3.defers,m3.len,fun t'=>?_⟩
  rw [Sl.get_cons]
  split
  ·rename_i ht
   subst ht
   exact⟨.inr rfl,by rw [hηk];exact hv1,hone1⟩
  ·exact m3.slot t'
 refine⟨k + 1,_,_,_,m4.put (s:=.d (.int .i64 n)) (v:=.int .i64 n) (Nat.le_of_ble_eq_true hd) (RepC.int (WalkArith.wf_i64 ?_)),hk⟩
 unfold maxLen at hcm
 omega
theorem ev_overlaps {kk : Nat → Prop} {f : FuncId} {fn : Func} {tR ty : TypeId} {ts : Array TypeId} {es i j n : Nat} {tb : TypeId} {xs ys : List (List D)} (hf : Γ.P.funcs[f]? = some fn) (hname : (fn.name == "runtime.NumGoroutine") = false)
  (hb:fn.body.isNone=true) (hn:Extern.findNext fn=none) (he:Extern.find fn=some (Extern.SlicesOverlaps.overlaps #[t,t] #[tR])) (ht:(ay Γ.τ t).sh = .slice t') (hkn:(ay Γ.τ t').sh.known=true) (hpos:0 < es)
  (hx:a8 L x = .d (.slice es ys)) (hne:ys≠[]) (hy:a8 L y = .rsl i es j n) (hH:Hp.get H i=some (.row tb es xs)) (hxs:xs≠[]):Ev Γ kk L H (.call { callee:=.value (.func f),args:=#[x,y],argTypes:=ts }) ty (.d (.bool false)):=by
 intro e a w m
 have hry:=evT m hx (k7 · _ _)
 obtain⟨ao,capy,hvy,hlc,hcy,hnone⟩:=hry.slice_inv
 obtain⟨_,_,hcs⟩:=evT m hy (js · _ _ _ _)
 have hxl:0 < xs.length:=List.length_pos_iff.2 hxs
 have hyl:0 < ys.length:=List.length_pos_iff.2 hne
 have hmem:=Hp.mem_of hH
 obtain⟨inf,z,hi,_,hss,_⟩:=Ctx.info (Sh.known_ne hkn)
 cases ao with
 | none=>exact absurd (hnone rfl) hne
 | some ad =>
  rw [hvy] at hry
  rcases hcs with ⟨hη,_,_,_⟩|⟨g0,n0,cap,o,hη,hk,hmx,hn1,hvx,ho⟩
  ·obtain⟨vs,ho,_⟩:=(m.heap _ hmem).2
   rcases ho.2 with ⟨_,h4⟩|⟨g,cap,cur,hη2,_⟩
   ·omega
   ·rw [hη] at hη2;cases hη2
  ·obtain⟨cur,vs,hg,rfl,hnc,hcm,hcsz,_⟩:=row_at m hH hη
   generalize hds:D.slice es ys=dd at hry
   generalize hnn:ys.length=nn at hry
   cases hry with
   | zero=>cases hds;omega
   | @slice b off _ _ _ xs' c hn' hc hm hX hb' hee hcell hrep =>
    cases hds
    refine⟨.bool false,fun dst pos after guard w' hB=>?_,RepC.bool⟩
    have hown:HB.owned e (i,.row tb es xs)=some g0:=by simp [HB.owned,hη,Value.ownBlock]
    have hbg:b≠g0:=fun h=>hX (.inr (List.mem_filterMap.2 ⟨_,hmem,by rw [hown,h]⟩))
    have h00:0 < (ys[0]'hyl).length:=by rw [hee 0 hyl];exact hpos
    have hc0:=hcell 0 hyl 0 h00
    obtain⟨cells,tb',fz,hb2⟩:∃ cells tb' fz,w.heap[b]? = some (.cells cells tb' fz):=by
     unfold World.cell? at hc0
     split at hc0
     ·rename_i h;exact⟨_,_,_,h⟩
     ·cases hc0
    have hsz:cells.size≠0:=by
     intro h
     have hc1:cells[off + 0 * es + 0]? = some (c 0 0):=by rw [World.cell?,hb2] at hc0;exact hc0
     have:=(Array.getElem?_eq_some_iff.1 hc1).1
     omega
    have hgb:=(Array.getElem?_eq_some_iff.1 hg).1
    have hg':w'.heap[g0]? = some (.cells cur tb (0,0)):=by rw [hB.block g0 hgb];exact hg
    have hb':w'.heap[b]? = some (.cells cells tb' fz):=by rw [hB.block b hb'];exact hb2
    have h:=run_callFunc_extern (P:=Γ.P) hf hname hb hn he #[.slice (some ⟨b,off,none⟩) ys.length capy,.slice (some ⟨g0,o,none⟩) n (cap - j)] w'
    rw [run_overlaps_own w' t tR t' (Ctx.slice ht) inf.size (fun w=>dl hi w) ⟨b,off,none⟩ ⟨g0,o,none⟩ ys.length capy n (cap - j) hbg tb' tb cells.size cur.size (by simp [World.shape?,hb']) (by simp [World.shape?,hg']) hsz (frozen_own hg' _ _) (frozen_own hg' _ _)] at h
    simp [execOp,resolve,Deferred.ofValue,invoke,hvy,hvx]
    exact h
theorem ds_apGrow (zs:List D) {d i es p q:Nat} {tb ti ty:TypeId} {pos:String} {af:Array Edge} {g:Option (Nat × Bool)} {m':Int} {xs:List (List D)} (hx:a8 L x = .rsl i es 0 p) (hH:Hp.get H i=some (.row tb es xs)) (hJ:Nat.blt i Γ.J=true) {g0 n0 c:Nat} (hη:(Γ.β0 i).2 = .slice (some ⟨g0,0,none⟩) n0 c)
  (hy:a8 L y = .d (.int .i64 m')) (hn:m' = (q:Int)) (hp:p≤xs.length) (hgr:c < p + q) (ht:(ay Γ.τ t).sh = .slice t') (hti:(ay Γ.τ ti).sh = .int .i64)
  (hkn:(ay Γ.τ t').sh.known=true) (hes:(ay Γ.τ t').cells=es) (hz:zeroIs (ay Γ.τ t').zero zs) (hzok:gg (ay Γ.τ t').zero=true) (hzl:(ay Γ.τ t').zero.length=es) (he:0 < es) (h0:0 < q) (hroom:(p + q) * (ay Γ.τ t').bytes≤140737488355328) (h63:p + q≤maxLen)
  (hw:bf ops L g=some true) (hd:Nat.blt d Γ.n=true) (hk:DS false Γ ops rest K (k + 1) ((d,.row k)::L) ((k,.row t' es (xs.take p++List.replicate q zs))::H)) :
  DS false Γ ops (⟨some d,.call { callee:=.builtin .append,args:=#[x,y],argTypes:=#[t,ti] },ty,pos,af,g⟩::rest) K k L H:=by
 subst hn
 refine gl hw fun e a w m=>?_
 obtain⟨inf,z,hi,hzz,hs,hb,hzc⟩:=Ctx.info (Sh.known_ne hkn)
 have hzsz:z.cells.size=es:=by rw [← Array.length_toList,hzc,hzl]
 have hsz:inf.size=es:=by rw [hs];exact hes
 have hti':Γ.P.underlying ti=some (.int .i64):=by
  have hti2:Γ.sh ti = .int .i64:=hti
  obtain⟨u,inf,z,h1,_,_,h4,_⟩:=gp (Γ.ti (t:=ti) (by rw [hti2];intro h;cases h))
  rw [h1]
  have h5:lj Γ.P u = .int .i64:=h4▸hti2
  cases u <;> simp [lj] at h5 ⊢
  exact h5
 have hηi:=anchor_η m hJ hη
 obtain⟨_,_,hcs⟩:=evT m hx (js · _ _ _ _)
 rcases hcs with ⟨hη2,_⟩|⟨g1,n1,cap,o,hη2,_,hmx,hn1,hvx,ho⟩
 ·rw [hηi] at hη2;cases hη2
 rw [hηi] at hη2
 cases hη2
 have h00:=ho (.inr rfl)
 rw [Nat.zero_mul] at h00
 subst h00
 obtain⟨cur,vs,hg,rfl,hnc,hcm,hcsz,htake,hlen,hxes,hone,hrep⟩:=row_at m hH hηi
 obtain⟨s1,s2,s3⟩:=seg_cells hlen hxes hrep (j:=0) (q:=p) (by omega)
 rw [Nat.zero_mul] at s1 s3
 simp only [List.drop_zero] at s1 s2 s3
 have hpl:(xs.take p).length=p:=by rw [List.length_take];omega
 rw [hpl] at s1
 have hdh:w.drew.heap=w.heap:=rfl
 have hold:(Builtin.firstCells inf.size p (.slice (some ⟨g0,0,none⟩) p (c - 0))).run Γ.P w.drew = .ok (vs.take (p * es)).toArray w.drew:=by
  refine run_firstCells_some (P:=Γ.P) w.drew inf.size p ⟨g0,0,none⟩ p (c - 0) (vs.take (p * es)) (by rw [hsz];exact s1) fun j v hj=>?_
  rw [Addr.add_lit,Nat.zero_add,cell_cur (w:=w.drew) hg,← Array.getElem?_toList]
  have hjl:j < p * es:=by
   rw [List.getElem?_take] at hj
   split at hj
   ·assumption
   ·cases hj
  rw [List.getElem?_take,if_pos hjl,← htake,List.getElem?_take] at hj
  split at hj
  ·exact hj
  ·cases hj
 have hmul:q * (ay Γ.τ t').bytes≤(p + q) * (ay Γ.τ t').bytes:=Nat.mul_le_mul_right _ (by omega)
 have hrun:=Lib.run_append_grow_zeros (P:=Γ.P) w t ti ty t' inf z .i64 .i64 (Ctx.slice ht) hti' hi hzz (some ⟨g0,0,none⟩) p (c - 0) (vs.take (p * es)) hold q h0 (by omega) (by omega) (by unfold maxLen at h63;omega)
  (by rw [hb];omega) (growslice_fits (by omega) (by rw [hb];exact hroom))
 have hge:=grownCap_ge w (p + q) (c - 0) t'
 have hcm2:=grownCap_le_maxLen w (p + q) (c - 0) t' h63
 generalize grownCap w (p + q) (c - 0) t' = c2 at hrun hge hcm2
 have hop:(execOp a.eval ⟨some d,.call { callee:=.builtin .append,args:=#[x,y],argTypes:=#[t,ti] },ty,pos,af,g⟩).run Γ.P w = .ok (.value (.slice (some ⟨w.heap.size,0,none⟩) (p + q) c2)) (w.drew.alloc (.cells ((vs.take (p * es)).toArray++Builtin.zeroCells z.cells q++Builtin.zeroCells z.cells (c2 - (p + q))) t')):=by
  simp only [execOp,resolve,invoke,builtin,Sem.run_bind,Sem.run_pure,Result.andThen_ok,List.map_toArray,List.map_cons,List.map_nil,hvx,evI m hy,hrun]
 unfold Oper.wp
 rw [hop]
 have m1:Models Γ (lo k) L H e a w.drew:=m.below ((Beld.refl _ _ _).drew)
 have hze:¬ e.dom k:=fun h=>f5 k ((m.top k).1 h)
 have hη3:(e.bindRow k (.slice (some ⟨w.heap.size,0,none⟩) (p + q) c2)).η k = .slice (some ⟨w.heap.size,0,none⟩) (p + q) c2:=if_pos rfl
 have hNl:(Builtin.zeroCells z.cells q).toList.length=q * es:=by simp [Builtin.zeroCells,hzsz]
 have hfl:=zeroCells_list z.cells q (by omega)
 have hnl:(xs.take p++List.replicate q zs).length=p + q:=by rw [List.length_append,hpl,List.length_replicate]
 have m2:=m1.new (f5 k) (hb:=.row t' es (xs.take p++List.replicate q zs)) (e':=e.bindRow k (.slice (some ⟨w.heap.size,0,none⟩) (p + q) c2)) (w':=w.drew.alloc (.cells ((vs.take (p * es)).toArray++Builtin.zeroCells z.cells q++Builtin.zeroCells z.cells (c2 - (p + q))) t')) (fun i=>or_congr (m.top i) Iff.rfl) (e.bindRow_ext _ _ hze) (ef Γ.dr _ _)
  (fun b hb=>by simp only [HB.owned,hη3,Value.ownBlock,Option.some.injEq] at hb;subst hb;exact Nat.le_refl _) (fun hX=>by
   have hzr:=fj (X:=Γ.X (e.bindRow k (.slice (some ⟨w.heap.size,0,none⟩) (p + q) c2)) ((k,.row t' es (xs.take p++List.replicate q zs))::H)) (e:=e) (w:=w.drew.alloc (.cells ((vs.take (p * es)).toArray++Builtin.zeroCells z.cells q++Builtin.zeroCells z.cells (c2 - (p + q))) t')) _ hzok
   obtain⟨zl,zr⟩:=zeroIs_spec hz hzr.1
   refine⟨vs.take (p * es)++(Builtin.zeroCells z.cells q).toList,⟨by rw [List.length_append,s1,hNl,hnl,Nat.add_mul],.inr ⟨w.heap.size,c2,_,by rw [hη3,hnl],Nat.zero_le _,heap_alloc_new w.drew _,by rw [hnl];exact hge,hcm2,?_,?_⟩⟩,fun r hr=>?_,fun v hv=>?_,fun r hr s hs=>?_⟩
   ·have:(vs.take (p * es)).toArray.size=p * es:=by rw [List.size_toArray];exact s1
    simp only [Array.size_append,this,size_zeroCells,hzsz,← Nat.add_mul]
    congr 1;omega
   ·rw [hnl,Array.toList_append,Array.toList_append,List.toList_toArray,List.take_append_of_le_length (by rw [List.length_append,hNl,s1,Nat.add_mul];exact Nat.le_refl _),List.take_of_length_le (by rw [List.length_append,hNl,s1,Nat.add_mul];exact Nat.le_refl _)]
   ·by_cases h:r < p
    ·rw [List.getElem_append_left (by omega),List.getElem_take];exact hxes _ _
    ·rw [List.getElem_append_right (by omega),List.getElem_replicate,← zl,hzl]
   ·rcases List.mem_append.1 hv with hv|hv
    ·exact hone v (List.mem_of_mem_take hv)
    ·exact hzr.2 v (by rw [← hzc];exact jz hv)
   ·by_cases h:r < p
    ·have hxe:(xs.take p++List.replicate q zs)[r]=(xs.take p)[r]'(by omega):=List.getElem_append_left (by omega)
     have hs':s < ((xs.take p)[r]'(by omega)).length:=by rw [← hxe];exact hs
     obtain⟨v,p1,p2⟩:=s3 r (by omega) s hs'
     have hse:s < es:=by rw [← s2 r (by omega)];exact hs'
     have hlt:(r + 1) * es≤p * es:=Nat.mul_le_mul_right _ h
     rw [Nat.add_mul,Nat.one_mul] at hlt
     refine⟨v,by rw [List.getElem?_append_left (by omega)];exact p1,?_⟩
     have p3:RepC (Γ.X e H) w v ((xs.take p++List.replicate q zs)[r][s]):=by simpa [hxe] using p2
     exact RepC.keep (ef Γ.dr _ _).size (fun b hb _=>(ef Γ.dr _ _).block b hb) (fun b hb hx=>hX b hb hx) (RepC.keep (w:=w) (w':=w.drew) (Nat.le_refl _) (fun _ _ _=>rfl) (fun _ _ h=>h) p3)
    ·have hxe:(xs.take p++List.replicate q zs)[r]=zs:=by rw [List.getElem_append_right (by omega),List.getElem_replicate]
     have hs':s < zs.length:=by rw [← hxe];exact hs
     obtain⟨v,q1,q2⟩:=zr s hs'
     have hse:s < es:=by rw [← hzl,zl];exact hs'
     refine⟨v,?_,by simpa [hxe] using q2⟩
     have h2:p * es≤r * es:=Nat.mul_le_mul_right _ (by omega)
     rw [List.getElem?_append_right (by omega),s1,show r * es + s - p * es=(r - p) * es + s by rw [Nat.sub_mul];omega,hfl,← hzsz,← Array.length_toList,flatten_rep _ _ _ _ (by omega) (by rw [Array.length_toList,hzsz];exact hse),hzc]
     exact q1)
 have m3:=m2.cast (fe k)
 exact⟨k + 1,_,_,_,m3.put (s:=.row k) (v:=.slice (some ⟨w.heap.size,0,none⟩) (p + q) c2) (Nat.le_of_ble_eq_true hd) ⟨.inr rfl,hη3.symm,rfl⟩,hk⟩
theorem ds_apRR {d i es p j n:Nat} {tb ty:TypeId} {pos:String} {af:Array Edge} {g:Option (Nat × Bool)} {xs:List (List D)} (hx:a8 L x = .rsl i es 0 p) (hy:a8 L y = .rsl i es j n) (hH:Hp.get H i=some (.row tb es xs)) (ht:(ay Γ.τ t).sh = .slice t')
  (hkn:(ay Γ.τ t').sh.known=true) (hes:(ay Γ.τ t').cells=es) (hj:j + n≤xs.length) (hp:p + n≤xs.length) (h0:0 < xs.length) (hw:bf ops L g=some true) (hd:Nat.blt d Γ.n=true)
  (hS:setF H i (.row tb es (xs.take p++(xs.drop j).take n++xs.drop (p + n))) some=some H') (hk:DS false Γ ops rest K k ((d,.rsl i es 0 (p + n))::L) H') :
  DS false Γ ops (⟨some d,.call { callee:=.builtin .append,args:=#[x,y],argTypes:=#[t,t] },ty,pos,af,g⟩::rest) K k L H:=by
 rw [ke] at hS
 cases hS
 refine gl hw fun e a w m=>?_
 obtain⟨inf,z,hi,_,hs,_⟩:=Ctx.info (Sh.known_ne hkn)
 have hsz:inf.size=es:=by rw [hs];exact hes
 obtain⟨hdm,_,hcs⟩:=evT m hx (js · _ _ _ _)
 obtain⟨_,_,hcy⟩:=evT m hy (js · _ _ _ _)
 rcases hcs with ⟨hη,_⟩|⟨g0,n0,cap,o,hη,_,hmx,hn1,hvx,ho⟩
 ·obtain⟨vs,ho,_⟩:=(m.heap _ (Hp.mem_of hH)).2
  rcases ho.2 with ⟨_,h4⟩|⟨g,cap,cur,hη2,_⟩
  ·omega
  ·rw [hη] at hη2;cases hη2
 have h00:=ho (.inr rfl)
 rw [Nat.zero_mul] at h00
 subst h00
 obtain⟨cur,vs,hg,rfl,hnc,hcm,hcsz,htake,hlen,hxes,hone,hrep⟩:=row_at m hH hη
 have hnl:((xs.drop j).take n).length=n:=by rw [List.length_take,List.length_drop];omega
 rcases hcy with ⟨hη2,_⟩|⟨g1,n1,cap1,o1,hη2,hk1,_,hn2,hvy,ho1⟩
 ·rw [hη] at hη2;cases hη2
 rw [hη] at hη2
 cases hη2
 obtain⟨s1,s2,s3⟩:=seg_cells hlen hxes hrep (j:=j) (q:=n) hj
 rw [hnl] at s1
 obtain⟨hfit,m2⟩:=row_write m hH (j:=p) (ys:=(xs.drop j).take n) (N:=(vs.drop (j * es)).take (n * es)) (by rw [hnl];exact hp) (by rw [hnl];exact s1) s2 (fun v hv=>hone v (List.mem_of_mem_drop (List.mem_of_mem_take hv))) s3 hη hg
 rw [hnl] at m2
 have hcell:∀ r v,((vs.drop (j * es)).take (n * es))[r]? = some v→w.cell? ((⟨g0,o1,none⟩:Addr).add r)=some v:=fun r v hr=>by
  have hrl:r < n * es:=by
   rw [List.getElem?_take] at hr
   split at hr
   ·assumption
   ·cases hr
  have h0n:0 < n:=Nat.pos_of_ne_zero fun h=>by rw [h,Nat.zero_mul] at hrl;omega
  have:=ho1 (by omega)
  subst this
  rw [List.getElem?_take,if_pos hrl,List.getElem?_drop,← htake,List.getElem?_take] at hr
  split at hr
  ·rw [Addr.add_lit,cell_cur hg,← hr,Array.getElem?_toList]
  ·cases hr
 have hrun:=run_append_room_at (P:=Γ.P) w t ty t' inf (Ctx.slice ht) hi g0 0 p (cap - 0) tb cur hg ⟨g0,o1,none⟩ n (cap - j) ((vs.drop (j * es)).take (n * es)) (by rw [hsz];exact s1) hcell (fun v hv=>hone v (List.mem_of_mem_drop (List.mem_of_mem_take hv))) (by omega) (by rw [hsz,Nat.zero_add];exact hfit)
 rw [hsz,Nat.zero_add] at hrun
 have hop:(execOp a.eval ⟨some d,.call { callee:=.builtin .append,args:=#[x,y],argTypes:=#[t,t] },ty,pos,af,g⟩).run Γ.P w = .ok (.value (.slice (some ⟨g0,0,none⟩) (p + n) (cap - 0))) (w.setRow g0 (cur.toList.take (p * es)++(vs.drop (j * es)).take (n * es)++cur.toList.drop (p * es + ((vs.drop (j * es)).take (n * es)).length)).toArray):=by
  simp only [execOp,resolve,invoke,builtin,Sem.run_bind,Sem.run_pure,Result.andThen_ok,List.map_toArray,List.map_cons,List.map_nil,hvx,hvy,hrun]
 unfold Oper.wp
 rw [hop]
 exact⟨k,_,_,e,m2.put (s:=.rsl i es 0 (p + n)) (v:=.slice (some ⟨g0,0,none⟩) (p + n) (cap - 0)) (Nat.le_of_ble_eq_true hd) ⟨hdm,rfl,.inr ⟨g0,xs.length,cap,0,hη,Nat.zero_le _,hmx,by omega,rfl,fun _=>by rw [Nat.zero_mul]⟩⟩,hk⟩
end
attribute [local irreducible] DW DS DL DQ Ev FnOk FnP em b9 DT
theorem ins_new {α:Type} (X:List α) (z y:α) {p n:Nat} (hn:X.length=n) (hp:p≤n) {A B:List α} (hA:A=X.take p++List.replicate (n + 1 - p) z) (hB:B=A.take p++[y]++A.drop (p + 1)) :
  B.take (p + 1)++(X.drop p).take (n - p)++B.drop (p + 1 + (n - p))=X.take p++y::X.drop p:=by
 have h1:(X.take p).length=p:=by rw [List.length_take];omega
 have h2:A.take p=X.take p:=by rw [hA,List.take_append_of_le_length (by omega),List.take_of_length_le (by omega)]
 have h3:B=(X.take p++[y])++A.drop (p + 1):=by rw [hB,h2]
 have h4:(X.take p++[y]).length=p + 1:=by simp [h1]
 have h5:B.length=n + 1:=by rw [h3,List.length_append,h4,List.length_drop,hA,List.length_append,h1,List.length_replicate];omega
 have e1:B.drop (p + 1 + (n - p))=[]:=List.drop_of_length_le (by omega)
 have e2:(X.drop p).take (n - p)=X.drop p:=List.take_of_length_le (by rw [List.length_drop];omega)
 have e3:B.take (p + 1)=X.take p++[y]:=by rw [h3,List.take_append_of_le_length (by omega),List.take_of_length_le (by omega)]
 rw [e1,e2,e3,List.append_nil,List.append_assoc]
 rfl
theorem ins_in {α:Type} (X:List α) (y:α) {p:Nat} (hp:p < X.length) {A:List α} (hA:A=X.take (p + 1)++X.drop p):A.take p++[y]++A.drop (p + 1)=X.take p++y::X.drop p:=by
 have h1:(X.take (p + 1)).length=p + 1:=by rw [List.length_take];omega
 rw [hA,List.take_append_of_le_length (by omega),List.take_take,Nat.min_eq_left (by omega),List.drop_append_of_le_length (by omega),List.drop_of_length_le (by omega),List.append_assoc]
 rfl
set_option maxHeartbeats 8000000 in
theorem insertU_fn (xs:List Upd) (y:Upd) (p:Nat) (hp:p≤xs.length) (hl:xs.length≤1000000) :
  FnOk false Tryz.prog tab cn 109 [.row 0,.d (.int .i64 p),.d (.slice 5 [a7 y])] 1 1 [(0,.row 53 5 (xs.map a7))]
   (fun k r H=>k=2∧r = .row 1∧H=[(1,.row 53 5 ((xs.take p++y::xs.drop p).map a7))]):=by
 refine co _ Tryz.func109 rfl rfl (by kernel_rfl) ?_
 intro O w0 E0 β0
 have ll:(xs.map a7).length=xs.length:=List.length_map _
 by_cases hpe:p=xs.length
 ·subst hpe
  repeat' (first|refine z0 ?_|apply ag|apply ae|refine z16 ?_|apply ai|refine z19 ?_|apply aa|refine z2 ?_|(refine z23 ?_ ?_ <;> intro hg)|fail)
  all_goals try (exfalso;omega)
  repeat' (first|apply aj|apply av)
  exact⟨.inl rfl,_,rfl,id,2,.row 1,[(1,.row 53 5 ((xs.take xs.length++y::xs.drop xs.length).map a7))],rfl,⟨by rw [List.take_length,List.drop_length,List.map_append];rfl,trivial⟩,rfl,rfl,rfl,rfl,rfl,rfl,rfl,rfl,rfl⟩
 ·have h00:xs.map a7≠[]:=fun h=>by rw [List.map_eq_nil_iff] at h;subst h;simp at hp hpe;exact hpe hp
  repeat' (first|refine z0 ?_|apply ag|apply ae|refine z16 ?_|apply ai|refine z19 ?_|apply aa|refine z2 ?_|(refine z23 ?_ ?_ <;> intro hg)|fail)
  all_goals try (exfalso;omega)
  refine ds_capRow rfl rfl rfl rfl rfl rfl (fun h=>absurd h h00) (fun g0 c hη hc hmx=>?_)
  by_cases hgr:c < xs.length + 1
  ·repeat' ((fail_if_success (apply mf 10));(first|refine z0 ?_|apply ag|apply ae|refine z16 ?_|apply ai|apply aa|(refine z23 ?_ ?_ <;> intro hg)|fail))
   all_goals try (exfalso;simp only [List.length_singleton,ll] at *;omega)
   obtain⟨z,hz⟩:∃ z:List D,z=[.int .i64 0,.int .i64 0,.slice 2 [],.slice 2 [],.slice 2 []]:=⟨_,rfl⟩
   refine ds_apGrow (p:=p) (q:=xs.length + 1 - p) z rfl rfl rfl hη rfl (by simp only [List.length_singleton,ll];omega) (by omega) (by omega) rfl rfl rfl rfl (by subst hz;exact⟨.inl rfl,.inl rfl,.inr ⟨rfl,2,rfl⟩,.inr ⟨rfl,2,rfl⟩,.inr ⟨rfl,2,rfl⟩,trivial⟩) rfl rfl (by omega) (by omega) (Nat.le_trans (Nat.mul_le_mul_left _ (show _≤88 from Nat.le_refl _)) (by omega)) (by unfold maxLen;omega) rfl rfl ?_
   obtain⟨A,hA⟩:∃ A,A=(xs.map a7).take p++List.replicate (xs.length + 1 - p) z:=⟨_,rfl⟩
   have hAl:A.length=xs.length + 1:=by rw [hA,List.length_append,List.length_take,List.length_replicate,ll];omega
   rw [← hA]
   repeat' ((fail_if_success (apply bz 11));(first|refine z0 ?_|apply ag|apply ae|refine z16 ?_|apply aa))
   all_goals try (exfalso;simp only [List.length_singleton,ll] at *;omega)
   obtain⟨B,hB⟩:∃ B,B=A.take p++[a7 y]++A.drop (p + 1):=⟨_,rfl⟩
   have hBl:B.length=xs.length + 1:=by rw [hB,List.length_append,List.length_append,List.length_take,List.length_drop,hAl,List.length_singleton];omega
   refine ds_copyD (j:=p) (n:=xs.length + 1 - p) (ys:=[a7 y]) (H':=[(1,.row 53 5 B),(0,.row 53 5 (xs.map a7))]) (by rw [hAl];rfl) rfl rfl rfl rfl rfl (by simp) (by rw [List.length_singleton];omega) (by rw [List.length_singleton];omega) rfl rfl (by rw [hB];rfl) ?_
   repeat' ((fail_if_success (apply bz 11));(first|apply ag|apply ae|apply aa))
   all_goals try (exfalso;simp only [List.length_singleton,ll] at *;omega)
   refine jq 8 (by kernel_rfl) (by kernel_rfl) (by kernel_rfl) rfl rfl rfl ?_
   repeat' (first|refine z5 ?_|refine z10 ?_|fail)
   refine ds_copyRR (q:=xs.length - p) (j:=p + 1) (p:=p) (H':=[(1,.row 53 5 (B.take (p + 1)++((xs.map a7).drop p).take (xs.length - p)++B.drop (p + 1 + (xs.length - p)))),(0,.row 53 5 (xs.map a7))]) rfl rfl rfl rfl rfl rfl rfl (by omega) (by show _=min _ _;simp only [List.length_singleton,ll,hBl];omega) (by rw [ll];omega) (by rw [hBl];omega) rfl rfl rfl ?_
   rw [ins_new (xs.map a7) z (a7 y) ll hp hA hB]
   repeat' (first|refine z0 ?_|apply ag|apply ae|refine z16 ?_|apply aj|apply aa|apply av)
   exact⟨.inl rfl,_,rfl,id,2,.row 1,[(1,.row 53 5 ((xs.take p++y::xs.drop p).map a7))],rfl,⟨by rw [List.map_append,List.map_cons,List.map_take,List.map_drop];rfl,trivial⟩,rfl,rfl,rfl,rfl,rfl,rfl,rfl,rfl,rfl⟩
  ·repeat' ((fail_if_success (apply mf 13));(first|refine z0 ?_|apply ag|apply ae|refine z16 ?_|apply ai|apply aa|(refine z23 ?_ ?_ <;> intro hg)|fail))
   all_goals try (exfalso;simp only [List.length_singleton,ll] at *;omega)
   repeat' fail
   refine il (s:=.rsl 0 5 0 (xs.length + 1)) (by have h9:=@ev_slice_ext;rw [show xs.length + 1=(((xs.map a7).length:Int) + ([a7 y].length:Int)).toNat by rw [ll];rfl];exact ev_slice_ext (es:=5) (len:=0) rfl rfl rfl rfl hη rfl (by intro h;cases h) (by omega) (by rw [List.length_singleton];omega) hmx) rfl rfl ?_
   repeat' (first|refine z0 ?_|apply ag|apply ae|refine z16 ?_|apply aa)
   refine il (ev_overlaps (tR:=4) (t:=27) (i:=0) (es:=5) Tryz.func126 (by kernel_rfl) (by kernel_rfl) (by kernel_rfl) (by kernel_rfl) rfl rfl (by omega) rfl (by simp) rfl rfl h00) rfl rfl ?_
   repeat' ((fail_if_success (apply bz 15));(first|refine z0 ?_|apply ag|apply ae|refine z18 ?_|apply aa))
   all_goals try (exfalso;simp only [List.length_singleton,ll] at *;omega)
   refine jq 8 (by kernel_rfl) (by kernel_rfl) (by kernel_rfl) rfl rfl rfl ?_
   repeat' (first|refine z5 ?_|refine z10 ?_|fail)
   refine ds_copyGrow 0 (p:=p) (n:=xs.length - p) (H':=[]) rfl rfl rfl rfl (by rw [Nat.zero_add];rfl) (by rw [List.length_singleton];omega) (Nat.zero_add _).symm (by rw [ll]) rfl rfl rfl (by rw [ll];omega) (by omega) (by omega) rfl rfl rfl ?_
   obtain⟨A,hA⟩:∃ A,A=(xs.map a7).take (p + 1)++(xs.map a7).drop p:=⟨_,rfl⟩
   have hAl:A.length=xs.length + 1:=by rw [hA,List.length_append,List.length_take,List.length_drop,ll];omega
   rw [← hA]
   repeat' (first|refine z0 ?_|apply ag|apply ae|refine z16 ?_|apply aa)
   all_goals try (exfalso;simp only [List.length_singleton,ll] at *;omega)
   refine ds_copyD (j:=p) (n:=xs.length + 1 - p) (ys:=[a7 y]) (H':=[(1,.row 53 5 (A.take p++[a7 y]++A.drop (p + 1)))]) (by rw [hAl];rfl) rfl rfl rfl rfl rfl (by simp) (by rw [List.length_singleton];omega) (by rw [List.length_singleton];omega) rfl rfl rfl ?_
   rw [ins_in (xs.map a7) (a7 y) (by rw [ll];omega) hA]
   repeat' (first|refine z0 ?_|apply ag|apply ae|refine z16 ?_|apply aj|apply aa|apply av)
   exact⟨.inl rfl,_,rfl,id,2,.row 1,[(1,.row 53 5 ((xs.take p++y::xs.drop p).map a7))],rfl,⟨by rw [List.map_append,List.map_cons,List.map_take,List.map_drop];rfl,trivial⟩,rfl,rfl,rfl,rfl,rfl,rfl,rfl,rfl,rfl⟩
theorem del_list {α:Type} (X:List α) (z:List α) {p n m:Nat} (hn:X.length=n) (hp:p < n) (hm:m=n - (p + 1)) {A:List α} (hA:A=X.take p++(X.drop (p + 1)).take m++X.drop (p + m)) {q:Nat} (hq:q=p + m):(A.take q++z).take q=X.eraseIdx p:=by
 have h1:(X.take p).length=p:=by rw [List.length_take];omega
 have h2:((X.drop (p + 1)).take m)=X.drop (p + 1):=List.take_of_length_le (by rw [List.length_drop];omega)
 have h3:(X.take p++X.drop (p + 1)).length=q:=by rw [List.length_append,h1,List.length_drop];omega
 have h4:A.take q=X.take p++X.drop (p + 1):=by rw [hA,h2,List.take_append_of_le_length (by omega),List.take_of_length_le (by omega)]
 rw [h4,List.take_append_of_le_length (by omega),List.take_of_length_le (by omega),List.eraseIdx_eq_take_drop_succ]
set_option maxHeartbeats 8000000 in
theorem deleteU_fn (xs:List Upd) (p:Nat) (hp:p < xs.length) (hl:xs.length≤1000000) :
  FnOk false Tryz.prog tab cn 75 [.row 0,.d (.int .i64 p),.d (.int .i64 ((p:Int) + 1))] 1 1 [(0,.row 53 5 (xs.map a7))]
   (fun k r H=>k=2∧r = .row 1∧H=[(1,.row 53 5 ((xs.eraseIdx p).map a7))]):=by
 refine co _ Tryz.func75 rfl rfl (by kernel_rfl) ?_
 intro O w0 E0 β0
 have ll:(xs.map a7).length=xs.length:=List.length_map _
 repeat' (first|refine z0 ?_|apply ag|apply ae|refine z16 ?_|apply aa)
 refine il (ev_slice3 (t':=53) (n:=p) (m':=(p:Int) + 1) (p:=(xs.map a7).length) rfl rfl rfl rfl rfl rfl rfl (by omega) (by omega) (by omega) (Int.le_refl _)) rfl rfl ?_
 repeat' ((fail_if_success (apply bz 5));(first|refine z0 ?_|apply ag|apply ae|refine z16 ?_|apply ai|apply aa|(refine z23 ?_ ?_ <;> intro hg)|fail))
 all_goals try (exfalso;omega)
 refine jq 6 (by kernel_rfl) (by kernel_rfl) (by kernel_rfl) rfl rfl rfl ?_
 repeat' (first|refine z5 ?_|refine z10 ?_|fail)
 obtain⟨m,hm⟩:∃ m,m=((xs.map a7).length:Int).toNat - ((p:Int) + 1).toNat:=⟨_,rfl⟩
 have hm':m=xs.length - (p + 1):=by rw [hm,ll];omega
 obtain⟨A,hA⟩:∃ A,A=(xs.map a7).take p++((xs.map a7).drop (p + 1)).take m++(xs.map a7).drop (p + m):=⟨_,rfl⟩
 have hAl:A.length=xs.length:=by rw [hA,List.length_append,List.length_append,List.length_take,List.length_take,List.length_drop,List.length_drop,ll];omega
 refine ds_apRR (p:=p) (j:=p + 1) (n:=m) (H':=[(0,.row 53 5 A)]) rfl (by rw [hm];rfl) rfl rfl rfl rfl (by omega) (by omega) (by omega) rfl rfl (by rw [hA];rfl) ?_
 repeat' (first|refine z0 ?_|apply ag|apply ae|refine z16 ?_|apply aa)
 all_goals try (exfalso;omega)
 refine il (ev_slice_far (t':=53) rfl rfl rfl rfl rfl rfl rfl (by omega) (by omega) (by omega) (by omega)) rfl rfl ?_
 obtain⟨z,hz⟩:∃ z:List D,z=[.int .i64 0,.int .i64 0,.slice 2 [],.slice 2 [],.slice 2 []]:=⟨_,rfl⟩
 refine ds_clear (es:=5) (te:=53) (tb:=53) (xs:=A) (j:=0 + (((p + m:Nat):Int)).toNat) (n:=(((xs.map a7).length:Int)).toNat - (((p + m:Nat):Int)).toNat) z rfl rfl rfl rfl (by subst hz;exact⟨.inl rfl,.inl rfl,.inr ⟨rfl,2,rfl⟩,.inr ⟨rfl,2,rfl⟩,.inr ⟨rfl,2,rfl⟩,trivial⟩) rfl rfl (by omega) (by omega) (by omega) rfl rfl ?_
 repeat' (first|refine z0 ?_|apply ag|apply ae|refine z16 ?_|apply aa)
 refine ba (ent_cut (n:=p + m) 6 rfl rfl (by simp only [List.length_append,List.length_take,List.length_drop,List.length_replicate];omega) rfl) ?_
 rw [List.append_assoc,show 0 + (((p + m:Nat):Int)).toNat=p + m by omega,del_list (xs.map a7) _ ll hp hm' hA rfl]
 repeat' (apply aj)
 exact⟨.inl rfl,_,rfl,id,2,.row 1,[(1,.row 53 5 ((xs.eraseIdx p).map a7))],rfl,⟨by rw [List.eraseIdx_eq_take_drop_succ,List.eraseIdx_eq_take_drop_succ,List.map_append,List.map_take,List.map_drop];rfl,trivial⟩,rfl,rfl,rfl,rfl,rfl,rfl,rfl,rfl,rfl⟩
end Go.Proofs.YtapciiffpnociaaGreat
