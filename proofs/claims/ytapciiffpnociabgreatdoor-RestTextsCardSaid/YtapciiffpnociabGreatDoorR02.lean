/- Several texts in one: GxMem GxCall GxImp. Condition: none. -/
import Derived.Test.YtapciiffpnociabGreatDoorR01
import Derived.Deep.QuietTactic
namespace Go.Proofs.YtapciiffpnociabGreatDoor
open Go Go.RowKit
section
variable {Γ : Ctx} {k : Nat → Prop} {L : Sl} {H : Hp} {K : Next'} {ops : List Oper} {rest : List Oper} {a : Act} {w : World} {e : Env} {t t' ty : TypeId} {x y : Operand}
theorem Addr.add_at (b off j:Nat):(⟨b,off,none⟩:Addr).add j=⟨b,off + j,none⟩:=by
 unfold Go.Addr.add
 split
 ·rename_i h;subst h;rfl
 ·rfl
theorem evT (m:Models Γ k L H e a w) {x:Operand} {s:SV} (h:opSV L x=s) (hs:∀ v,cSV v≠s):Rel (Γ.X e H) e w s (a.eval x):=by
 cases x with
 | tmp t=>rw [← h];exact m.slot t
 | const v=>exact absurd h (hs v)
 | global g=>rw [← h];trivial
 | func f=>rw [← h];exact⟨[],rfl,trivial⟩
theorem cSV_slice (v:Value) (es:Nat) (xs:List (List D)):cSV v≠.d (.slice es xs):=by unfold cSV;split <;> simp
theorem cSV_pd (v:Value) (ds:List D):cSV v≠.pd ds:=by unfold cSV;split <;> simp
theorem cSV_loc (v:Value) (i o:Nat):cSV v≠.loc i o:=by unfold cSV;split <;> simp
theorem cSV_row (v:Value) (i:Nat):cSV v≠.row i:=by unfold cSV;split <;> simp
theorem cSV_prow (v:Value) (i j s o:Nat):cSV v≠.prow i j s o:=by unfold cSV;split <;> simp
theorem cSV_agg (v:Value) (ss:List SV):cSV v≠.agg ss:=by unfold cSV;split <;> simp
theorem cSV_tup (v:Value) (ss:List SV):cSV v≠.tup ss:=by unfold cSV;split <;> simp
theorem RepC.slice_inv {X w v es xs} (h:RepC X w v (.slice es xs)):∃ ao cap,v = .slice ao xs.length cap∧xs.length≤cap∧cap≤maxLen∧(ao=none→xs=[]):=by
 cases h with
 | nil=>exact⟨none,0,rfl,by simp,Nat.zero_le _,fun _=>rfl⟩
 | zero=>exact⟨_,0,rfl,by simp,Nat.zero_le _,fun _=>rfl⟩
 | slice c hn hc hm=>subst hn;exact⟨_,_,rfl,hc,hm,fun h=>by cases h⟩
theorem ev_len_d {es:Nat} {xs:List (List D)} (ht:Γ.sh t = .slice t') (hx:opSV L x = .d (.slice es xs)):Ev Γ k L H (.call { callee:=.builtin .len,args:=#[x],argTypes:=#[t] }) ty (.d (.int .i64 xs.length)):=by
 intro e a w m
 obtain⟨ao,cap,hv,h1,h2,_⟩:=(evT m hx (cSV_slice · _ _)).slice_inv
 refine⟨.int .i64 xs.length,fun _ _ _ _ w' _=>?_,.int (WalkArith.wf_i64 (by unfold maxLen at h2;omega))⟩
 simp [execOp,resolve,invoke,builtin,hv,Builtin.len_,goInt,run_underlying (Ctx.slice ht)]
theorem ev_len_nils (ht:Γ.sh t = .slice t') (hx:opSV L x = .nils):Ev Γ k L H (.call { callee:=.builtin .len,args:=#[x],argTypes:=#[t] }) ty (.d (.int .i64 0)):=by
 intro e a w m
 have hv:a.eval x = .slice none 0 0:=by
  have hok:opOk x:=by
   cases x with
   | const v=>simp only [opSV] at hx;unfold cSV at hx;split at hx <;> simp_all [opOk,cOk]
   | _=>trivial
  have:=m.op x hok
  rw [hx] at this;exact this
 refine⟨.int .i64 0,fun _ _ _ _ w' _=>?_,.int (by decide)⟩
 simp [execOp,resolve,invoke,builtin,hv,Builtin.len_,goInt,run_underlying (Ctx.slice ht)]
theorem Hp.mem_of {id:Nat} {b:HB} (h:Hp.get H id=some b):(id,b)∈H:=Hp.get_mem H id b h
theorem ev_len_row {id es:Nat} {xs:List (List D)} {te:TypeId} (ht:Γ.sh t = .slice t') (hx:opSV L x = .row id) (hH:Hp.get H id=some (.row te es xs)) :
  Ev Γ k L H (.call { callee:=.builtin .len,args:=#[x],argTypes:=#[t] }) ty (.d (.int .i64 xs.length)):=by
 intro e a w m
 have hv:=(evT m hx (cSV_row · _)).2.1
 obtain⟨vs,ho,_⟩:=(m.heap _ (Hp.mem_of hH)).2
 have hs:∃ ao cap,e.η id = .slice ao xs.length cap∧xs.length≤maxLen:=by
  rcases ho.2 with ⟨h1,h2⟩|⟨g,cap,cur,h1,_,_,h3,h4,_⟩
  ·exact⟨none,0,by rw [h1,h2],by rw [h2];exact Nat.zero_le _⟩
  ·exact⟨_,_,h1,Nat.le_trans h3 h4⟩
 obtain⟨ao,cap,hs,hm⟩:=hs
 rw [hs] at hv
 refine⟨.int .i64 xs.length,fun _ _ _ _ w' _=>?_,.int (WalkArith.wf_i64 (by unfold maxLen at hm;omega))⟩
 simp [execOp,resolve,invoke,builtin,hv,Builtin.len_,goInt,run_underlying (Ctx.slice ht)]
theorem RepC.at {X w v es} {xs:List (List D)} (h:RepC X w v (.slice es xs)) (i:Nat) (hi:i < xs.length):∃ b off n cap,v = .slice (some ⟨b,off,none⟩) n cap∧n=xs.length∧¬ X b∧b < w.heap.size ∧
  ∀ j (hj:j < xs[i].length),∃ u,w.cell? ⟨b,off + i * es + j,none⟩=some u∧RepC X w u xs[i][j]:=by
 cases h with
 | nil=>simp at hi
 | zero=>simp at hi
 | slice c hn hc hm hX hb he hcell hrep=>exact⟨_,_,_,_,rfl,hn,hX,hb,fun j hj=>⟨_,hcell i hi j hj,hrep i hi j hj⟩⟩
theorem run_sizeOf {inf:TypeInfo} (h:Γ.P.info? t=some inf) (w:World):(sizeOf t).run Γ.P w = .ok inf.size w:=by
 simp [sizeOf,typeInfo,h]
theorem ev_index_d {es:Nat} {xs:List (List D)} {n:Int} (ht:Γ.sh t = .slice t') (hc:Γ.cells t' = es) (hkn:(Γ.sh t').known=true) (hx:opSV L x = .d (.slice es xs)) (hy:opSV L y = .d (.int .i64 n))
  (h0:0≤n) (h1:n.toNat < xs.length):Ev Γ k L H (.indexAddr t x y) ty (.pd (xs[n.toNat]'h1)):=by
 intro e a w m
 have ho:=Sh.known_ne hkn
 obtain⟨b,off,n',cap,hv,hn,hX,hb,hcell⟩:=(evT m hx (cSV_slice · _ _)).at _ h1
 obtain⟨inf,z,hi,_,hs,_⟩:=Ctx.info ho
 refine⟨.pointer (some ⟨b,off + n.toNat * es,none⟩),fun _ _ _ _ w' _=>?_,⟨b,_,rfl,hb,hX,hcell⟩⟩
 have hlt:n < (n':Int):=by omega
 simp [execOp,Instr.indexAt,hv,evI m hy,asIntOf,run_underlying (Ctx.slice ht),h0,hlt,run_sizeOf hi,hs,hc,Addr.add_at]
theorem ev_fieldAddr {s:TypeId} {f off fty sz:Nat} {l} {a0 a1:SV} (hs:Γ.sh s = .struct l) (hf:l[f]? = some (off,fty,sz)) (hz:Nat.beq sz 0=false)
  (hx:opSV L x=a0) (ha:(∃ ds,a0 = .pd ds∧a1 = .pd (ds.drop off))∨(∃ i o,a0 = .loc i o∧a1 = .loc i (o + off))∨(∃ i j es o,a0 = .prow i j es o∧a1 = .prow i j es (o + off))) :
  Ev Γ k L H (.fieldAddr s x f) ty a1:=by
 obtain⟨fs,hu,hl⟩:=Ctx.struct hs
 subst hl
 rw [List.getElem?_map] at hf
 cases hff:fs.toList[f]? with
 | none=>rw [hff] at hf;cases hf
 | some fd =>
  rw [hff] at hf
  simp only [Option.map_some,Option.some.injEq,Prod.mk.injEq] at hf
  obtain⟨h1,h2,h3⟩:=hf
  have hfa:fs[f]? = some fd:=by rw [← Array.getElem?_toList];exact hff
  have hinf:∃ inf,Γ.P.info? fd.type=some inf∧inf.size≠0:=by
   cases hi:Γ.P.info? fd.type with
   | none=>rw [hi] at h3;exact absurd h3.symm (Nat.ne_of_beq_eq_false hz)
   | some inf=>rw [hi] at h3;exact⟨inf,rfl,fun h=>Nat.ne_of_beq_eq_false hz (by rw [← h3,← h];rfl)⟩
  obtain⟨inf,hi,hne⟩:=hinf
  have run:∀ (b o:Nat) (A:Act) (dst:Option Tmp) pos after guard w',A.eval x = .pointer (some ⟨b,o,none⟩) →
    (execOp A.eval ⟨dst,.fieldAddr s x f,ty,pos,after,guard⟩).run Γ.P w' = .ok (.value (.pointer (some ⟨b,o + off,none⟩))) w':=by
   intro b o A dst pos after guard w' hA
   simp [execOp,Instr.fieldAt,hA,run_underlying hu,hfa,Instr.sureAddr,fieldPlace,run_sizeOf hi,hne,h1,Addr.add_at]
  intro e A w m
  rcases ha with ⟨ds,rfl,rfl⟩|⟨i,o,rfl,rfl⟩|⟨i,j,es,o,rfl,rfl⟩
  ·obtain⟨b,o,hv,hb,hX,hcell⟩:=evT m hx (cSV_pd · _)
   refine⟨_,fun dst pos after guard w' _=>run b o A dst pos after guard w' hv,⟨b,_,rfl,hb,hX,fun j hj=>?_⟩⟩
   have hj':off + j < ds.length:=by simp at hj;omega
   obtain⟨u,g1,g2⟩:=hcell (off + j) hj'
   exact⟨u,by rw [Nat.add_assoc];exact g1,by simpa using g2⟩
  ·obtain⟨hid,hv⟩:=evT m hx (cSV_loc · _ _)
   exact⟨_,fun dst pos after guard w' _=>run _ o A dst pos after guard w' hv,⟨hid,rfl⟩⟩
  ·obtain⟨hid,g,n,cap,h5,hv⟩:=evT m hx (cSV_prow · _ _ _ _)
   exact⟨_,fun dst pos after guard w' _=>run _ _ A dst pos after guard w' hv,⟨hid,g,n,cap,h5,by rw [Nat.add_assoc]⟩⟩
theorem ev_field_pd {s:TypeId} {f off fty sz:Nat} {l} {ds:List D} (hs:Γ.sh s = .struct l) (hf:l[f]? = some (off,fty,sz)) (hz:Nat.beq sz 0=false) (hx:opSV L x = .pd ds):Ev Γ k L H (.fieldAddr s x f) ty (.pd (ds.drop off)) :=
 ev_fieldAddr hs hf hz hx (.inl ⟨ds,rfl,rfl⟩)
theorem ev_field_loc {s:TypeId} {f off fty sz i o:Nat} {l} (hs:Γ.sh s = .struct l) (hf:l[f]? = some (off,fty,sz)) (hz:Nat.beq sz 0=false) (hx:opSV L x = .loc i o):Ev Γ k L H (.fieldAddr s x f) ty (.loc i (o + off)) :=
 ev_fieldAddr hs hf hz hx (.inr (.inl ⟨i,o,rfl,rfl⟩))
theorem ev_field_prow {s:TypeId} {f off fty sz i j es o:Nat} {l} (hs:Γ.sh s = .struct l) (hf:l[f]? = some (off,fty,sz)) (hz:Nat.beq sz 0=false) (hx:opSV L x = .prow i j es o):Ev Γ k L H (.fieldAddr s x f) ty (.prow i j es (o + off)) :=
 ev_fieldAddr hs hf hz hx (.inr (.inr ⟨i,j,es,o,rfl,rfl⟩))
theorem run_load1 (ho:Γ.sh t≠.other) (hg:(Γ.sh t).isAgg=false) {A:Act} {p:Addr} {v:Value} {w':World} (hA:A.eval x = .pointer (some p)) (hc:w'.cell? p=some v) (dst:Option Tmp) (pos) (after) (guard) :
  (execOp A.eval ⟨dst,.load t x,ty,pos,after,guard⟩).run Γ.P w' = .ok (.value v) w':=by
 simp [execOp,Instr.loadAt,hA,Instr.sureAddr,loadVar,Ctx.agg ho,hg,hc]
theorem cell_below {w w':World} (hb:Below w.heap.size w w') {p:Addr} {v:Value} (h:w.cell? p=some v):w'.cell? p=some v:=by
 rw [hb.cell (World.block_lt_of_cell? w p h)];exact h
theorem ev_load_pd {d0:D} {ds:List D} (hkn:(Γ.sh t).known=true) (hg:(Γ.sh t).isAgg=false) (hx:opSV L x = .pd (d0::ds)):Ev Γ k L H (.load t x) ty (.d d0):=by
 intro e a w m
 have ho:=Sh.known_ne hkn
 obtain⟨b,off,hv,hb,hX,hcell⟩:=evT m hx (cSV_pd · _)
 obtain⟨u,g1,g2⟩:=hcell 0 (by simp)
 exact⟨u,fun _ _ _ _ w' hw=>run_load1 ho hg hv (cell_below hw g1) _ _ _ _,g2⟩
theorem HRel.blk_cell {X e w} {id:Nat} {te:TypeId} {cs:List SV} (h:HRel X e w (id,.blk te cs)) {o:Nat} {s:SV} (hc:cs[o]? = some s):∃ v,w.cell? ⟨e.β id,o,none⟩=some v∧Rel X e w s v:=by
 obtain⟨vs,h1,h2,_⟩:=h
 obtain⟨v,g1,g2⟩:=RelL.get cs vs h2 o s hc
 exact⟨v,by rw [cell_of_row w _ o _ te (0,0) h1];simpa using g1,g2⟩
theorem ev_load_loc {i o:Nat} {te:TypeId} {cs:List SV} {s:SV} (hkn:(Γ.sh t).known=true) (hg:(Γ.sh t).isAgg=false) (hx:opSV L x = .loc i o) (hH:Hp.get H i=some (.blk te cs)) (hc:cs[o]? = some s) :
  Ev Γ k L H (.load t x) ty s:=by
 intro e a w m
 have ho:=Sh.known_ne hkn
 obtain⟨_,hv⟩:=evT m hx (cSV_loc · _ _)
 obtain⟨v,g1,g2⟩:=HRel.blk_cell (m.heap _ (Hp.mem_of hH)).2 hc
 exact⟨v,fun _ _ _ _ w' hw=>run_load1 ho hg hv (cell_below hw g1) _ _ _ _,g2⟩
theorem ev_nilCheck {s:SV} (hx:opSV L x=s) (hs:(∃ ds,s = .pd ds)∨(∃ i o,s = .loc i o)∨(∃ i j es o,s = .prow i j es o)):Ev Γ k L H (.nilCheck x) ty s:=by
 intro e a w m
 have hv:∃ p,a.eval x = .pointer (some p)∧Rel (Γ.X e H) e w s (a.eval x):=by
  rcases hs with ⟨ds,rfl⟩|⟨i,o,rfl⟩|⟨i,j,es,o,rfl⟩
  ·have hr:=evT m hx (cSV_pd · _);obtain⟨b,off,hv,_⟩:=hr;exact⟨_,hv,evT m hx (cSV_pd · _)⟩
  ·have hr:=evT m hx (cSV_loc · _ _);exact⟨_,hr.2,hr⟩
  ·have hr:=evT m hx (cSV_prow · _ _ _ _);obtain⟨_,g,n,cap,_,hv⟩:=hr;exact⟨_,hv,evT m hx (cSV_prow · _ _ _ _)⟩
 obtain⟨p,hv,hr⟩:=hv
 exact⟨a.eval x,fun _ _ _ _ w' _=>by simp [execOp,hv],hr⟩
theorem cSV_ptr (v:Value) (ds:List D):cSV v≠.d (.ptr ds):=by unfold cSV;split <;> simp
theorem ev_nilPtr {ds:List D} (hx:opSV L x = .d (.ptr ds)):Ev Γ k L H (.nilCheck x) ty (.pd ds):=by
 intro e a w m
 have hr:RepC (Γ.X e H) w (a.eval x) (.ptr ds):=evT m hx (cSV_ptr · _)
 obtain⟨v,hv⟩:∃ v,v=a.eval x:=⟨_,rfl⟩
 rw [← hv] at hr
 cases hr with
 | @ptr b off ds c h1 h2 h3 h4 =>
  exact⟨a.eval x,fun _ _ _ _ w' _=>by simp [execOp,← hv],b,off,hv.symm,h2,h1,fun j hj=>⟨c j,h3 j hj,h4 j hj⟩⟩
theorem ev_extract {i:Nat} {ss:List SV} {s:SV} (hx:opSV L x = .tup ss) (hi:ss[i]? = some s):Ev Γ k L H (.extract x i) ty s:=by
 intro e a w m
 obtain⟨vs,hv,hr⟩:=evT m hx (cSV_tup · _)
 obtain⟨v,g1,g2⟩:=RelL.get ss vs hr i s hi
 exact⟨v,fun _ _ _ _ w' _=>by simp [execOp,Instr.extract,hv,g1],g2⟩
theorem RelL.drop {X e w}:∀ (ss:List SV) (vs:List Value),RelL X e w ss vs→∀ n,RelL X e w (ss.drop n) (vs.drop n)
 | _,_,h,0=>h
 | [],[],_,_ + 1=>trivial
 | [],_::_,h,_=>h.elim
 | _::_,[],h,_=>h.elim
 | _::ss,_::vs,⟨_,h⟩,n + 1=>RelL.drop ss vs h n
theorem RelL.take {X e w}:∀ (ss:List SV) (vs:List Value),RelL X e w ss vs→∀ n,RelL X e w (ss.take n) (vs.take n)
 | _,_,_,0=>by simp [RelL]
 | [],[],_,_ + 1=>trivial
 | [],_::_,h,_=>h.elim
 | _::_,[],h,_=>h.elim
 | _::ss,_::vs,⟨h1,h2⟩,n + 1=>⟨h1,RelL.take ss vs h2 n⟩
theorem RelL.append {X e w}:∀ (ss:List SV) (vs:List Value) (ss':List SV) (vs':List Value),RelL X e w ss vs→RelL X e w ss' vs'→RelL X e w (ss++ss') (vs++vs')
 | [],[],_,_,_,h=>h
 | [],_::_,_,_,h,_=>h.elim
 | _::_,[],_,_,h,_=>h.elim
 | _::ss,_::vs,ss',vs',⟨h1,h2⟩,h=>⟨h1,RelL.append ss vs ss' vs' h2 h⟩
theorem HRel.blk_cells {X e w} {id:Nat} {te:TypeId} {cs:List SV} (h:HRel X e w (id,.blk te cs)) (o n:Nat) (hn:o + n≤cs.length) :
  ∃ vs:List Value,vs.length=n∧(∀ j v,vs[j]? = some v→w.cell? ((⟨e.β id,o,none⟩:Addr).add j)=some v)∧RelL X e w ((cs.drop o).take n) vs∧∀ v∈vs,v.oneCell' = true:=by
 obtain⟨vs,h1,h2,h3⟩:=h
 have hl:=RelL.length _ _ h2
 refine⟨(vs.drop o).take n,by simp;omega,fun j v hj=>?_,RelL.take _ _ (RelL.drop _ _ h2 o) n,fun v hv=>h3 v (List.mem_of_mem_drop (List.mem_of_mem_take hv))⟩
 rw [Addr.add_at,cell_of_row w _ _ _ te (0,0) h1]
 rw [List.getElem?_take] at hj
 split at hj
 ·simpa using hj
 ·cases hj
theorem run_load_agg (ho:Γ.sh t≠.other) (hg:(Γ.sh t).isAgg=true) {p:Addr} {vs:List Value} {w':World} (hn:vs.length=Γ.cells t) (hc:∀ j v,vs[j]? = some v→w'.cell? (p.add j)=some v) :
  (loadVar t p).run Γ.P w' = .ok (.agg vs.toArray) w':=by
 obtain⟨inf,z,hi,_,hs,_⟩:=Ctx.info ho
 have:=run_loadCells_list (P:=Γ.P) (w:=w') p vs hc
 rw [hn,← hs] at this
 simp [loadVar,Ctx.agg ho,hg,run_sizeOf hi,this]
theorem ev_load_agg_loc {i o:Nat} {te:TypeId} {cs:List SV} {l} (ht:Γ.sh t = .struct l) (hx:opSV L x = .loc i o) (hH:Hp.get H i=some (.blk te cs)) (hn:Nat.ble (o + Γ.cells t) cs.length=true) :
  Ev Γ k L H (.load t x) ty (.agg ((cs.drop o).take (Γ.cells t))):=by
 intro e a w m
 obtain⟨_,hv⟩:=evT m hx (cSV_loc · _ _)
 obtain⟨vs,g1,g2,g3,_⟩:=HRel.blk_cells (m.heap _ (Hp.mem_of hH)).2 o (Γ.cells t) (Nat.le_of_ble_eq_true hn)
 have ho:Γ.sh t≠.other:=by rw [ht];intro h;cases h
 refine⟨.agg vs.toArray,fun _ _ _ _ w' hw=>?_,⟨vs,rfl,g3⟩⟩
 have hr:=run_load_agg (Γ:=Γ) (t:=t) (w':=w') (p:=⟨e.β i,o,none⟩) ho (by rw [ht];rfl) g1 (fun j v hj=>cell_below hw (g2 j v hj))
 simp [execOp,Instr.loadAt,hv,Instr.sureAddr,hr]
theorem ev_load_agg_pd {ds:List D} {l} (ht:Γ.sh t = .struct l) (hx:opSV L x = .pd ds) (hnb:Nat.ble (Γ.cells t) ds.length=true):Ev Γ k L H (.load t x) ty (.agg ((ds.take (Γ.cells t)).map .d)):=by
 intro e a w m
 have hn:=Nat.le_of_ble_eq_true hnb
 obtain⟨b,off,hv,hb,hX,hcell⟩:=evT m hx (cSV_pd · _)
 have ho:Γ.sh t≠.other:=by rw [ht];intro h;cases h
 have key:∀ n,n≤ds.length→∃ vs:List Value,vs.length=n∧(∀ j v,vs[j]? = some v→w.cell? ((⟨b,off,none⟩:Addr).add j)=some v)∧RelL (Γ.X e H) e w ((ds.take n).map .d) vs:=by
  intro n
  induction n with
  | zero=>intro _;exact⟨[],rfl,by simp,by simp [RelL]⟩
  | succ n ih =>
   intro hle
   obtain⟨vs,h1,h2,h3⟩:=ih (by omega)
   obtain⟨u,g1,g2⟩:=hcell n (by omega)
   refine⟨vs++[u],by simp [h1],fun j v hj=>?_,?_⟩
   ·by_cases hlt:j < vs.length
    ·rw [List.getElem?_append_left hlt] at hj;exact h2 j v hj
    ·rw [List.getElem?_append_right (by omega)] at hj
     have:j=n:=by
      rcases Nat.lt_or_ge (j - vs.length) 1 with h|h
      ·omega
      ·rw [List.getElem?_eq_none (by simpa using h)] at hj;cases hj
     subst this
     rw [Addr.add_at]
     simp [h1] at hj
     rw [← hj];exact g1
   ·rw [List.take_succ_eq_append_getElem (by omega),List.map_append]
    exact RelL.append _ _ _ _ h3 ⟨g2,trivial⟩
 obtain⟨vs,g1,g2,g3⟩:=key _ hn
 refine⟨.agg vs.toArray,fun _ _ _ _ w' hw=>?_,⟨vs,rfl,g3⟩⟩
 have hr:=run_load_agg (Γ:=Γ) (t:=t) (w':=w') (p:=⟨b,off,none⟩) ho (by rw [ht];rfl) g1 (fun j v hj=>cell_below hw (g2 j v hj))
 simp [execOp,Instr.loadAt,hv,Instr.sureAddr,hr]
end
end Go.Proofs.YtapciiffpnociabGreatDoor
namespace Go.Proofs.YtapciiffpnociabGreatDoor
open Go Go.RowKit
def enumSl:Nat→List SV→Sl
 | _,[]=>[]
 | i,s::ss=>(i,s)::enumSl (i + 1) ss
def resOne (L:Sl) (H:Hp) (τ:List (Nat × TI)):ResultVar→Option SV
 | .tmp t=>some (L.get t)
 | .cell a t=>match L.get a with
  | .loc i o=>match Hp.get H i with
   | some (.blk _ cs)=>match (tiGet τ t).sh with
    | .struct _=>match Nat.ble (o + (tiGet τ t).cells) cs.length with
     | true=>some (.agg ((cs.drop o).take (tiGet τ t).cells))
     | false=>none
    | .other=>none
    | _=>cs[o]?
   | _=>none
  | _=>none
def resL (L:Sl) (H:Hp) (τ:List (Nat × TI)):List ResultVar→Option (List SV)
 | []=>some []
 | r::rs=>match resOne L H τ r,resL L H τ rs with
  | some s,some ss=>some (s::ss)
  | _,_=>none
def resSV (L:Sl) (H:Hp) (τ:List (Nat × TI)) (rs:List ResultVar):Option SV :=
 match resL L H τ rs with
 | some [s]=>some s
 | some ss=>some (.tup ss)
 | none=>none
def RetQ (τ:List (Nat × TI)) (rs:List ResultVar) (R:Nat→SV→Hp→Prop):Post:=fun x k L H =>
 (x = .ret∨x = .normal)∧∃ r,resSV L H τ rs=some r∧R k r H
def callable (P:Program) (f:FuncId):Bool:=match P.funcs[f]? with
 | some fn => !(fn.name == "runtime.NumGoroutine") && fn.body.isSome
 | none=>false
def FnOk (dr:Bool) (P:Program) (τ:List (Nat × TI)) (τok:TabOk P τ) (f:FuncId) (args:List SV) (J k:Nat) (H:Hp) (R:Nat→SV→Hp→Prop):Prop :=
 callable P f=true ∧
 ∀ (O:Nat→Prop) (e:Env) (w:World) (vs:List Value),
  Heap ⟨P,τ,τok,O,w,fun b=>b∈ownedL e H,0,J,e.an,none,noPan,true,dr⟩ k H e w→RelL (Ctx.X ⟨P,τ,τok,O,w,fun b=>b∈ownedL e H,0,J,e.an,none,noPan,true,dr⟩ e H) e w args vs →
  Calls P f vs.toArray w (fun en w'=>∃ k' r H' e' v,R k' r H'∧en = .returned v∧Heap ⟨P,τ,τok,O,w,fun b=>b∈ownedL e H,0,J,e.an,none,noPan,true,dr⟩ k' H' e' w' ∧
   Rel (Ctx.X ⟨P,τ,τok,O,w,fun b=>b∈ownedL e H,0,J,e.an,none,noPan,true,dr⟩ e' H') e' w' r v)
def FnOkE (dr:Bool) (P:Program) (τ:List (Nat × TI)) (τok:TabOk P τ) (f:FuncId) (args:List SV) (J k:Nat) (H:Hp) (R:Nat→SV→Hp→Prop) (E:Value→Prop):Prop :=
 callable P f=true ∧
 ∀ (O:Nat→Prop) (e:Env) (w:World) (vs:List Value),
  Heap ⟨P,τ,τok,O,w,fun b=>b∈ownedL e H,0,J,e.an,none,noPan,true,dr⟩ k H e w→RelL (Ctx.X ⟨P,τ,τok,O,w,fun b=>b∈ownedL e H,0,J,e.an,none,noPan,true,dr⟩ e H) e w args vs →
  Calls P f vs.toArray w (fun en w'=>(∃ k' r H' e' v,R k' r H'∧en = .returned v∧Heap ⟨P,τ,τok,O,w,fun b=>b∈ownedL e H,0,J,e.an,none,noPan,true,dr⟩ k' H' e' w' ∧
   Rel (Ctx.X ⟨P,τ,τok,O,w,fun b=>b∈ownedL e H,0,J,e.an,none,noPan,true,dr⟩ e' H') e' w' r v) ∨
   ∃ (v:Value) (k':Nat) (e':Env),E v∧en = .panicked [{ v,recovered:=false }]∧Heap ⟨P,τ,τok,O,w,fun b=>b∈ownedL e H,0,J,e.an,none,noPan,true,dr⟩ k' [] e' w')
theorem FnOkE.ok {dr:Bool} {P:Program} {τ:List (Nat × TI)} {τok:TabOk P τ} {f:FuncId} {args:List SV} {J k:Nat} {H:Hp} {R:Nat→SV→Hp→Prop} (h:FnOkE dr P τ τok f args J k H R fun _=>False):FnOk dr P τ τok f args J k H R :=
 ⟨h.1,fun O e w vs hH hr=>(h.2 O e w vs hH hr).mono fun _ _ hx=>hx.elim id fun⟨_,_,_,hE,_⟩=>hE.elim⟩
theorem Heap.reframe {P τ τok O w0 E0 n n' J β0 rd rd' pan pan' mk mk' dr} {k:Nat→Prop} {H:Hp} {e:Env} {w:World} (h:Heap ⟨P,τ,τok,O,w0,E0,n,J,β0,rd,pan,mk,dr⟩ k H e w):Heap ⟨P,τ,τok,O,w0,E0,n',J,β0,rd',pan',mk',dr⟩ k H e w :=
 ⟨h.top,h.heap,h.ids,h.nodup,h.mine,h.os,h.tape,h.output,h.drawn,h.size,h.block,h.obound,h.tabs,h.jle,h.anchor⟩
theorem Heap.bare {Γ:Ctx} {k:Nat→Prop} {H:Hp} {e:Env} {w:World} (h:Heap Γ k H e w):Heap Γ k [] e w :=
 ⟨h.top,fun _ hp=>(nomatch hp),.nil,.nil,fun _ hb=>(nomatch hb),h.os,h.tape,h.output,h.drawn,h.size,h.block,h.obound,h.tabs,h.jle,h.anchor⟩
def KeepsCells (w w':World):Prop:=∀ (b:Nat) (o:Obj),plainObj o=true→w.heap[b]? = some o→w'.heap[b]? = some o
theorem KeepsCells.cell {w w':World} (h:KeepsCells w w') {a:Addr} {v:Value} (hc:w.cell? a=some v):w'.cell? a=some v:=by
 unfold World.cell? at hc ⊢
 split at hc
 ·rename_i c ty p hh
  rw [h _ _ rfl hh]
  exact hc
 ·cases hc
theorem KeepsCells.fro {w w':World} (h:KeepsCells w w') {a:Addr} {v:Value} (hc:w.cell? a=some v) (hz:w.frozen? a=false):w'.frozen? a=false:=by
 unfold World.cell? at hc
 split at hc
 ·rename_i c ty p hh
  rw [← hz]
  simp only [World.frozen?,h _ _ rfl hh,hh]
 ·cases hc
theorem RepC.turned {X:Nat→Prop} {w w':World} (hs:w.heap.size≤w'.heap.size) (hk:KeepsCells w w') {v:Value} {x:D} (h:RepC X w v x):RepC X w' v x:=by
 induction h with
 | int h=>exact .int h
 | bool=>exact .bool
 | str h=>exact .str h
 | nil=>exact .nil
 | zero=>exact .zero
 | slice c hn hc hm hX hb he hcell hrep hz ih=>exact .slice c hn hc hm hX (Nat.lt_of_lt_of_le hb hs) he (fun i h j hj=>hk.cell (hcell i h j hj)) ih (fun i h j hj=>hk.fro (hcell i h j hj) (hz i h j hj))
 | ptr c hX hb hcell hrep hz ih=>exact .ptr c hX (Nat.lt_of_lt_of_le hb hs) (fun j hj=>hk.cell (hcell j hj)) ih (fun j hj=>hk.fro (hcell j hj) (hz j hj))
theorem ShpC.turned {X:Nat→Prop} {w w':World} (hs:w.heap.size≤w'.heap.size) (hk:KeepsCells w w') {v:Value} {x:D} (h:ShpC X w v x):ShpC X w' v x:=by
 induction h with
 | int h=>exact .int h
 | bool=>exact .bool
 | str h=>exact .str h
 | nil=>exact .nil
 | zero=>exact .zero
 | slice c hn hc hm hX hb he hcell hrep hz ih=>exact .slice c hn hc hm hX (Nat.lt_of_lt_of_le hb hs) he (fun i h j hj=>hk.cell (hcell i h j hj)) ih (fun i h j hj=>hk.fro (hcell i h j hj) (hz i h j hj))
 | ptr c hX hb hcell hrep hz ih=>exact .ptr c hX (Nat.lt_of_lt_of_le hb hs) (fun j hj=>hk.cell (hcell j hj)) ih (fun j hj=>hk.fro (hcell j hj) (hz j hj))
theorem RgC.turned {X:Nat→Prop} {w w':World} {B q:Nat} (hs:w.heap.size≤w'.heap.size) (hk:KeepsCells w w') {v:Value} {x:D} (h:RgC X w B q v x):RgC X w' B q v x:=by
 refine⟨Nat.le_trans h.1 hs,?_⟩
 have h2:=h.2
 split
 ·exact ShpC.turned hs hk h2
 ·split at h2
  ·rename_i h5;exact absurd rfl h5
  ·exact RepC.turned hs hk h2
mutual
theorem Rel.turned {X:Nat→Prop} {e:Env} {w w':World} (hs:w.heap.size≤w'.heap.size) (hk:KeepsCells w w'):∀ (s:SV) (v:Value),Rel X e w s v→Rel X e w' s v
 | .junk,_,_=>trivial
 | .d _,_,h=>RepC.turned hs hk h
 | .nils,_,h=>h
 | .pd _,_,⟨b,off,h1,h2,h3,h4⟩=>⟨b,off,h1,Nat.lt_of_lt_of_le h2 hs,h3,fun j hj =>
   let ⟨u,g1,g2⟩:=h4 j hj
   ⟨u,hk.cell g1,RepC.turned hs hk g2⟩⟩
 | .loc _ _,_,h=>h
 | .row _,_,h=>h
 | .mp _,_,h=>h
 | .md _ _,_,⟨b,h1,h2,h3,h4⟩=>⟨b,h1,Nat.lt_of_lt_of_le h2 hs,h3,h4.keep fun _ _ hh=>hk _ _ rfl hh⟩
 | .prow _ _ _ _,_,h=>h
 | .sl _ _ _ _,_,h=>h
 | .rsl _ _ _ _,_,h=>h
 | .rg _ _ _,_,h=>RgC.turned hs hk h
 | .fn _ caps,_,⟨vs,h1,h2⟩=>⟨vs,h1,RelL.turned hs hk caps vs h2⟩
 | .agg ss,_,⟨vs,h1,h2⟩=>⟨vs,h1,RelL.turned hs hk ss vs h2⟩
 | .tup ss,_,⟨vs,h1,h2⟩=>⟨vs,h1,RelL.turned hs hk ss vs h2⟩
 | .val _,_,h=>h
theorem RelL.turned {X:Nat→Prop} {e:Env} {w w':World} (hs:w.heap.size≤w'.heap.size) (hk:KeepsCells w w'):∀ (ss:List SV) (vs:List Value),RelL X e w ss vs→RelL X e w' ss vs
 | [],[],_=>trivial
 | [],_::_,h=>h.elim
 | _::_,[],h=>h.elim
 | s::ss,v::vs,⟨h1,h2⟩=>⟨Rel.turned hs hk s v h1,RelL.turned hs hk ss vs h2⟩
end
theorem HRel.turned {X:Nat→Prop} {e:Env} {w w':World} (hs:w.heap.size≤w'.heap.size) (hk:KeepsCells w w') (p:Nat × HB) (h:HRel X e w p):HRel X e w' p:=by
 obtain⟨id,hbk⟩:=p
 cases hbk with
 | blk ty cs =>
  obtain⟨vs,h1,h2,h3⟩:=h
  exact⟨vs,hk _ _ rfl h1,RelL.turned hs hk _ _ h2,h3⟩
 | row ty es xs =>
  obtain⟨vs,h1,h2,h3,h4⟩:=h
  refine⟨vs,⟨h1.1,?_⟩,h2,h3,fun i hi j hj=>?_⟩
  ·rcases h1.2 with h5|⟨g,cap,cur,hv,hg,hh,r⟩
   ·exact Or.inl h5
   ·exact Or.inr ⟨g,cap,cur,hv,hg,hk _ _ rfl hh,r⟩
  ·obtain⟨v,g1,g2⟩:=h4 i hi j hj
   exact⟨v,g1,RepC.turned hs hk g2⟩
 | map kd kvs=>exact MapIs.keep h fun es clock h1=>hk _ _ rfl h1
theorem Heap.turned {Γ:Ctx} {k:Nat→Prop} {H:Hp} {e:Env} {w w':World} (h:Heap Γ k H e w) (hs:w.heap.size≤w'.heap.size) (hk:KeepsCells w w') (hos:w'.os=w.os) (ht:w'.tape=w.tape) (ho:w'.output=w.output) (hdr:w'.drawn=w.drawn)
  (hb:∀ b,b < Γ.w0.heap.size→¬ Γ.E0 b→w'.heap[b]? = w.heap[b]?):Heap Γ k H e w' where
 top:=h.top
 heap p hp:=⟨(h.heap p hp).1,HRel.turned hs hk p (h.heap p hp).2⟩
 ids:=h.ids
 nodup:=h.nodup
 mine:=h.mine
 os:=hos.trans h.os
 tape:=ht.trans h.tape
 output:=ho.trans h.output
 drawn hd:=hdr▸h.drawn hd
 size:=Nat.le_trans h.size hs
 block b h1 h2:=(hb b h1 h2).trans (h.block b h1 h2)
 obound:=h.obound
 tabs:=h.tabs
 jle:=h.jle
 anchor:=h.anchor
theorem keepsCells_put {w:World} {r:Nat} {o o':Obj} (h:w.heap[r]? = some o) (hn:plainObj o=false):KeepsCells w (w.putObj r o'):=by
 intro b o2 hp hb
 by_cases hbr:b=r
 ·subst hbr;rw [h] at hb;cases hb;rw [hn] at hp;cases hp
 ·rw [World.putObj_heap_other hbr];exact hb
theorem leave_marks {Γ:Ctx} {fn:Func} {u:FrameMode} (hu:u≠.run) {R:Ending→World→Prop} {tmps:Array Value}:∀ (rs:List Nat) (w:World),rs.Nodup→(∀ r∈rs,Γ.w0.heap.size≤r∧w.heap[r]? = some (Obj.deferred (some []))) →
  (∀ w',w.heap.size≤w'.heap.size→KeepsCells w w'→w'.os=w.os→w'.tape=w.tape→w'.output=w.output→w'.drawn=w.drawn→(∀ b,b < Γ.w0.heap.size→w'.heap[b]? = w.heap[b]?)→LeavesInM Fence.wide 0 Γ.P fn tmps R [] u w') →
  LeavesInM Fence.wide 0 Γ.P fn tmps R (rs.map mark) u w
 | [],w,_,_,h=>h w (Nat.le_refl _) (fun _ _ _ h=>h) rfl rfl rfl rfl (fun _ _=>rfl)
 | r::rs,w,hn,hr,h=>by
  obtain⟨h1,h2⟩:=List.nodup_cons.1 hn
  obtain⟨hr1,hr2⟩:=hr r (List.mem_cons_self ..)
  refine⟨hu,.inl ⟨r,_,rfl,run_takeDeferred hr2,?_⟩⟩
  have hk:KeepsCells w (w.putObj r (.deferred none)):=keepsCells_put hr2 rfl
  refine leave_marks hu rs _ h2 (fun x hx=>⟨(hr x (List.mem_cons_of_mem _ hx)).1,?_⟩) fun w' g1 g2 g3 g4 g5 gd g6=>h w' (by rw [World.putObj_size] at g1;exact g1) (fun b o hp hb=>g2 _ _ hp (hk _ _ hp hb)) g3 g4 g5 gd fun b hb=>(g6 b hb).trans ?_
  ·rw [World.putObj_heap_other (fun hxr=>h1 (by rw [← hxr];exact hx))];exact (hr x (List.mem_cons_of_mem _ hx)).2
  ·rw [World.putObj_heap_other (by omega)]
theorem enumSl_slot {X e w}:∀ (ss:List SV) (vs more:List Value) (i:Nat) (pre:List Value),pre.length=i→RelL X e w ss vs→∀ t,Rel X e w ((enumSl i ss).get t) ((pre++vs++more).toArray.getD t undef)
 | [],_,_,_,_,_,_,_=>trivial
 | _::_,[],_,_,_,_,h,_=>h.elim
 | s::ss,v::vs,more,i,pre,hp,⟨h1,h2⟩,t=>by
  simp only [enumSl,Sl.get_cons]
  split
  ·rename_i ht
   subst ht
   have:(pre++v::vs++more).toArray.getD i undef=v:=by
    simp [Array.getD_eq_getD_getElem?,← hp]
   rw [this];exact h1
  ·have:=enumSl_slot ss vs more (i + 1) (pre++[v]) (by simp [hp]) h2 t
   simpa using this
theorem resOne_run {Γ:Ctx} {k:Nat→Prop} {L H e a w} (m:Models Γ k L H e a w) (r:ResultVar) (s:SV) (h:resOne L H Γ.τ r=some s) :
  ∃ v,(match r with|.tmp t=>(pure (a.tmps.getD t undef):Sem Value)|.cell p t=>do loadVar t (← asAddr (a.tmps.getD p undef))).run Γ.P w = .ok v w∧Rel (Γ.X e H) e w s v:=by
 cases r with
 | tmp t =>
  simp only [resOne,Option.some.injEq] at h
  exact⟨_,by simp,h▸m.slot t⟩
 | cell p t =>
  simp only [resOne] at h
  have hp:=m.slot p
  cases hL:L.get p with
  | loc i o =>
   simp only [hL] at h hp
   obtain⟨_,hv⟩:=hp
   cases hH:Hp.get H i with
   | none=>simp [hH] at h
   | some b =>
    cases b with
    | row ty es xs=>simp [hH] at h
    | map kd kvs=>simp [hH] at h
    | blk ty cs =>
     simp only [hH] at h
     have hb:=(m.heap _ (Hp.mem_of hH)).2
     have one:(tiGet Γ.τ t).sh≠.other→(tiGet Γ.τ t).sh.isAgg=false→cs[o]? = some s→∃ v,(do loadVar t (← asAddr (a.tmps.getD p undef)):Sem Value).run Γ.P w = .ok v w∧Rel (Γ.X e H) e w s v:=by
      intro ho hg hc
      obtain⟨v,g1,g2⟩:=HRel.blk_cell hb hc
      exact⟨v,by simp [hv,asAddr,loadVar,Ctx.agg (Γ:=Γ) (t:=t) ho,Ctx.sh,hg,g1],g2⟩
     cases hs:(tiGet Γ.τ t).sh with
     | struct l =>
      simp only [hs] at h
      cases hn:Nat.ble (o + (tiGet Γ.τ t).cells) cs.length with
      | false=>simp [hn] at h
      | true =>
       simp only [hn,Option.some.injEq] at h
       obtain⟨vs,g1,g2,g3,_⟩:=HRel.blk_cells hb o (Γ.cells t) (Nat.le_of_ble_eq_true hn)
       have ht:Γ.sh t = .struct l:=hs
       have hr:=run_load_agg (Γ:=Γ) (t:=t) (w':=w) (p:=⟨e.β i,o,none⟩) (by rw [ht];intro h;cases h) (by rw [ht];rfl) g1 g2
       exact⟨.agg vs.toArray,by simp [hv,asAddr,hr],h▸⟨vs,rfl,g3⟩⟩
     | other=>simp [hs] at h
     | int _=>simp only [hs] at h;exact one (by simp [hs]) (by simp [hs,Sh.isAgg]) h
     | bool=>simp only [hs] at h;exact one (by simp [hs]) (by simp [hs,Sh.isAgg]) h
     | str=>simp only [hs] at h;exact one (by simp [hs]) (by simp [hs,Sh.isAgg]) h
     | slice _=>simp only [hs] at h;exact one (by simp [hs]) (by simp [hs,Sh.isAgg]) h
     | ptr _=>simp only [hs] at h;exact one (by simp [hs]) (by simp [hs,Sh.isAgg]) h
     | map _ _=>simp only [hs] at h;exact one (by simp [hs]) (by simp [hs,Sh.isAgg]) h
  | _=>simp [hL] at h
theorem results_run {Γ:Ctx} {k:Nat→Prop} {L H e a w} (m:Models Γ k L H e a w) (fn:Func) (s:SV) (h:resSV L H Γ.τ fn.results.toList=some s) :
  ∃ v,(results fn a.tmps).run Γ.P w = .ok v w∧Rel (Γ.X e H) e w s v:=by
 have key:∀ (rs:List ResultVar) (ss:List SV),resL L H Γ.τ rs=some ss→∃ vs:List Value,(rs.mapM fun (r:ResultVar)=>match r with|.tmp t=>(pure (a.tmps.getD t undef):Sem Value)|.cell p t=>do loadVar t (← asAddr (a.tmps.getD p undef))).run Γ.P w = .ok vs w∧RelL (Γ.X e H) e w ss vs:=by
  intro rs
  induction rs with
  | nil=>intro ss h;simp only [resL,Option.some.injEq] at h;subst h;exact⟨[],by simp,trivial⟩
  | cons r rs ih =>
   intro ss h
   simp only [resL] at h
   cases h1:resOne L H Γ.τ r with
   | none=>simp [h1] at h
   | some s1 =>
    cases h2:resL L H Γ.τ rs with
    | none=>simp [h1,h2] at h
    | some ss2 =>
     simp only [h1,h2,Option.some.injEq] at h
     subst h
     obtain⟨v,g1,g2⟩:=resOne_run m r s1 h1
     obtain⟨vs,g3,g4⟩:=ih ss2 h2
     refine⟨v::vs,?_,g2,g4⟩
     rw [List.mapM_cons]
     simp only [Sem.run_bind,Sem.run_pure]
     cases r <;> simp_all
 unfold resSV at h
 cases hL:resL L H Γ.τ fn.results.toList with
 | none=>simp [hL] at h
 | some ss =>
  obtain⟨vs,g1,g2⟩:=key _ _ hL
  have hr:(results fn a.tmps).run Γ.P w = .ok (if h:vs.toArray.size=1 then vs.toArray[0] else .tuple vs.toArray) w:=by
   unfold results
   rw [Array.mapM_eq_mapM_toList]
   rw [map_eq_pure_bind]
   simp only [Sem.run_bind,Sem.run_pure]
   exact congrArg (fun r:Result (List Value)=>(r.andThen fun a w'=>Result.ok a.toArray w').andThen fun a w'=>Result.ok (if h:a.size=1 then a[0] else Value.tuple a) w') g1
  have hlen:=RelL.length _ _ g2
  rw [hL] at h
  refine⟨_,hr,?_⟩
  clear hr g1 hL key
  cases ss with
  | nil =>
   cases vs with
   | nil=>cases h;exact⟨[],rfl,trivial⟩
   | cons v vs=>exact g2.elim
  | cons s1 ss =>
   cases vs with
   | nil=>exact g2.elim
   | cons v1 vs =>
    cases ss with
    | nil =>
     cases vs with
     | nil=>cases h;exact g2.1
     | cons v vs=>exact g2.2.elim
    | cons s2 ss =>
     cases vs with
     | nil=>exact g2.2.elim
     | cons v2 vs=>cases h;exact⟨v1::v2::vs,by simp,g2⟩
theorem fn_enterE {dr:Bool} {P:Program} {τ:List (Nat × TI)} {τok:TabOk P τ} {f:FuncId} {fn:Func} {c:Code} {args:List SV} {J k:Nat} {H:Hp} {R:Nat→SV→Hp→Prop} {E:Value→Prop} (N:Nat) (hf:P.funcs[f]? = some fn) (hb:fn.body=some c)
  (hN:args.length + (fn.ntmps - args.length)=N) (hcall:callable P f=true)
  (h:∀ (O:Nat→Prop) (w0:World) (E0:Nat→Prop) (β0:Nat→Nat × Value),DW ⟨P,τ,τok,O,w0,E0,N,J,β0,none,⟨fun v _ _=>E v,[]⟩,true,dr⟩ c (RetQ τ fn.results.toList R) k (enumSl 0 args) H):FnOkE dr P τ τok f args J k H R E:=by
 refine⟨hcall,?_⟩
 intro O e w vs hH hr
 have hl:=RelL.length _ _ hr
 have hstart:Models ⟨P,τ,τok,O,w,fun b=>b∈ownedL e H,N,J,e.an,none,⟨fun v _ _=>E v,[]⟩,true,dr⟩ k (enumSl 0 args) H e { tmps:=vs.toArray++Array.replicate (fn.ntmps - vs.toArray.size) undef,defers:=[] } w:=by
  refine⟨hH.reframe,Marks.nil,?_,fun t=>?_⟩
  ·simp [← hN,hl]
  ·have:=enumSl_slot args vs (List.replicate (fn.ntmps - vs.length) undef) 0 [] rfl hr t
   have he:vs.toArray++Array.replicate (fn.ntmps - vs.toArray.size) undef=([]++vs++List.replicate (fn.ntmps - vs.length) undef).toArray:=by simp
   rw [he]
   exact this
 refine callsIn_wide.1 (callsIn_of_wp_marks (F:=Fence.wide) (n:=0) hf hb trivial (wpIn_mono (h O w (fun b=>b∈ownedL e H) e.an e _ w hstart) ?_))
 rintro ex a' w' (⟨k',L',H',e',m',hx,r,hres,hR⟩|⟨v,k',L',H',e',rfl,hE,m'⟩)
 ·obtain⟨rs,hrs,_,hnd,hm⟩:=m'.defers
  have key:LeavesInM Fence.wide 0 P fn a'.tmps (fun en w'=>(∃ k' r H' e' v,R k' r H'∧en = .returned v∧Heap ⟨P,τ,τok,O,w,fun b=>b∈ownedL e H,0,J,e.an,none,noPan,true,dr⟩ k' H' e' w' ∧
   Rel (Ctx.X ⟨P,τ,τok,O,w,fun b=>b∈ownedL e H,0,J,e.an,none,noPan,true,dr⟩ e' H') e' w' r v) ∨
   ∃ (v:Value) (k':Nat) (e':Env),E v∧en = .panicked [{ v,recovered:=false }]∧Heap ⟨P,τ,τok,O,w,fun b=>b∈ownedL e H,0,J,e.an,none,noPan,true,dr⟩ k' [] e' w') a'.defers .returning w':=by
   rw [hrs,List.append_nil]
   refine leave_marks (Γ:=⟨P,τ,τok,O,w,fun b=>b∈ownedL e H,N,J,e.an,none,⟨fun v _ _=>E v,[]⟩,true,dr⟩) (by simp) rs w' hnd hm fun w2 g1 g2 g3 g4 g5 gd g6=>?_
   have hH2:=m'.toHeap.turned g1 g2 g3 g4 g5 gd (fun b hb _=>g6 b hb)
   have m2:Models ⟨P,τ,τok,O,w,fun b=>b∈ownedL e H,N,J,e.an,none,⟨fun v _ _=>E v,[]⟩,true,dr⟩ k' L' H' e' { a' with defers:=[] } w2:=⟨hH2,Marks.nil,m'.len,fun t=>Rel.turned g1 g2 _ _ (m'.slot t)⟩
   obtain⟨v,g7,g8⟩:=results_run m2 fn r hres
   exact⟨v,g7,.inl ⟨k',r,H',e',v,hR,rfl,hH2.reframe,g8⟩⟩
  rcases hx with rfl|rfl
  ·exact key
  ·exact key
 ·obtain⟨rs,hrs,_,hnd,hm⟩:=m'.defers
  show LeavesInM Fence.wide 0 P fn a'.tmps _ a'.defers (.panicking _) w'
  rw [hrs,List.append_nil]
  refine leave_marks (Γ:=⟨P,τ,τok,O,w,fun b=>b∈ownedL e H,N,J,e.an,none,⟨fun v _ _=>E v,[]⟩,true,dr⟩) (by simp) rs w' hnd hm fun w2 g1 g2 g3 g4 g5 gd g6=>?_
  exact .inr ⟨v,k',e',hE,rfl,(m'.toHeap.bare.turned g1 g2 g3 g4 g5 gd (fun b hb _=>g6 b hb)).reframe⟩
theorem fn_enter {dr:Bool} {P:Program} {τ:List (Nat × TI)} {τok:TabOk P τ} {f:FuncId} {fn:Func} {c:Code} {args:List SV} {J k:Nat} {H:Hp} {R:Nat→SV→Hp→Prop} (N:Nat) (hf:P.funcs[f]? = some fn) (hb:fn.body=some c)
  (hN:args.length + (fn.ntmps - args.length)=N) (hcall:callable P f=true)
  (h:∀ (O:Nat→Prop) (w0:World) (E0:Nat→Prop) (β0:Nat→Nat × Value),DW ⟨P,τ,τok,O,w0,E0,N,J,β0,none,noPan,true,dr⟩ c (RetQ τ fn.results.toList R) k (enumSl 0 args) H):FnOk dr P τ τok f args J k H R :=
 FnOkE.ok (fn_enterE N hf hb hN hcall h)
mutual
theorem Rel.env {X e e' w}:∀ (s:SV) (v:Value),s.low 0=true→Rel X e w s v→Rel X e' w s v
 | .junk,_,_,_=>trivial
 | .d _,_,_,h=>h
 | .nils,_,_,h=>h
 | .pd _,_,_,h=>h
 | .loc _ _,_,hb,_=>by simp [SV.low,Nat.blt] at hb
 | .row _,_,hb,_=>by simp [SV.low,Nat.blt] at hb
 | .mp _,_,hb,_=>by simp [SV.low,Nat.blt] at hb
 | .md _ _,_,_,h=>h
 | .prow _ _ _ _,_,hb,_=>by simp [SV.low,Nat.blt] at hb
 | .sl _ _ _ _,_,hb,_=>by simp [SV.low,Nat.blt] at hb
 | .rsl _ _ _ _,_,hb,_=>by simp [SV.low,Nat.blt] at hb
 | .rg _ _ _,_,_,h=>h
 | .fn _ caps,_,hb,⟨vs,h1,h2⟩=>⟨vs,h1,RelL.env caps vs hb h2⟩
 | .agg ss,_,hb,⟨vs,h1,h2⟩=>⟨vs,h1,RelL.env ss vs hb h2⟩
 | .tup ss,_,hb,⟨vs,h1,h2⟩=>⟨vs,h1,RelL.env ss vs hb h2⟩
 | .val _,_,_,h=>h
theorem RelL.env {X e e' w}:∀ (ss:List SV) (vs:List Value),SV.lowL 0 ss=true→RelL X e w ss vs→RelL X e' w ss vs
 | [],[],_,_=>trivial
 | [],_::_,_,h=>h.elim
 | _::_,[],_,h=>h.elim
 | s::ss,v::vs,hb,h=>by
  simp only [SV.lowL,Bool.and_eq_true] at hb
  exact⟨Rel.env s v hb.1 h.1,RelL.env ss vs hb.2 h.2⟩
end
mutual
def SV.weak:SV→SV
 | .rg _ 0 x=>.d x
 | .rg _ 1 x=>.d x
 | .agg ss=>.agg (SV.weakL ss)
 | .tup ss=>.tup (SV.weakL ss)
 | s=>s
def SV.weakL:List SV→List SV
 | []=>[]
 | s::ss=>SV.weak s::SV.weakL ss
end
section
variable {X : Nat → Prop} {e : Env} {w : World}
theorem RepC.anyX {X Y:Nat→Prop} {w:World} {v:Value} {x:D} (hY:∀ b,b < w.heap.size→Y b→X b) (h:RepC X w v x):RepC Y w v x:=RepC.keep (Nat.le_refl _) (fun _ _ _=>rfl) hY h
mutual
theorem Rel.weak:∀ (s:SV) (v:Value),Rel X e w s v→Rel X e w s.weak v
 | .rg _ 0 _,_,h=>RepC.anyX (fun _ _ hy=>.inl hy) h.2
 | .rg _ 1 _,_,h=>RepC.anyX (fun _ _ hy=>.inl hy) h.2
 | .rg _ (_ + 2) _,_,h=>h
 | .agg ss,_,⟨vs,g1,g2⟩=>⟨vs,g1,RelL.weak ss vs g2⟩
 | .tup ss,_,⟨vs,g1,g2⟩=>⟨vs,g1,RelL.weak ss vs g2⟩
 | .junk,_,h=>h
 | .d _,_,h=>h
 | .nils,_,h=>h
 | .pd _,_,h=>h
 | .loc _ _,_,h=>h
 | .row _,_,h=>h
 | .mp _,_,h=>h
 | .md _ _,_,h=>h
 | .prow _ _ _ _,_,h=>h
 | .sl _ _ _ _,_,h=>h
 | .rsl _ _ _ _,_,h=>h
 | .fn _ _,_,h=>h
 | .val _,_,h=>h
theorem RelL.weak:∀ (ss:List SV) (vs:List Value),RelL X e w ss vs→RelL X e w (SV.weakL ss) vs
 | [],[],_=>trivial
 | [],_::_,h=>h.elim
 | _::_,[],h=>h.elim
 | s::ss,v::vs,h=>⟨Rel.weak s v h.1,RelL.weak ss vs h.2⟩
end
end
def FnP (dr:Bool) (P:Program) (τ:List (Nat × TI)) (τok:TabOk P τ) (f:FuncId) (args:List SV) (R:SV→Prop):Prop:=FnOk dr P τ τok f args 0 0 [] (fun _ r H'=>H' = []∧r.low 0=true∧R r)
section
variable {Γ : Ctx} {k : Nat → Prop} {L : Sl} {H : Hp} {K : Next'} {ops : List Oper} {rest : List Oper}
def opsL (L:Sl):List Operand→List SV
 | []=>[]
 | x::xs=>opSV L x::opsL L xs
def opsOk:List Operand→Bool
 | []=>true
 | x::xs=>opOkB x && opsOk xs
theorem opsL_rel {a w e} (m:Models Γ k L H e a w):∀ (xs:List Operand),opsOk xs=true→RelL (Γ.X e H) e w (opsL L xs) (xs.map a.eval)
 | [],_=>trivial
 | x::xs,h=>by
  simp only [opsOk,Bool.and_eq_true] at h
  exact⟨m.op x (opOkB_spec h.1),opsL_rel m xs h.2⟩
theorem run_call {P:Program} {f:FuncId} (hc:callable P f=true) (args:Array Value) (w:World):(callFunc f args).run P w = .ok (.enter f args) w:=by
 unfold callable at hc
 cases hf:P.funcs[f]? with
 | none=>simp [hf] at hc
 | some fn =>
  simp only [hf,Bool.and_eq_true,Bool.not_eq_true'] at hc
  have h1 : fn.name ≠ "runtime.NumGoroutine" := by simpa using hc.1
  have h2:fn.body≠none:=by intro hb;simp [hb] at hc
  simp [callFunc,hf,h1,h2]
theorem run_callOp {P:Program} {f:FuncId} (hc:callable P f=true) (a:Act) (xs:List Operand) (ts:Array TypeId) (dst:Option Tmp) (ty:TypeId) (pos) (after) (guard) (w:World) :
  (execOp a.eval ⟨dst,.call { callee:=.value (.func f),args:=xs.toArray,argTypes:=ts },ty,pos,after,guard⟩).run P w = .ok (.enter f (xs.map a.eval).toArray) w:=by
 simp only [execOp,resolve]
 have:a.eval (.func f) = .func (.func f) #[] #[]:=rfl
 simp [this,Deferred.ofValue,invoke,run_call hc]
theorem FnP.use {dr:Bool} {Γ:Ctx} {τ:List (Nat × TI)} {τok:TabOk Γ.P τ} {f:FuncId} {args:List SV} {R:SV→Prop} (hc:FnP dr Γ.P τ τok f args R) {e:Env} {w:World} {a:Act} (m:Models Γ k L H e a w) (hlow:SV.lowL 0 args=true)
  (vs:List Value) (hr:RelL (Γ.X e H) e w args vs) :
  Calls Γ.P f vs.toArray w (fun en w'=>∃ r v,R r∧en = .returned v∧Beld dr w.heap.size w w'∧r.low 0=true∧Rel (Γ.X e H) e w' r v):=by
 have hO:∀ b,Γ.X e H b→b < w.heap.size:=fun b hb=>hb.elim (fun h=>Nat.lt_of_lt_of_le (m.obound b h).1 m.size) (m.lt b)
 have hX:∀ e' b,Ctx.X ⟨Γ.P,τ,τok,Γ.X e H,w,fun b=>b∈ownedL (e.ren id 0) [],0,0,(e.ren id 0).an,none,noPan,true,dr⟩ e' [] b↔Γ.X e H b:=by
  intro e' b
  unfold Ctx.X
  simp [ownedL]
 refine (hc.2 (Γ.X e H) (e.ren id 0) w vs ⟨fun _=>Iff.rfl,by simp,by simp,by simp [ownedL],by simp [ownedL],rfl,rfl,rfl,fun _=>Nat.le_refl _,Nat.le_refl _,fun _ _ _=>rfl,fun b hb=>⟨hO b hb,by simp [ownedL]⟩,m.tabsAt.sub (by simp [ownedL]),fun j hj=>absurd hj (Nat.not_lt_zero j),fun j hj=>absurd hj (Nat.not_lt_zero j)⟩ ?_).mono ?_
 ·exact RelL.keep (Nat.le_refl _) (fun _ _ _=>rfl) (fun b _ hy=>(hX _ b).1 hy) _ _ (RelL.env _ _ hlow hr)
 ·rintro en w' ⟨k',r,H',e',v,⟨rfl,hlr,hR⟩,rfl,hH,hrel⟩
  refine⟨r,v,hR,rfl,⟨⟨hH.os,hH.tape,hH.output,hH.size,fun b hb=>hH.block b hb (by simp [ownedL])⟩,hH.drawn⟩,hlr,?_⟩
  exact Rel.keep (Nat.le_refl _) (fun _ _ _=>rfl) (fun b _ hy=>(hX _ b).2 hy) _ _ (Rel.env _ _ hlr hrel)
end
section
variable {Γ : Ctx} {k : Nat} {L : Sl} {H : Hp} {K : Next'} {ops : List Oper} {rest : List Oper}
theorem dl_call {f:FuncId} {xs:List Operand} {ts:Array TypeId} {ty:TypeId} {pos:String} {af:Array Edge} {g:Option (Nat × Bool)} {d:Nat} {args:List SV} {R:SV→Prop} (hw:wantedSV ops L g=some true)
  (hc:FnP Γ.dr Γ.P Γ.τ Γ.τok f args R) (ha:opsL L xs=args) (hok:opsOk xs=true) (hlow:SV.lowL 0 args=true) (hd:Nat.blt d Γ.n=true)
  (hk:∀ r,R r→DL Γ ops rest K k ((d,r)::L) H) :
  DL Γ ops (⟨some d,.call { callee:=.value (.func f),args:=xs.toArray,argTypes:=ts },ty,pos,af,g⟩::rest) K k L H:=by
 refine dl_run hw fun e a w m=>?_
 unfold Oper.wp
 rw [run_callOp hc.1]
 rw [Oper.upon_enter]
 refine (hc.use (τ:=Γ.τ) (τok:=Γ.τok) (Γ:=Γ) m hlow _ (ha▸opsL_rel m xs hok)).mono ?_
 rintro en w' ⟨r,v,hR,rfl,hb,hlr,hrel⟩
 exact⟨k,_,H,e,(m.below hb).put (Nat.le_of_ble_eq_true hd) (Rel.keep (Nat.le_refl _) (fun _ _ _=>rfl) (fun _ _ hy=>hy) _ _ hrel),hk r hR⟩
def DQ (Γ:Ctx) (ops:List Oper) (rest:List Oper) (K:Next') (k:Nat) (L:Sl) (H:Hp):Prop :=
 ∀ e a w,Models Γ k L H e a w→wpQuiet Γ.P ops.toArray (fun w'=>Beld Γ.dr w.heap.size w w') (fun a'=>∃ L',Models Γ k L' H e a' w∧K k L' H) rest a
theorem dq_nil (h:K k L H):DQ Γ ops [] K k L H:=fun _ _ _ m=>wpQuiet_nil ⟨L,m,h⟩
theorem dq_ev {d:Nat} {op:Op} {ty:TypeId} {pos:String} {af:Array Edge} {g:Option (Nat × Bool)} {s:SV} (hw:wantedSV ops L g=some true) (h:Ev Γ k L H op ty s) (hd:Nat.blt d Γ.n=true)
  (hk:DQ Γ ops rest K k ((d,s)::L) H):DQ Γ ops (⟨some d,op,ty,pos,af,g⟩::rest) K k L H:=by
 intro e a w m
 refine wpQuiet_step fun K' hK'=>?_
 rw [if_pos (wantedSV_spec m hw)]
 obtain⟨v,h1,h2⟩:=h e a w m
 refine⟨v,fun w' hw'=>?_,hK' _ (hk e _ w (m.put (Nat.le_of_ble_eq_true hd) h2))⟩
 unfold Oper.quietAt
 rw [h1 (some d) pos af g w' hw'.toBelow]
 exact⟨rfl,rfl⟩
theorem dq_skip {op:Op} {ty:TypeId} {pos:String} {af:Array Edge} {g:Option (Nat × Bool)} {d:Nat} (hw:wantedSV ops L g=some false) (hd:Nat.blt d Γ.n=true)
  (h:DQ Γ ops rest K k ((d,.tup [])::L) H):DQ Γ ops (⟨some d,op,ty,pos,af,g⟩::rest) K k L H:=by
 intro e a w m
 refine wpQuiet_step fun K' hK'=>?_
 rw [if_neg (by rw [wantedSV_spec m hw];exact Bool.false_ne_true)]
 exact hK' _ (h e _ w (m.put (s:=.tup []) (Nat.le_of_ble_eq_true hd) ⟨[],rfl,trivial⟩))
theorem models_bool {k:Nat→Prop} {e a w} {t:Nat} {b:Bool} (m:Models Γ k L H e a w) (hb:L.get t = .d (.bool b)) (b':Bool) (hb':b=b'):Models Γ k ((t,.d (.bool b'))::L) H e a w :=
 ⟨m.toHeap,m.defers,m.len,fun t'=>by
  rw [Sl.get_cons]
  split
  ·rename_i h;subst h;rw [← hb',← hb];exact m.slot t
  ·exact m.slot t'⟩
theorem dq_split {t:Nat} {b:Bool} (hb:L.get t = .d (.bool b)) (ht:b=true→DQ Γ ops rest K k ((t,.d (.bool true))::L) H) (hf:b=false→DQ Γ ops rest K k ((t,.d (.bool false))::L) H) :
  DQ Γ ops rest K k L H:=by
 intro e a w m
 cases b with
 | true=>exact ht rfl e a w (models_bool m hb true rfl)
 | false=>exact hf rfl e a w (models_bool m hb false rfl)
def DS (q:Bool) (Γ:Ctx) (ops:List Oper) (rest:List Oper) (K:Next') (k:Nat) (L:Sl) (H:Hp):Prop:=match q with
 | true=>DQ Γ ops rest K k L H
 | false=>DL Γ ops rest K k L H
section
variable {q : Bool}
theorem ds_nil (h:K k L H):DS q Γ ops [] K k L H:=by
 cases q
 ·exact dl_nil h
 ·exact dq_nil h
theorem ds_ev {d:Nat} {op:Op} {ty:TypeId} {pos:String} {af:Array Edge} {g:Option (Nat × Bool)} {s:SV} (h:Ev Γ k L H op ty s) (hw:wantedSV ops L g=some true) (hd:Nat.blt d Γ.n=true)
  (hk:DS q Γ ops rest K k ((d,s)::L) H):DS q Γ ops (⟨some d,op,ty,pos,af,g⟩::rest) K k L H:=by
 cases q
 ·exact dl_ev hw h hd hk
 ·exact dq_ev hw h hd hk
theorem ds_skip {op:Op} {ty:TypeId} {pos:String} {af:Array Edge} {g:Option (Nat × Bool)} {d:Nat} (hw:wantedSV ops L g=some false) (hd:Nat.blt d Γ.n=true)
  (h:DS q Γ ops rest K k ((d,.tup [])::L) H):DS q Γ ops (⟨some d,op,ty,pos,af,g⟩::rest) K k L H:=by
 cases q
 ·exact dl_skip hw hd h
 ·exact dq_skip hw hd h
theorem ds_split {t:Nat} {b:Bool} (hb:L.get t = .d (.bool b)) (ht:b=true→DS q Γ ops rest K k ((t,.d (.bool true))::L) H) (hf:b=false→DS q Γ ops rest K k ((t,.d (.bool false))::L) H) :
  DS q Γ ops rest K k L H:=by
 cases q
 ·exact dl_split hb ht hf
 ·exact dq_split hb ht hf
theorem ds_region {id:Nat} {l:List Oper} {Q:Post} (hn:noDefer l=true) (h:DS false Γ l l (Q .normal) k L H):DW Γ (.region id l.toArray false) Q k L H:=dw_region hn h
theorem ds_call {f:FuncId} {xs:List Operand} {ts:Array TypeId} {ty:TypeId} {pos:String} {af:Array Edge} {g:Option (Nat × Bool)} {d:Nat} {args:List SV} {R:SV→Prop} (hw:wantedSV ops L g=some true)
  (ha:opsL L xs=args) (hc:FnP Γ.dr Γ.P Γ.τ Γ.τok f args R) (hok:opsOk xs=true) (hlow:SV.lowL 0 args=true) (hd:Nat.blt d Γ.n=true)
  (hk:∀ r,R r→DS false Γ ops rest K k ((d,r)::L) H) :
  DS false Γ ops (⟨some d,.call { callee:=.value (.func f),args:=xs.toArray,argTypes:=ts },ty,pos,af,g⟩::rest) K k L H:=dl_call hw hc ha hok hlow hd hk
end
end
theorem fnp_enter' {dr:Bool} {P:Program} {τ:List (Nat × TI)} {τok:TabOk P τ} {f:FuncId} {fn:Func} {c:Code} {args:List SV} {R:SV→Prop} (N:Nat) (hf:P.funcs[f]? = some fn) (hb:fn.body=some c)
  (hN:args.length + (fn.ntmps - args.length)=N) (hcall:callable P f=true)
  (h:∀ (O:Nat→Prop) (w0:World) (E0:Nat→Prop) (β0:Nat→Nat × Value),DW ⟨P,τ,τok,O,w0,E0,N,0,β0,none,noPan,true,dr⟩ c (RetQ τ fn.results.toList fun _ r _=>r.low 0=true∧R r) 0 (enumSl 0 args) []):FnP dr P τ τok f args R:=by
 have h2:=fn_enter (J:=0) (k:=0) (H:=[]) N hf hb hN hcall (R:=fun _ r _=>r.low 0=true∧R r) h
 refine⟨h2.1,fun O e w vs hH hr=>(h2.2 O e w vs hH hr).mono ?_⟩
 rintro en w' ⟨k',r,H',e',v,⟨hl,hR⟩,rfl,hH',hrel⟩
 obtain⟨g1,g2⟩:=hH'.ren id 0 [] trivial rfl rfl rfl rfl rfl
 exact⟨0,r,[],e'.ren id 0,v,⟨rfl,hl,hR⟩,rfl,g1,Rel.keep (Nat.le_refl _) (fun _ _ _=>rfl) (fun b _ hy=>g2 b hy) _ _ (Rel.env _ _ hl hrel)⟩
theorem ds_loop {Γ:Ctx} {k:Nat} {L:Sl} {H:Hp} {Q:Post} {ι:Type} {c:Code} (I:ι→St) (pre:ι→Prop) (μ:ι→Nat) (x0:ι) (p0:pre x0) (h0:Ent Γ k L H (I x0).k (I x0).L (I x0).H)
  (round:∀ x,pre x→DW Γ c (thenD (fun k' L' H'=>∃ y,pre y∧Ent Γ k' L' H' (I y).k (I y).L (I y).H∧μ y < μ x) Q) (I x).k (I x).L (I x).H):DW Γ (.loop c) Q k L H:=by
 refine dw_loop (ι:={ x // pre x }) (fun x=>I x.1) (fun x=>μ x.1) ⟨x0,p0⟩ h0 fun x=>?_
 intro e a w m
 refine wpIn_mono (round x.1 x.2 e a w m) (lift_mono ?_)
 intro ex k' L' H' hq
 cases ex with
 | normal =>
  obtain⟨y,py,hy,hlt⟩:=hq
  exact⟨⟨y,py⟩,hy,hlt⟩
 | _=>exact hq
theorem dw_condP {Γ:Ctx} {k:Nat} {L:Sl} {H:Hp} {Q:Post} {c:Operand} {x y:Code} {p:Prop} {_:Decidable p} (hc:opSV L c = .d (.bool (decide p))) (ht:p→DW Γ x Q k L H) (hf:¬ p→DW Γ y Q k L H):DW Γ (.cond c x y) Q k L H :=
 dw_cond hc (fun h=>ht (of_decide_eq_true h)) (fun h=>hf (of_decide_eq_false h))
theorem dw_condT {Γ:Ctx} {k:Nat} {L:Sl} {H:Hp} {Q:Post} {c:Operand} {x y:Code} (hc:opSV L c = .d (.bool true)) (h:DW Γ x Q k L H):DW Γ (.cond c x y) Q k L H:=dw_cond hc (fun _=>h) (fun h=>by cases h)
theorem dw_condF {Γ:Ctx} {k:Nat} {L:Sl} {H:Hp} {Q:Post} {c:Operand} {x y:Code} (hc:opSV L c = .d (.bool false)) (h:DW Γ y Q k L H):DW Γ (.cond c x y) Q k L H:=dw_cond hc (fun h=>by cases h) (fun _=>h)
section
variable {Γ : Ctx} {k : Nat} {L : Sl} {H : Hp} {Q : Post} {K : Next'}
theorem dw_seq2 {x y:Code} (h:DW Γ x (thenD (DW Γ y Q) Q) k L H):DW Γ (.seq x y) Q k L H:=dw_seq fun _ hK=>by
 intro e a w m
 refine wpIn_mono (h e a w m) (lift_mono ?_)
 intro ex k' L' H' hq
 cases ex with
 | normal=>exact hK _ _ _ hq
 | _=>exact hq
theorem thenD_n (h:K k L H):thenD K Q .normal k L H:=h
theorem thenD_e {id:Nat} (h:Q (.exit id) k L H):thenD K Q (.exit id) k L H:=h
theorem thenD_r (h:Q .ret k L H):thenD K Q .ret k L H:=h
theorem inB_n {id:Nat} (h:Q .normal k L H):inBlockD id Q .normal k L H:=h
theorem inB_r {id:Nat} (h:Q .ret k L H):inBlockD id Q .ret k L H:=h
theorem inB_e {id i:Nat} (hb:Nat.beq i id=true) (h:Q .normal k L H):inBlockD id Q (.exit i) k L H:=by simp only [inBlockD,hb];exact h
theorem inB_x {id i:Nat} (hb:Nat.beq i id=false) (h:Q (.exit i) k L H):inBlockD id Q (.exit i) k L H:=by simp only [inBlockD,hb];exact h
end
section
variable {Γ : Ctx} {k : Nat} {L : Sl} {H : Hp} {Q : Post} {c : Code}
theorem dw_len {t es:Nat} {xs:List (List D)} (h:L.get t = .d (.slice es xs)) (hk:xs.length≤9223372036854775807→DW Γ c Q k L H):DW Γ c Q k L H:=by
 intro e a w m
 have hr:=m.slot t
 rw [h] at hr
 obtain⟨ao,cap,_,h1,h2,_⟩:=hr.slice_inv
 exact hk (by unfold maxLen at h2;omega) e a w m
theorem dw_len_map {α:Type} {t es:Nat} {l:List α} {f:α→List D} (h:L.get t = .d (.slice es (l.map f))) (hk:l.length≤9223372036854775807→DW Γ c Q k L H):DW Γ c Q k L H :=
 dw_len h (by simpa using hk)
end
section
variable {k : Nat} {L : Sl} {H : Hp} {τ : List (Nat × TI)} {rs : List ResultVar}
theorem ret_b {b b':Bool} (hr:resSV L H τ rs=some (.d (.bool b))) (h:b=b'):RetQ τ rs (fun _ r _=>r.low 0=true∧r = .d (.bool b')) .ret k L H:=⟨.inl rfl,_,hr,rfl,by rw [h]⟩
theorem ret_i {i:IntKind} {n n':Int} (hr:resSV L H τ rs=some (.d (.int i n))) (h:n=n'):RetQ τ rs (fun _ r _=>r.low 0=true∧r = .d (.int i n')) .ret k L H:=⟨.inl rfl,_,hr,rfl,by rw [h]⟩
theorem ret_2 {x y x' y':D} (hr:resSV L H τ rs=some (.tup [.d x,.d y])) (h:x=x'∧y=y'):RetQ τ rs (fun _ r _=>r.low 0=true∧r = .tup [.d x',.d y']) .ret k L H:=⟨.inl rfl,_,hr,rfl,by rw [h.1,h.2]⟩
theorem ret_3 {x y z x' y' z':D} (hr:resSV L H τ rs=some (.tup [.d x,.d y,.d z])) (h:x=x'∧y=y'∧z=z'):RetQ τ rs (fun _ r _=>r.low 0=true∧r = .tup [.d x',.d y',.d z']) .ret k L H:=⟨.inl rfl,_,hr,rfl,by rw [h.1,h.2.1,h.2.2]⟩
end
end Go.Proofs.YtapciiffpnociabGreatDoor
namespace Go.Proofs.YtapciiffpnociabGreatDoor
open Go Go.RowKit
section
variable {Γ : Ctx} {k : Nat → Prop} {L : Sl} {H : Hp} {K : Next'} {ops : List Oper} {rest : List Oper} {a : Act} {w : World} {e : Env} {t t' ty : TypeId} {x y : Operand}
mutual
theorem Rel.ext {X} {e e':Env} {w} (hk:∀ i,e.dom i→e'.dom i) (he:∀ i,e.dom i→e'.β i=e.β i∧e'.η i=e.η i):∀ (s:SV) (v:Value),Rel X e w s v→Rel X e' w s v
 | .junk,_,_=>trivial
 | .d _,_,h=>h
 | .nils,_,h=>h
 | .pd _,_,h=>h
 | .loc i _,_,h=>⟨hk i h.1,by rw [(he i h.1).1];exact h.2⟩
 | .mp i,_,h=>⟨hk i h.1,by rw [(he i h.1).1];exact h.2⟩
 | .md _ _,_,h=>h
 | .sl i _ _ _,_,h=>⟨hk i h.1,by rw [(he i h.1).1];exact h.2⟩
 | .row i,_,h=>⟨hk i h.1,by rw [(he i h.1).2];exact h.2⟩
 | .rsl i _ _ _,_,h=>⟨hk i h.1,by rw [(he i h.1).2];exact h.2⟩
 | .rg _ _ _,_,h=>h
 | .prow i _ _ _,_,h=>⟨hk i h.1,by rw [(he i h.1).2];exact h.2⟩
 | .fn _ caps,_,⟨vs,h1,h2⟩=>⟨vs,h1,RelL.ext hk he caps vs h2⟩
 | .agg ss,_,⟨vs,h1,h2⟩=>⟨vs,h1,RelL.ext hk he ss vs h2⟩
 | .tup ss,_,⟨vs,h1,h2⟩=>⟨vs,h1,RelL.ext hk he ss vs h2⟩
 | .val _,_,h=>h
theorem RelL.ext {X} {e e':Env} {w} (hk:∀ i,e.dom i→e'.dom i) (he:∀ i,e.dom i→e'.β i=e.β i∧e'.η i=e.η i):∀ (ss:List SV) (vs:List Value),RelL X e w ss vs→RelL X e' w ss vs
 | [],[],_=>trivial
 | [],_::_,h=>h.elim
 | _::_,[],h=>h.elim
 | s::ss,v::vs,⟨h1,h2⟩=>⟨Rel.ext hk he s v h1,RelL.ext hk he ss vs h2⟩
end
theorem HRel.ext {X} {e e':Env} {w} (hk:∀ i,e.dom i→e'.dom i) (he:∀ i,e.dom i→e'.β i=e.β i∧e'.η i=e.η i) (p:Nat × HB) (hp:e.dom p.1) (h:HRel X e w p):HRel X e' w p:=by
 obtain⟨i,b⟩:=p
 cases b with
 | blk ty cs =>
  obtain⟨vs,h1,h2,h3⟩:=h
  exact⟨vs,by rw [(he i hp).1];exact h1,RelL.ext hk he _ _ h2,h3⟩
 | row ty es xs =>
  obtain⟨vs,h1,h2⟩:=h
  exact⟨vs,by rw [(he i hp).2];exact h1,h2⟩
 | map kd kvs=>show MapIs w (e'.β i) kd kvs;rw [(he i hp).1];exact h
theorem owned_ext {e e':Env} (he:∀ i,e.dom i→e'.β i=e.β i∧e'.η i=e.η i) (p:Nat × HB) (hp:e.dom p.1):HB.owned e' p=HB.owned e p:=by
 obtain⟨i,b⟩:=p
 cases b with
 | blk ty cs=>simp [HB.owned,(he i hp).1]
 | row ty es xs=>simp [HB.owned,(he i hp).2]
 | map kd kvs=>simp [HB.owned,(he i hp).1]
theorem ownedL_ext {e e':Env} (he:∀ i,e.dom i→e'.β i=e.β i∧e'.η i=e.η i):∀ (H:Hp),(∀ p∈H,e.dom p.1)→ownedL e' H=ownedL e H
 | [],_=>rfl
 | p::H,h=>by
  have ih:=ownedL_ext he H fun q hq=>h q (List.mem_cons_of_mem _ hq)
  unfold ownedL at ih ⊢
  rw [List.filterMap_cons,List.filterMap_cons,owned_ext he p (h p (List.mem_cons_self ..)),ih]
def Env.bind (e:Env) (x b:Nat):Env:=⟨fun i=>if i=x then b else e.β i,e.η,fun i=>e.dom i∨i=x⟩
def Env.bindRow (e:Env) (x:Nat) (v:Value):Env:=⟨e.β,fun i=>if i=x then v else e.η i,fun i=>e.dom i∨i=x⟩
def with1 (k:Nat→Prop) (x:Nat):Nat→Prop:=fun i=>k i∨i=x
theorem with1_lo (k i:Nat):with1 (lo k) k i↔lo (k + 1) i:=by unfold with1 lo;omega
theorem Env.bind_ext (e:Env) (x b:Nat) (hx:¬ e.dom x):∀ i,e.dom i→(e.bind x b).β i=e.β i∧(e.bind x b).η i=e.η i:=fun i hi=>⟨if_neg (fun h:i=x=>hx (h▸hi)),rfl⟩
theorem Env.bindRow_ext (e:Env) (x:Nat) (v:Value) (hx:¬ e.dom x):∀ i,e.dom i→(e.bindRow x v).β i=e.β i∧(e.bindRow x v).η i=e.η i:=fun i hi=>⟨rfl,if_neg (fun h:i=x=>hx (h▸hi))⟩
theorem Heap.cast {k k':Nat→Prop} (h:Heap Γ k H e w) (hk:∀ i,k i↔k' i):Heap Γ k' H e w :=
 ⟨fun i=>(h.top i).trans (hk i),h.heap,h.ids,h.nodup,h.mine,h.os,h.tape,h.output,h.drawn,h.size,h.block,h.obound,h.tabs,fun j hj=>(hk j).1 (h.jle j hj),h.anchor⟩
theorem Models.cast {k k':Nat→Prop} (m:Models Γ k L H e a w) (hk:∀ i,k i↔k' i):Models Γ k' L H e a w:=⟨m.toHeap.cast hk,m.defers,m.len,m.slot⟩
theorem Models.new (m:Models Γ k L H e a w) {x:Nat} (hx:¬ k x) {e':Env} {w':World} {hb:HB} (hek:∀ i,e'.dom i↔with1 k x i) (he:∀ i,e.dom i→e'.β i=e.β i∧e'.η i=e.η i) (hw:Beld Γ.dr w.heap.size w w')
  (ho:∀ b,HB.owned e' (x,hb)=some b→w.heap.size≤b)
  (hr0:(∀ b,b < w.heap.size→Γ.X e' ((x,hb)::H) b→Γ.X e H b)→HRel (Γ.X e' ((x,hb)::H)) e' w' (x,hb)) :
  Models Γ (with1 k x) L ((x,hb)::H) e' a w':=by
 have hlt:∀ p∈H,e.dom p.1:=fun p hp=>(m.heap p hp).1
 have hk:∀ i,e.dom i→e'.dom i:=fun i hi=>(hek i).2 (.inl ((m.top i).1 hi))
 have hol:ownedL e' H=ownedL e H:=ownedL_ext he H hlt
 have hcons:∀ b,b∈ownedL e' ((x,hb)::H)→HB.owned e' (x,hb)=some b∨b∈ownedL e H:=by
  intro b hbm
  unfold ownedL at hbm
  rw [List.filterMap_cons] at hbm
  split at hbm
  ·exact .inr (hol▸hbm)
  ·rename_i c hc
   rcases List.mem_cons.1 hbm with rfl|h
   ·exact .inl hc
   ·exact .inr (hol▸h)
 have hX:∀ b,b < w.heap.size→Γ.X e' ((x,hb)::H) b→Γ.X e H b:=by
  intro b hbl hx
  rcases hx with hx|hx
  ·exact .inl hx
  ·rcases hcons b hx with h|h
   ·have:=ho b h;omega
   ·exact .inr h
 have hr:=hr0 hX
 have hkeep:∀ b,b < w.heap.size→¬ Γ.X e H b→w'.heap[b]? = w.heap[b]?:=fun b hbl _=>hw.block b hbl
 refine⟨⟨hek,fun p hp=>?_,?_,?_,fun b hbm=>?_,hw.os.trans m.os,hw.tape.trans m.tape,hw.output.trans m.output,fun hdr=>Nat.le_trans (m.drawn hdr) (hw.drawn hdr),Nat.le_trans m.size hw.size,fun b h1 h2=>(hw.block b (Nat.lt_of_lt_of_le h1 m.size)).trans (m.block b h1 h2),m.obound,m.tabs,fun j hj=>.inl (m.jle j hj),fun j hj=>(Env.an_ext (he j ((m.top j).2 (m.jle j hj)))).trans (m.anchor j hj)⟩,m.defers.below hw.toBelow,m.len,fun t=>?_⟩
 ·rcases List.mem_cons.1 hp with rfl|hp
  ·exact⟨(hek x).2 (.inr rfl),hr⟩
  ·refine⟨hk _ (hlt p hp),?_⟩
   have h1:=HRel.ext hk he p (hlt p hp) (m.heap p hp).2
   refine HRel.keep hw.size hkeep hX p (fun b hob=>?_) h1
   rw [owned_ext he p (hlt p hp)] at hob
   exact hw.block b (m.lt b (List.mem_filterMap.2 ⟨p,hp,hob⟩))
 ·refine List.nodup_cons.2 ⟨fun hm=>?_,m.ids⟩
  obtain⟨p,hp,hpk⟩:=List.mem_map.1 hm
  have:=(m.top _).1 (hlt p hp)
  simp at hpk
  exact hx (hpk▸this)
 ·unfold ownedL
  rw [List.filterMap_cons]
  split
  ·exact (show (ownedL e' H).Nodup from hol▸m.nodup)
  ·rename_i c hc
   refine List.nodup_cons.2 ⟨fun hm=>?_,(show (ownedL e' H).Nodup from hol▸m.nodup)⟩
   have h1:=ho c hc
   have h2:=m.lt c (show c∈ownedL e H from hol▸hm)
   omega
 ·rcases hcons b hbm with h|h
  ·have h1:=ho b h
   exact⟨.inr (Nat.le_trans m.size h1),fun hO=>by have:=(m.obound b hO).1;have:=m.size;omega⟩
  ·exact m.mine b h
 ·exact Rel.keep hw.size hkeep hX _ _ (Rel.ext hk he _ _ (m.slot t))
def SV.cells:SV→List SV
 | .agg ss=>ss
 | s=>[s]
def SV.isCell:SV→Bool
 | .d _|.nils|.pd _|.loc _ _|.mp _|.md _ _|.prow _ _ _ _|.fn _ _|.row _|.sl _ _ _ _|.rsl _ _ _ _|.rg _ _ _=>true
 | .val u=>u.oneCell'
 | _=>false
def allCell:List SV→Bool
 | []=>true
 | s::ss=>s.isCell && allCell ss
def SV.isVar:SV→Bool
 | .agg ss=>allCell ss
 | s=>s.isCell
theorem RepC.one {X w v x} (h:RepC X w v x):v.oneCell' = true∧v.cells = #[v]:=by cases h <;> exact⟨rfl,rfl⟩
theorem ShpC.one {X w v x} (h:ShpC X w v x):v.oneCell' = true∧v.cells = #[v]:=by cases h <;> exact⟨rfl,rfl⟩
theorem RgC.one {X:Nat→Prop} {w:World} {B q:Nat} {v:Value} {x:D} (h:RgC X w B q v x):v.oneCell' = true∧v.cells = #[v]:=by
 have h2:=h.2
 split at h2
 ·exact h2.one
 ·exact RepC.one h2
theorem oneCell_cells {v:Value} (h:v.oneCell' = true):v.cells = #[v]:=by
 cases v <;> first|rfl|(simp [Value.oneCell'] at h)
theorem isCell_spec {X e w} {s:SV} {v:Value} (hs:s.isCell=true) (h:Rel X e w s v):v.oneCell' = true∧v.cells = #[v]:=by
 cases s with
 | d x=>exact RepC.one h
 | nils=>cases h;exact⟨rfl,rfl⟩
 | pd ds=>obtain⟨b,off,rfl,_⟩:=h;exact⟨rfl,rfl⟩
 | loc i o=>obtain⟨_,rfl⟩:=h;exact⟨rfl,rfl⟩
 | mp i=>obtain⟨_,rfl⟩:=h;exact⟨rfl,rfl⟩
 | md kd kvs=>obtain⟨_,rfl,_⟩:=h;exact⟨rfl,rfl⟩
 | prow i j es o=>obtain⟨_,g,n,cap,_,rfl⟩:=h;exact⟨rfl,rfl⟩
 | fn f caps=>obtain⟨vs,rfl,_⟩:=h;exact⟨rfl,rfl⟩
 | row i=>exact⟨h.2.2,oneCell_cells h.2.2⟩
 | rsl i es k n=>exact⟨h.2.1,oneCell_cells h.2.1⟩
 | rg B q x=>exact RgC.one h
 | sl i o n c=>obtain⟨_,_,_,_,rfl,_⟩:=h;exact⟨rfl,rfl⟩
 | val u=>have h:v=u:=h;subst h;exact⟨hs,oneCell_cells hs⟩
 | _=>simp [SV.isCell] at hs
theorem allCell_spec {X e w}:∀ {ss:List SV} {vs:List Value},allCell ss=true→RelL X e w ss vs→∀ v∈vs,v.oneCell' = true
 | [],[],_,_,_,h=>by simp at h
 | [],_::_,_,h,_,_=>h.elim
 | _::_,[],_,h,_,_=>h.elim
 | s::ss,v::vs,hs,⟨h1,h2⟩,u,hu=>by
  simp only [allCell,Bool.and_eq_true] at hs
  rcases List.mem_cons.1 hu with rfl|hu
  ·exact (isCell_spec hs.1 h1).1
  ·exact allCell_spec hs.2 h2 u hu
theorem cells_spec {X e w} {s:SV} {v:Value} (hs:s.isVar=true) (h:Rel X e w s v):RelL X e w s.cells v.cells.toList∧∀ u∈v.cells.toList,u.oneCell' = true:=by
 cases s with
 | agg ss =>
  obtain⟨vs,rfl,hr⟩:=h
  exact⟨by simpa [SV.cells,Value.cells] using hr,by simpa [Value.cells] using allCell_spec hs hr⟩
 | _ =>
  have h1:=isCell_spec (by simpa [SV.isVar] using hs) h
  rw [h1.2]
  exact⟨⟨h,trivial⟩,by simpa using h1.1⟩
theorem below_alloc (dr:Bool) (w:World) (o:Obj):Beld dr w.heap.size w (w.alloc o):=⟨(Below.refl _ _).alloc (Nat.le_refl _) o,fun _=>Nat.le_refl _⟩
theorem Models.alloc (m:Models Γ k L H e a w) {x:Nat} (hx:¬ k x) {cs:List SV} {vs:List Value} (te:TypeId) (hr:RelL (Γ.X e H) e w cs vs) (h1:∀ v∈vs,v.oneCell' = true) :
  Models Γ (with1 k x) L ((x,.blk te cs)::H) (e.bind x w.heap.size) a (w.alloc (.cells vs.toArray te)):=by
 have hxe:¬ e.dom x:=fun h=>hx ((m.top x).1 h)
 have hβ:(e.bind x w.heap.size).β x=w.heap.size:=if_pos rfl
 refine m.new hx (fun i=>or_congr (m.top i) Iff.rfl) (e.bind_ext _ _ hxe) (below_alloc Γ.dr _ _) (fun b hb=>?_) ?_
 ·simp only [HB.owned,hβ,Option.some.injEq] at hb;omega
 ·intro hX
  refine⟨vs,by rw [hβ];exact heap_alloc_new w _,?_,h1⟩
  exact RelL.keep (below_alloc Γ.dr _ _).size (fun b hb _=>(below_alloc Γ.dr _ _).block b hb) (fun b hb hx=>hX b hb hx) _ _ (RelL.ext (e:=e) (fun i hi=>Or.inl hi) (e.bind_ext _ _ hxe) _ _ hr)
theorem lo_not (k:Nat):¬ lo k k:=Nat.lt_irrefl k
def zeroSV (τ:List (Nat × TI)) (t:TypeId):List SV:=(tiGet τ t).zero.map cSV
def zeroOk:List Value→Bool
 | []=>true
 | v::vs=>cOkB v && (v.oneCell' && zeroOk vs)
theorem zeroOk_spec {X e w}:∀ (vs:List Value),zeroOk vs=true→RelL X e w (vs.map cSV) vs∧∀ v∈vs,v.oneCell' = true
 | [],_=>⟨trivial,by simp⟩
 | v::vs,h=>by
  simp only [zeroOk,Bool.and_eq_true] at h
  obtain⟨h1,h2⟩:=zeroOk_spec (X:=X) (e:=e) (w:=w) vs h.2.2
  refine⟨⟨cSV_rel v (opOkB_spec (x:=.const v) h.1),h1⟩,fun u hu=>?_⟩
  rcases List.mem_cons.1 hu with rfl|hu
  ·exact h.2.1
  ·exact h2 u hu
theorem op_alloc {d x:Nat} {te ty:TypeId} {pos:String} {af:Array Edge} {g:Option (Nat × Bool)} {cs:List SV} (hx:¬ k x) (hkn:(Γ.sh te).known=true) (hz:zeroOk (tiGet Γ.τ te).zero=true) (hcs:zeroSV Γ.τ te=cs) (hd:Nat.blt d Γ.n=true) :
  OpOk Γ ⟨some d,.alloc te,ty,pos,af,g⟩ k L H (with1 k x) ((d,.loc x 0)::L) ((x,.blk te cs)::H):=by
 intro e a w Q m
 obtain⟨inf,z,hi,hzz,hs,hb,hzc⟩:=Ctx.info (Sh.known_ne hkn)
 have hrun:(execOp a.eval ⟨some d,.alloc te,ty,pos,af,g⟩).run Γ.P w = .ok (.value (.pointer (some ⟨w.heap.size,0,none⟩))) (w.alloc (.cells z.cells te)):=by
  simp [execOp,Instr.alloc,zeroValue,typeInfo,hi,hzz,newVar,newRow]
 unfold Oper.wp
 rw [hrun]
 obtain⟨g1,g2⟩:=zeroOk_spec (X:=Γ.X e H) (e:=e) (w:=w) _ hz
 have m2:=m.alloc hx te g1 g2
 rw [← hzc] at m2
 subst hcs
 unfold zeroSV
 rw [← hzc]
 refine⟨_,m2.put (s:=.loc x 0) (v:=.pointer (some ⟨w.heap.size,0,none⟩)) (Nat.le_of_ble_eq_true hd) ⟨.inr rfl,?_⟩⟩
 show _=Value.pointer (some ⟨(if x=x then w.heap.size else e.β x),0,none⟩);rw [if_pos rfl]
theorem op_box {d z:Nat} {te ty:TypeId} {pos:String} {af:Array Edge} {g:Option (Nat × Bool)} {x:Operand} {s:SV} (hz:¬ k z) (hx:opSV L x=s) (hxo:opOkB x=true) (hv:s.isVar=true) (hd:Nat.blt d Γ.n=true) :
  OpOk Γ ⟨some d,.box te x,ty,pos,af,g⟩ k L H (with1 k z) ((d,.loc z 0)::L) ((z,.blk te s.cells)::H):=by
 intro e a w Q m
 have hrun:(execOp a.eval ⟨some d,.box te x,ty,pos,af,g⟩).run Γ.P w = .ok (.value (.pointer (some ⟨w.heap.size,0,none⟩))) (w.alloc (.cells (a.eval x).cells te)):=by
  simp [execOp,Instr.box,newVar,newRow]
 unfold Oper.wp
 rw [hrun]
 have hr:=m.op x (opOkB_spec hxo)
 rw [hx] at hr
 obtain⟨g1,g2⟩:=cells_spec hv hr
 have m2:=m.alloc hz te g1 g2
 refine⟨_,m2.put (s:=.loc z 0) (v:=.pointer (some ⟨w.heap.size,0,none⟩)) (Nat.le_of_ble_eq_true hd) ⟨.inr rfl,?_⟩⟩
 show _=Value.pointer (some ⟨(if z=z then w.heap.size else e.β z),0,none⟩);rw [if_pos rfl]
theorem OpOk.cast {o:Oper} {k1 k2:Nat→Prop} {L':Sl} {H':Hp} (h:OpOk Γ o k L H k1 L' H') (hk:∀ i,k1 i↔k2 i):OpOk Γ o k L H k2 L' H':=by
 intro e a w Q m
 refine Oper.wp_mono ?_ (h e a w Q m)
 rintro a' w' ⟨e',m'⟩
 exact⟨e',m'.cast hk⟩
end
section
variable {Γ : Ctx} {k : Nat} {L : Sl} {H : Hp} {K : Next'} {ops : List Oper} {rest : List Oper} {a : Act} {w : World} {e : Env} {t t' ty : TypeId} {x y : Operand}
end
end Go.Proofs.YtapciiffpnociabGreatDoor
