/- Several texts in one: RuGq Small RelT RelG RelH RuX RuY RuTa. Condition: none. -/
import Derived.Test.YtapciiffpnociaaGreatP22
import Derived.Test.YtapciiffpnociaaGreatP21
import Derived.Test.YtapciiffpnociaaGreatP10
import Derived.Test.YtapciiffpnociaaGreatP12
import Derived.Test.YtapciiffpnociaaGreatP11
namespace Go.Proofs.YtapciiffpnociaaGreat
open Go Go.RowKit
theorem f7 {a b:Nat} (h:a≠b):Nat.beq a b=false:=by
 cases hb:Nat.beq a b with
 | true=>exact absurd (Nat.eq_of_beq_eq_true hb) h
 | false=>rfl
def gHp:Nat→List Gr→Hp
 | _,[]=>[]
 | j,g::gs=>(2 * j + 100,.blk 226 [.d (.slice 1 (g.1.map bi)),.row (2 * j + 101)])::(2 * j + 101,.row 3 1 (g.2.map bi))::gHp (j + 1) gs
def jb (j n:Nat):List SV:=(List.range n).map fun i=>.loc (2 * (j + i) + 100) 0
theorem gHp_blk:∀ (gs:List Gr) (j i:Nat) (h:i < gs.length),Hp.get (gHp j gs) (2 * (j + i) + 100)=some (.blk 226 [.d (.slice 1 ((gs[i]'h).1.map bi)),.row (2 * (j + i) + 101)])
 | g::gs,j,i,h=>by
  cases i with
  | zero =>
   simp only [gHp,Hp.get,Nat.add_zero,List.getElem_cons_zero]
   rw [show Nat.beq (2 * j + 100) (2 * j + 100)=true from Nat.beq_refl _]
  | succ i =>
   simp only [gHp,Hp.get,List.getElem_cons_succ]
   rw [f7 (by omega:2 * j + 100≠2 * (j + (i + 1)) + 100),f7 (by omega:2 * j + 101≠2 * (j + (i + 1)) + 100)]
   simp only
   rw [show 2 * (j + (i + 1)) + 100=2 * ((j + 1) + i) + 100 by omega,show 2 * (j + (i + 1)) + 101=2 * ((j + 1) + i) + 101 by omega]
   exact gHp_blk gs (j + 1) i (by simpa using h)
theorem gHp_row:∀ (gs:List Gr) (j i:Nat) (h:i < gs.length),Hp.get (gHp j gs) (2 * (j + i) + 101)=some (.row 3 1 ((gs[i]'h).2.map bi))
 | g::gs,j,i,h=>by
  cases i with
  | zero =>
   simp only [gHp,Hp.get,Nat.add_zero,List.getElem_cons_zero]
   rw [f7 (by omega:2 * j + 100≠2 * j + 101),show Nat.beq (2 * j + 101) (2 * j + 101)=true from Nat.beq_refl _]
  | succ i =>
   simp only [gHp,Hp.get,List.getElem_cons_succ]
   rw [f7 (by omega:2 * j + 100≠2 * (j + (i + 1)) + 101),f7 (by omega:2 * j + 101≠2 * (j + (i + 1)) + 101)]
   simp only
   rw [show 2 * (j + (i + 1)) + 101=2 * ((j + 1) + i) + 101 by omega]
   exact gHp_row gs (j + 1) i (by simpa using h)
theorem gHp_mem:∀ (gs:List Gr) (j:Nat) (p:Nat × HB),p∈gHp j gs→∃ i,∃ h:i < gs.length,p=(2 * (j + i) + 100,.blk 226 [.d (.slice 1 ((gs[i]'h).1.map bi)),.row (2 * (j + i) + 101)])∨p=(2 * (j + i) + 101,.row 3 1 ((gs[i]'h).2.map bi))
 | [],_,_,h=>by simp [gHp] at h
 | g::gs,j,p,h=>by
  simp only [gHp,List.mem_cons] at h
  rcases h with rfl|rfl|h
  ·exact⟨0,by simp,.inl rfl⟩
  ·exact⟨0,by simp,.inr rfl⟩
  ·obtain⟨i,hi,h⟩:=gHp_mem gs (j + 1) p h
   refine⟨i + 1,by simpa using hi,?_⟩
   rw [show j + (i + 1)=j + 1 + i by omega]
   simpa using h
theorem gHp_nodup:∀ (gs:List Gr) (j:Nat),((gHp j gs).map (·.1)).Nodup
 | [],_=>by simp [gHp]
 | g::gs,j=>by
  simp only [gHp,List.map_cons,List.nodup_cons,List.mem_cons,not_or]
  refine⟨⟨by omega,fun h=>?_⟩,fun h=>?_,gHp_nodup gs (j + 1)⟩
  ·obtain⟨p,hp,he⟩:=List.mem_map.1 h
   obtain⟨i,hi,h|h⟩:=gHp_mem gs (j + 1) p hp <;> subst h <;> simp only at he <;> omega
  ·obtain⟨p,hp,he⟩:=List.mem_map.1 h
   obtain⟨i,hi,h|h⟩:=gHp_mem gs (j + 1) p hp <;> subst h <;> simp only at he <;> omega
theorem gHp_ge {gs:List Gr} {j:Nat} {p:Nat × HB} (h:p∈gHp j gs):2 * j + 100≤p.1∧p.1 < 2 * (j + gs.length) + 100:=by
 obtain⟨i,hi,h|h⟩:=gHp_mem gs j p h <;> subst h <;> simp only <;> omega
theorem cw {l:List Nat} (h:l.Nodup):bm l=true:=by
 induction l with
 | nil=>rfl
 | cons x l ih =>
  obtain⟨h1,h2⟩:=List.nodup_cons.1 h
  have hn:∀ (r:List Nat),x ∉ r→notIn x r=true:=by
   intro r
   induction r with
   | nil=>intro _;rfl
   | cons y r ih2 =>
    intro hx
    rw [List.mem_cons,not_or] at hx
    simp only [notIn,Bool.and_eq_true,Bool.not_eq_true']
    exact⟨f7 hx.1,ih2 hx.2⟩
  simp only [bm,Bool.and_eq_true]
  exact⟨hn l h1,ih h2⟩
theorem gHp_low {k:Nat}:∀ (gs:List Gr) (j:Nat),2 * (j + gs.length) + 100≤k→Hp.low k (gHp j gs)=true
 | [],_,_=>rfl
 | g::gs,j,h=>by
  rw [List.length_cons] at h
  simp only [gHp,Hp.low,Bool.and_eq_true]
  refine⟨Nat.ble_eq_true_of_le (by omega),?_,Nat.ble_eq_true_of_le (by omega),rfl,gHp_low gs (j + 1) (by omega)⟩
  show SV.lowL k _=true
  simp only [SV.lowL,SV.low,Bool.and_eq_true,Bool.true_and]
  exact⟨Nat.ble_eq_true_of_le (by omega),trivial⟩
def gsT (r:Rul) (ways:List (List Int)) (i:Nat):List Gr:=groupsL ((ways.take i).map (pW r))
def slT (gs:List Gr) (cap:Nat):SV:=match gs with
 | []=>.nils
 | g::gs=>.sl 2 0 (g::gs).length cap
def stT (r:Rul) (gs:List Gr) (cap:Nat):Hp:=match gs with
 | []=>[(0,.blk 77 [.d (.int .i64 r.pred),.d (.slice 2 (r.terms.map bw)),.d (.int .i64 r.fold),.d (.slice 4 (r.body.map bt)),.d (.int .i64 r.vars)]),(1,.blk 3 [.d (.int .i64 ((r.terms.length - 1:Nat):Int))])]
 | g::gs=>(0,.blk 77 [.d (.int .i64 r.pred),.d (.slice 2 (r.terms.map bw)),.d (.int .i64 r.fold),.d (.slice 4 (r.body.map bt)),.d (.int .i64 r.vars)])::(1,.blk 3 [.d (.int .i64 ((r.terms.length - 1:Nat):Int))]) ::
  (2,.blk 224 (jb 0 (g::gs).length++List.replicate (cap - (g::gs).length) .junk))::gHp 0 (g::gs)
theorem addG_len (gs:List Gr) (w:List Int × Int):(addG gs w).length≤gs.length + 1:=by
 unfold addG
 split
 ·rw [List.length_set];omega
 ·simp
theorem foldG_len:∀ (ws:List (List Int × Int)) (gs:List Gr),(ws.foldl addG gs).length≤gs.length + ws.length
 | [],_=>by simp
 | w::ws,gs=>by
  rw [List.foldl_cons]
  have h1:=foldG_len ws (addG gs w)
  have h2:=addG_len gs w
  rw [List.length_cons];omega
theorem groupsL_len (r:Rul) (ways:List (List Int)) {i:Nat}:(gsT r ways i).length≤i:=by
 have h:=foldG_len ((ways.take i).map (pW r)) []
 rw [List.length_map,List.length_take] at h
 unfold gsT groupsL
 simp only [List.length_nil] at h
 omega
theorem renL_junk (ρ:Nat→Nat):∀ n,SV.renL ρ (List.replicate n .junk)=List.replicate n .junk
 | 0=>rfl
 | n + 1=>by rw [List.replicate_succ];simp only [SV.renL,SV.ren,renL_junk ρ n]
section
variable {Γ : Ctx} {k : Nat} {L : Sl} {H : Hp} {a : Act} {w : World} {e : Env}
theorem lend_pd (m:Models Γ k L H e a w) {id:Nat} {ds:List D} (hb:BlkOk (fun _=>True) H id ds) {X:Nat→Prop} {v:Value} (hr:Rel X e w (.loc id 0) v):Rel Γ.O e w (.pd ds) v :=
 ptr_pd (ptr_rep m (X':=Γ.O) (fun _ ho=>.inl ho) (fun p hp _ b hb ho=>(m.mine b (List.mem_filterMap.2 ⟨p,hp,hb⟩)).2 ho) hb hr.2)
theorem lend_fn2 (m:Models Γ k L H e a w) {t f i j:Nat} {ds1 ds2:List D} (hy:L.get t = .fn f [.loc i 0,.loc j 0]) (h1:BlkOk (fun _=>True) H i ds1) (h2:BlkOk (fun _=>True) H j ds2):Rel Γ.O e w (.fn f [.pd ds1,.pd ds2]) (a.eval (.tmp t)):=by
 have hs:=m.slot t
 rw [hy] at hs
 obtain⟨vs,h3,h4⟩:=hs
 refine⟨vs,h3,?_⟩
 match vs,h4 with
 | [u,v],⟨q1,q2,_⟩=>exact⟨lend_pd m h1 q1,lend_pd m h2 q2,trivial⟩
theorem lend_sl (m:Models Γ k L H e a w) {t i n cap:Nat} {te:TypeId} {cs:List SV} {dss:List (List D)} (hx:L.get t = .sl i 0 n cap) (hH:Hp.get H i=some (.blk te cs)) (hn:dss.length=n)
  (hc:∀ j (h:j < dss.length),∃ id,cs[j]? = some (.loc id 0)∧BlkOk (fun _=>True) H id dss[j]):Rel Γ.O e w (.d (.slice 1 (dss.map fun ds=>[.ptr ds]))) (a.eval (.tmp t)):=by
 have hs:=m.slot t
 rw [hx] at hs
 exact ptrs_rep m (X':=Γ.O) (S:=fun _=>True) (fun _ ho=>.inl ho) (fun p hp _ b hb ho=>(m.mine b (List.mem_filterMap.2 ⟨p,hp,hb⟩)).2 ho) trivial hH hn hc hs
theorem lend_nil (m:Models Γ k L H e a w) {t es:Nat} (hx:L.get t = .nils):Rel Γ.O e w (.d (.slice es [])) (a.eval (.tmp t)):=by
 have hs:=m.slot t
 rw [hx] at hs
 rw [show a.eval (.tmp t) = .slice none 0 0 from hs]
 exact .nil
theorem blk1 {S:Nat→Prop} {H:Hp} {id:Nat} {ty:TypeId} {d:D} (hS:S id) (h:Hp.get H id=some (.blk ty [.d d])):BlkOk S H id [d] :=
 ⟨hS,ty,_,h,fun j hj=>by
  have:j=0:=by simpa using hj
  subst this
  exact⟨.d d,rfl,.inl rfl⟩⟩
end
theorem i4:∀ {pre H:Hp} {t:Nat},(∀ p∈pre,p.1≠t)→Hp.get (pre++H) t=Hp.get H t
 | [],_,_,_=>rfl
 | (d,s)::pre,H,t,h=>by
  rw [List.cons_append]
  simp only [Hp.get]
  rw [f7 (h (d,s) (List.mem_cons_self ..))]
  exact i4 fun p hp=>h p (List.mem_cons_of_mem _ hp)
theorem grpBlk {pre:Hp} {gs:List Gr} {j:Nat} (hj:j < gs.length) (hp:∀ p∈pre,p.1 < 100∨5000≤p.1) (hl:gs.length≤2000) :
  BlkOk (fun _=>True) (pre++gHp 0 gs) (2 * (0 + j) + 100) [.slice 1 ((gs[j]'hj).1.map bi),.slice 1 ((gs[j]'hj).2.map bi)]:=by
 refine⟨trivial,_,_,(i4 fun p hpp=>?_).trans (gHp_blk gs 0 j hj),fun i hi=>?_⟩
 ·have:=hp p hpp;omega
 ·match i,hi with
  | 0,_=>exact⟨_,rfl,.inl rfl⟩
  | 1,_=>exact⟨_,rfl,.inr (.inl ⟨_,_,_,_,rfl,trivial,(i4 fun p hpp=>by have:=hp p hpp;omega).trans (gHp_row gs 0 j hj),rfl⟩)⟩
theorem gLoc_get {n j:Nat} (h:j < n) (t:List SV):(jb 0 n++t)[j]? = some (.loc (2 * (0 + j) + 100) 0):=by
 unfold jb
 rw [List.getElem?_append_left (by simpa using h),List.getElem?_map,List.getElem?_range h];rfl
def dsG (g:Gr):List D:=[.slice 1 (g.1.map bi),.slice 1 (g.2.map bi)]
theorem KnowsH_of {ρ:Nat→Nat} {H:Hp}:∀ {H':Hp},(∀ p∈H',Hp.get H (ρ p.1)=some (p.2.ren ρ))→KnowsH ρ H H'
 | [],_=>trivial
 | (_,_)::_,h=>⟨h _ (List.mem_cons_self ..),KnowsH_of fun p hp=>h p (List.mem_cons_of_mem _ hp)⟩
def gTl (j:Nat) (gs:List Gr):Hp:=(gHp 0 gs).filter fun p=>!(Nat.beq p.1 (2 * (0 + j) + 100)) && !(Nat.beq p.1 (2 * (0 + j) + 101))
def rhoJ (j x:Nat):Nat:=match Nat.beq x 3 with
 | true=>2 * (0 + j) + 100
 | false=>match Nat.beq x 4 with
  | true=>2 * (0 + j) + 101
  | false=>match Nat.beq x 6 with
   | true=>5000
   | false=>x
theorem rhoJ_ge {j x:Nat} (h:100≤x):rhoJ j x=x:=by
 unfold rhoJ
 rw [f7 (by omega:x≠3),f7 (by omega:x≠4),f7 (by omega:x≠6)]
theorem knows_tl {pre:Hp} {gs:List Gr} {j:Nat} (hp:∀ p∈pre,p.1 < 100∨5000≤p.1) (hl:gs.length≤2000):∀ p∈gTl j gs,Hp.get (pre++gHp 0 gs) (rhoJ j p.1)=some (p.2.ren (rhoJ j)):=by
 intro p hpm
 obtain⟨i,hi,h|h⟩:=gHp_mem gs 0 p (List.mem_filter.1 hpm).1
 ·subst h
  rw [rhoJ_ge (by simp only;omega)]
  refine (i4 fun q hq=>by have:=hp q hq;simp only;omega).trans ((gHp_blk gs 0 i hi).trans ?_)
  simp only [HB.ren,SV.renL,SV.ren,rhoJ_ge (j:=j) (x:=2 * (0 + i) + 101) (by omega)]
 ·subst h
  rw [rhoJ_ge (by simp only;omega)]
  exact (i4 fun q hq=>by have:=hp q hq;simp only;omega).trans (gHp_row gs 0 i hi)
theorem Hp_low_of {k:Nat}:∀ {H:Hp},(∀ p∈H,p.1 < k∧p.2.low k=true)→Hp.low k H=true
 | [],_=>rfl
 | (i,b)::H,h=>by
  simp only [Hp.low,Bool.and_eq_true]
  have:=h (i,b) (List.mem_cons_self ..)
  exact⟨Nat.ble_eq_true_of_le (by simp only at this;omega),this.2,Hp_low_of fun p hp=>h p (List.mem_cons_of_mem _ hp)⟩
theorem gTl_low {j:Nat} {gs:List Gr} (hl:gs.length≤2000):Hp.low 5000 (gTl j gs)=true:=by
 refine Hp_low_of fun p hp=>?_
 have hp:=(List.mem_filter.1 hp).1
 have h1:=Hp.low_spec _ (gHp_low (k:=5000) gs 0 (by omega)) p hp
 exact h1
theorem gTl_ids {j:Nat} {gs:List Gr}:((gTl j gs).map (·.1)).Nodup∧∀ i∈(gTl j gs).map (·.1),100≤i∧i≠2 * (0 + j) + 100∧i≠2 * (0 + j) + 101:=by
 refine⟨(List.filter_sublist.map _).nodup (gHp_nodup gs 0),fun i hi=>?_⟩
 obtain⟨p,hp,rfl⟩:=List.mem_map.1 hi
 obtain⟨h1,h2⟩:=List.mem_filter.1 hp
 simp only [Bool.and_eq_true,Bool.not_eq_true'] at h2
 exact⟨by have:=gHp_ge h1;omega,Nat.ne_of_beq_eq_false h2.1,Nat.ne_of_beq_eq_false h2.2⟩
theorem gTl_lt {j:Nat} {gs:List Gr} (hl:gs.length≤2000):∀ i∈(gTl j gs).map (·.1),i < 5000:=by
 intro i hi
 obtain⟨p,hp,rfl⟩:=List.mem_map.1 hi
 have:=gHp_ge (List.mem_filter.1 hp).1
 omega
theorem gm {j:Nat} {gs:List Gr} (hl:gs.length≤2000) {a:List Nat} (ha:a.Nodup) (hx:∀ x∈a,x < 100∨5000≤x∨x=2 * (0 + j) + 100∨x=2 * (0 + j) + 101):(a++(gTl j gs).map (·.1)).Nodup:=by
 refine List.nodup_append.2 ⟨ha,gTl_ids.1,fun x hxa y hy he=>?_⟩
 subst he
 have h1:=hx x hxa
 have h2:=gTl_ids.2 x hy
 have h3:=gTl_lt hl x hy
 omega
theorem gTl_rho {j:Nat} {gs:List Gr}:(gTl j gs).map (fun p=>rhoJ j p.1)=(gTl j gs).map (·.1) :=
 List.map_congr_left fun p hp=>rhoJ_ge (gTl_ids.2 p.1 (List.mem_map.2 ⟨p,hp,rfl⟩)).1
theorem lowL_of {k:Nat}:∀ {l:List SV},(∀ s∈l,s.low k=true)→SV.lowL k l=true
 | [],_=>rfl
 | s::l,h=>by
  simp only [SV.lowL,Bool.and_eq_true]
  exact⟨h s (List.mem_cons_self ..),lowL_of fun t ht=>h t (List.mem_cons_of_mem _ ht)⟩
theorem cells_low {n m j:Nat} (hn:n≤2000):SV.lowL 5000 ((jb 0 n++List.replicate m SV.junk).set j (.loc 3 0))=true:=by
 refine lowL_of fun s hs=>?_
 rcases List.mem_or_eq_of_mem_set hs with hs|rfl
 ·rcases List.mem_append.1 hs with hs|hs
  ·unfold jb at hs
   obtain⟨i,hi,rfl⟩:=List.mem_map.1 hs
   have:=List.mem_range.1 hi
   exact Nat.ble_eq_true_of_le (by omega)
  ·rw [(List.mem_replicate.1 hs).2];rfl
 ·rfl
theorem renL_map (ρ:Nat→Nat):∀ (l:List SV),SV.renL ρ l=l.map (SV.ren ρ)
 | []=>rfl
 | s::l=>by simp only [SV.renL,List.map_cons,renL_map ρ l]
theorem cells_ren {j n m:Nat} (hj:j < n):SV.renL (rhoJ j) ((jb 0 n++List.replicate m SV.junk).set j (.loc 3 0))=jb 0 n++List.replicate m SV.junk:=by
 have h3:SV.ren (rhoJ j) (.loc 3 0) = .loc (2 * (0 + j) + 100) 0:=rfl
 have hid:(jb 0 n).map (SV.ren (rhoJ j))=jb 0 n:=by
  unfold jb
  rw [List.map_map]
  refine List.map_congr_left fun i _=>?_
  show SV.loc (rhoJ j (2 * (0 + i) + 100)) 0=_
  rw [rhoJ_ge (by omega)]
 rw [renL_map,List.map_set,List.map_append,hid,h3,List.map_replicate]
 exact set_same (gLoc_get hj _)
theorem stepC_ld {τ:List (Nat × TI)} {g:Operand→SV} {η:Nat→Option HB} {z d id off:Nat} {t ty e:TypeId} {x:Operand} {cs:List SV} {s:SV} (ht:(ay τ t).sh = .ptr e) (hx:g x = .loc id off) (hη:η id=some (.blk ty cs)) (hc:cs[off]? = some s):ip τ g η z (some d) (.load t x)=some (True,s,.no):=by
 simp [ip,ks,evC,loadP,loadC,ht,hx,hη,hc,jj]
theorem get_filter (f:Nat→Bool):∀ (H:Hp) (t:Nat),f t=true→Hp.get (H.filter fun p=>f p.1) t=Hp.get H t
 | [],_,_=>rfl
 | (d,s)::H,t,h=>by
  rw [List.filter_cons]
  cases hb:Nat.beq d t with
  | true =>
   have:=Nat.eq_of_beq_eq_true hb
   subst this
   rw [if_pos h]
   simp only [Hp.get,hb]
  | false =>
   split
   ·simp only [Hp.get,hb];exact get_filter f H t h
   ·simp only [Hp.get,hb];exact get_filter f H t h
theorem gTl_blk {gs:List Gr} {i j:Nat} (hi:i < gs.length) (hij:i≠j):Hp.get (gTl j gs) (2 * (0 + i) + 100)=some (.blk 226 [.d (.slice 1 ((gs[i]'hi).1.map bi)),.row (2 * (0 + i) + 101)]):=by
 unfold gTl
 rw [get_filter (fun x=>!(Nat.beq x (2 * (0 + j) + 100)) && !(Nat.beq x (2 * (0 + j) + 101))) _ _ (by rw [f7 (by omega),f7 (by omega)];rfl)]
 exact gHp_blk gs 0 i hi
theorem gTl_row {gs:List Gr} {i j:Nat} (hi:i < gs.length) (hij:i≠j):Hp.get (gTl j gs) (2 * (0 + i) + 101)=some (.row 3 1 ((gs[i]'hi).2.map bi)):=by
 unfold gTl
 rw [get_filter (fun x=>!(Nat.beq x (2 * (0 + j) + 100)) && !(Nat.beq x (2 * (0 + j) + 101))) _ _ (by rw [f7 (by omega),f7 (by omega)];rfl)]
 exact gHp_row gs 0 i hi
def rhoB (j x:Nat):Nat:=match Nat.beq x (2 * (0 + j) + 100) with
 | true=>3
 | false=>match Nat.beq x (2 * (0 + j) + 101) with
  | true=>5016
  | false=>x
theorem rhoB_ne {j x:Nat} (h1:x≠2 * (0 + j) + 100) (h2:x≠2 * (0 + j) + 101):rhoB j x=x:=by
 unfold rhoB
 rw [f7 h1,f7 h2]
theorem rhoB_blk (j:Nat):rhoB j (2 * (0 + j) + 100)=3:=by
 unfold rhoB
 rw [Nat.beq_refl]
theorem rhoB_row (j:Nat):rhoB j (2 * (0 + j) + 101)=5016:=by
 unfold rhoB
 rw [f7 (by omega),Nat.beq_refl]
theorem knows_back {gs:List Gr} {j:Nat} {x:Int} {b2 b6 b0 b1:HB} (hj:j < gs.length) (hl:gs.length≤2000) :
  ∀ p∈gHp 0 (gs.set j ((gs[j]'hj).1,(gs[j]'hj).2++[x])),
   Hp.get ([(5016,.row 3 1 ((gs[j]'hj).2.map bi++[[.int .i64 x]])),(3,.blk 226 [.d (.slice 1 ((gs[j]'hj).1.map bi)),.row 5016]),(2,b2),(6,b6),(0,b0),(1,b1)]++gTl j gs) (rhoB j p.1)=some (p.2.ren (rhoB j)):=by
 intro p hp
 obtain⟨i,hi,h⟩:=gHp_mem _ 0 p hp
 have hi':i < gs.length:=by simpa using hi
 have hout:∀ (t:Nat),100≤t→t < 5000→Hp.get ([(5016,HB.row 3 1 ((gs[j]'hj).2.map bi++[[.int .i64 x]])),(3,.blk 226 [.d (.slice 1 ((gs[j]'hj).1.map bi)),.row 5016]),(2,b2),(6,b6),(0,b0),(1,b1)]++gTl j gs) t=Hp.get (gTl j gs) t:=by
  intro t h1 h2
  refine i4 fun q hq=>?_
  simp only [List.mem_cons,List.not_mem_nil,or_false] at hq
  rcases hq with rfl|rfl|rfl|rfl|rfl|rfl <;> simp only <;> omega
 by_cases hij:i=j
 ·subst hij
  rcases h with rfl|rfl
  ·simp only [rhoB_blk,HB.ren,SV.renL,SV.ren,rhoB_row,List.getElem_set_self]
   rfl
  ·simp only [rhoB_row,HB.ren,List.getElem_set_self,List.map_append]
   rfl
 ·have he:(gs.set j ((gs[j]'hj).1,(gs[j]'hj).2++[x]))[i]=gs[i]:=List.getElem_set_ne (Ne.symm hij) _
  rcases h with rfl|rfl
  ·simp only [he]
   rw [rhoB_ne (by omega) (by omega),hout _ (by omega) (by omega),gTl_blk hi' hij]
   simp only [HB.ren,SV.renL,SV.ren,rhoB_ne (j:=j) (x:=2 * (0 + i) + 101) (by omega) (by omega)]
  ·simp only [he]
   rw [rhoB_ne (by omega) (by omega),hout _ (by omega) (by omega),gTl_row hi' hij]
   rfl
theorem cells_back {j n m:Nat} (hj:j < n):SV.renL (rhoB j) (jb 0 n++List.replicate m SV.junk)=(jb 0 n++List.replicate m SV.junk).set j (.loc 3 0):=by
 rw [renL_map]
 apply List.ext_getElem?
 intro i
 rw [List.getElem?_map,List.getElem?_set]
 by_cases hij:j=i
 ·subst hij
  rw [if_pos rfl,gLoc_get hj,if_pos (by rw [List.length_append];unfold jb;rw [List.length_map,List.length_range];omega)]
  simp only [Option.map_some,SV.ren,rhoB_blk]
 ·rw [if_neg hij]
  by_cases hi:i < n
  ·rw [gLoc_get hi]
   simp only [Option.map_some,SV.ren,rhoB_ne (j:=j) (x:=2 * (0 + i) + 100) (by omega) (by omega)]
  ·rw [List.getElem?_append_right (by unfold jb;rw [List.length_map,List.length_range];omega)]
   cases hk:(List.replicate m SV.junk)[i - (jb 0 n).length]? with
   | none=>rfl
   | some s =>
    rw [(List.mem_replicate.1 (List.mem_of_getElem? hk)).2];rfl
theorem addG_some {gs:List Gr} {w:List Int × Int} {j:Nat} (hj:j < gs.length) (hf:gs.findIdx? (fun g=>decide (g.1=w.1))=some j):addG gs w=gs.set j ((gs[j]'hj).1,(gs[j]'hj).2++[w.2]):=by
 have h:=(List.findIdx?_eq_some_iff_findIdx_eq.1 hf).2
 unfold addG
 rw [h,List.getElem?_eq_getElem hj]
theorem slT_ne {gs:List Gr} {cap:Nat} (h:gs≠[]):slT gs cap = .sl 2 0 gs.length cap:=by
 cases gs with
 | nil=>exact absurd rfl h
 | cons g gs=>rfl
theorem stT_ne {r:Rul} {gs:List Gr} {cap:Nat} (h:gs≠[]):stT r gs cap=(0,.blk 77 [.d (.int .i64 r.pred),.d (.slice 2 (r.terms.map bw)),.d (.int .i64 r.fold),.d (.slice 4 (r.body.map bt)),.d (.int .i64 r.vars)])::(1,.blk 3 [.d (.int .i64 ((r.terms.length - 1:Nat):Int))]) ::
  (2,.blk 224 (jb 0 gs.length++List.replicate (cap - gs.length) .junk))::gHp 0 gs:=by
 cases gs with
 | nil=>exact absurd rfl h
 | cons g gs=>rfl
theorem rhoB_inj {j a b:Nat} (ha:a < 3∨(100≤a∧a < 5000)) (hb:b < 3∨(100≤b∧b < 5000)) (h:a≠b):rhoB j a≠rhoB j b:=by
 by_cases a1:a=2 * (0 + j) + 100 <;> by_cases a2:a=2 * (0 + j) + 101 <;> by_cases b1:b=2 * (0 + j) + 100 <;> by_cases b2:b=2 * (0 + j) + 101 <;>
  first
  | omega
  | (subst a1;rw [rhoB_blk,rhoB_ne b1 b2];omega)
  | (subst a2;rw [rhoB_row,rhoB_ne b1 b2];omega)
  | (subst b1;rw [rhoB_blk,rhoB_ne a1 a2];omega)
  | (subst b2;rw [rhoB_row,rhoB_ne a1 a2];omega)
  | (subst a1;subst b2;rw [rhoB_blk,rhoB_row];omega)
  | (subst a2;subst b1;rw [rhoB_blk,rhoB_row];omega)
  | (rw [rhoB_ne a1 a2,rhoB_ne b1 b2];exact h)
theorem back_ids {gs:List Gr} (hl:gs.length≤2000):([0,1,2]++(gHp 0 gs).map (fun p:Nat × HB=>p.1)).Nodup∧∀ i∈[0,1,2]++(gHp 0 gs).map (fun p:Nat × HB=>p.1),i < 3∨(100≤i∧i < 5000):=by
 have hg:∀ i∈(gHp 0 gs).map (fun p:Nat × HB=>p.1),100≤i∧i < 5000:=fun i hi=>by
  obtain⟨p,hp,rfl⟩:=List.mem_map.1 hi
  have:=gHp_ge hp
  omega
 refine⟨List.nodup_append.2 ⟨by simp,gHp_nodup gs 0,fun x hx y hy he=>?_⟩,fun i hi=>?_⟩
 ·subst he
  have:=hg x hy
  simp only [List.mem_cons,List.not_mem_nil,or_false] at hx
  omega
 ·rcases List.mem_append.1 hi with hi|hi
  ·simp only [List.mem_cons,List.not_mem_nil,or_false] at hi
   omega
  ·exact .inr (hg i hi)
theorem back_rho {j:Nat} {gs:List Gr} (hl:gs.length≤2000):(([0,1,2]++(gHp 0 gs).map (fun p:Nat × HB=>p.1)).map (rhoB j)).Nodup:=by
 obtain⟨h1,h2⟩:=back_ids hl
 refine List.pairwise_map.2 (List.Pairwise.imp_of_mem (fun ha hb h=>rhoB_inj (h2 _ ha) (h2 _ hb) h) h1)
theorem cells_low0 {n m:Nat} (hn:n≤2000):SV.lowL 5000 (jb 0 n++List.replicate m SV.junk)=true:=by
 refine lowL_of fun s hs=>?_
 rcases List.mem_append.1 hs with hs|hs
 ·unfold jb at hs
  obtain⟨i,hi,rfl⟩:=List.mem_map.1 hs
  have:=List.mem_range.1 hi
  exact Nat.ble_eq_true_of_le (by omega)
 ·rw [(List.mem_replicate.1 hs).2];rfl
theorem addG_new {gs:List Gr} {w:List Int × Int} (hf:gs.findIdx? (fun g=>decide (g.1=w.1))=none):addG gs w=(gs++[(w.1,[])]).set gs.length (w.1,[]++[w.2]):=by
 have h:gs.findIdx (fun g=>decide (g.1=w.1))=gs.length:=List.findIdx_eq_length.2 (fun g hg=>by simpa using List.findIdx?_eq_none_iff.1 hf g hg)
 unfold addG
 rw [h,List.getElem?_eq_none (Nat.le_refl _),List.set_append_right _ _ (Nat.le_refl _),Nat.sub_self]
 rfl
theorem gHp_app:∀ (gs:List Gr) (j:Nat) (g:Gr),gHp j (gs++[g])=gHp j gs++[(2 * (j + gs.length) + 100,.blk 226 [.d (.slice 1 (g.1.map bi)),.row (2 * (j + gs.length) + 101)]),(2 * (j + gs.length) + 101,.row 3 1 (g.2.map bi))]
 | [],_,_=>rfl
 | h::gs,j,g=>by
  rw [List.cons_append,gHp,gHp,gHp_app gs (j + 1) g,List.length_cons,show j + 1 + gs.length=j + (gs.length + 1) by omega]
  rfl
theorem gTl_app (gs:List Gr) (g:Gr):gTl gs.length (gs++[g])=gHp 0 gs:=by
 unfold gTl
 rw [gHp_app,List.filter_append]
 have h1:(gHp 0 gs).filter (fun p=>!(Nat.beq p.1 (2 * (0 + gs.length) + 100)) && !(Nat.beq p.1 (2 * (0 + gs.length) + 101)))=gHp 0 gs:=by
  refine List.filter_eq_self.2 fun p hp=>?_
  have:=gHp_ge hp
  rw [f7 (by omega),f7 (by omega)];rfl
 rw [h1]
 simp [Nat.beq_refl]
theorem gsT_succ {r:Rul} {ways:List (List Int)} {i:Nat} (hi:i < ways.length):gsT r ways (i + 1)=addG (gsT r ways i) (pW r ways[i]):=by
 unfold gsT groupsL
 rw [List.take_succ_eq_append_getElem hi,List.map_append,List.foldl_append];rfl
def rhoN (b r x:Nat):Nat:=match Nat.beq x 3 with
 | true=>5001
 | false=>match Nat.beq x 4 with
  | true=>r
  | false=>match Nat.beq x 6 with
   | true=>5000
   | false=>match Nat.beq x 2 with
    | true=>b
    | false=>x
theorem rhoN_ge {b r x:Nat} (h:100≤x):rhoN b r x=x:=by
 unfold rhoN
 rw [f7 (by omega:x≠3),f7 (by omega:x≠4),f7 (by omega:x≠6),f7 (by omega:x≠2)]
theorem gTl_rhoN {b r j:Nat} {gs:List Gr}:(gTl j gs).map (fun p=>rhoN b r p.1)=(gTl j gs).map (·.1) :=
 List.map_congr_left fun p hp=>rhoN_ge (gTl_ids.2 p.1 (List.mem_map.2 ⟨p,hp,rfl⟩)).1
def preOk:Hp→Bool
 | []=>true
 | (i,_)::H=>(Nat.blt i 100 || Nat.ble 5000 i) && preOk H
theorem preOk_spec:∀ {H:Hp},preOk H=true→∀ p∈H,p.1 < 100∨5000≤p.1
 | [],_,_,h=>by simp at h
 | (i,b)::H,h,p,hp=>by
  simp only [preOk,Bool.and_eq_true,Bool.or_eq_true] at h
  rcases List.mem_cons.1 hp with rfl|hp
  ·rcases h.1 with h1|h1
   ·exact .inl (Nat.lt_of_succ_le (Nat.le_of_ble_eq_true h1))
   ·exact .inr (Nat.le_of_ble_eq_true h1)
  ·exact preOk_spec h.2 p hp
theorem knowsN {b r:Nat} {pre:Hp} {gs:List Gr} (hpo:preOk pre=true) (hl:gs.length≤2000):∀ p∈gHp 0 gs,Hp.get (pre++gHp 0 gs) (rhoN b r p.1)=some (p.2.ren (rhoN b r)):=by
 intro p hpm
 have hp:=preOk_spec hpo
 obtain⟨i,hi,h|h⟩:=gHp_mem gs 0 p hpm
 ·subst h
  rw [rhoN_ge (by simp only;omega)]
  refine (i4 fun q hq=>by have:=hp q hq;simp only;omega).trans ((gHp_blk gs 0 i hi).trans ?_)
  simp only [HB.ren,SV.renL,SV.ren,rhoN_ge (b:=b) (r:=r) (x:=2 * (0 + i) + 101) (by omega)]
 ·subst h
  rw [rhoN_ge (by simp only;omega)]
  exact (i4 fun q hq=>by have:=hp q hq;simp only;omega).trans (gHp_row gs 0 i hi)
theorem gu (j n:Nat):(jb j n).length=n:=by unfold jb;rw [List.length_map,List.length_range]
theorem cellsN {b r n m:Nat}:SV.renL (rhoN b r) ((jb 0 (n + 1)++List.replicate m SV.junk).set n (.loc 3 0))=jb 0 n++[.loc 5001 0]++List.replicate m SV.junk:=by
 rw [renL_map]
 apply List.ext_getElem?
 intro i
 rw [List.getElem?_map,List.getElem?_set]
 by_cases hi:n=i
 ·subst hi
  rw [if_pos rfl,if_pos (by rw [List.length_append,gu];omega),List.getElem?_append_left (by rw [List.length_append,gu];simp),List.getElem?_append_right (by rw [gu];exact Nat.le_refl _),gu,Nat.sub_self]
  rfl
 ·rw [if_neg hi]
  by_cases h2:i < n
  ·rw [gLoc_get (by omega),List.append_assoc,gLoc_get h2]
   simp only [Option.map_some,SV.ren,rhoN_ge (b:=b) (r:=r) (x:=2 * (0 + i) + 100) (by omega)]
  ·rw [List.getElem?_append_right (by rw [gu];omega),List.getElem?_append_right (by rw [List.length_append,gu,List.length_singleton];omega),gu,List.length_append,gu,List.length_singleton]
   cases hk:(List.replicate m SV.junk)[i - (n + 1)]? with
   | none=>rfl
   | some s=>rw [(List.mem_replicate.1 (List.mem_of_getElem? hk)).2];rfl
theorem spliceN {n cap:Nat} (s:SV):jv (jb 0 n++List.replicate (cap - n) SV.junk) (0 + n) [s]=jb 0 n++[s]++List.replicate (cap - (n + 1)) SV.junk:=by
 unfold jv
 rw [Nat.zero_add,List.take_append_of_le_length (by rw [gu];exact Nat.le_refl _),List.take_of_length_le (by rw [gu];exact Nat.le_refl _),List.length_singleton,
  List.drop_append,gu,List.drop_of_length_le (by rw [gu];omega),List.nil_append,show n + 1 - n=1 by omega,List.drop_replicate,Nat.sub_sub]
theorem growN {n m c:Nat} (s:SV):((jb 0 n++List.replicate m SV.junk).drop 0).take n++[s]++List.replicate c SV.junk=jb 0 n++[s]++List.replicate c SV.junk:=by
 rw [List.drop_zero,List.take_append_of_le_length (by rw [gu];exact Nat.le_refl _),List.take_of_length_le (by rw [gu];exact Nat.le_refl _)]
theorem grpBlkS {S:Nat→Prop} {pre:Hp} {gs:List Gr} {j:Nat} (hj:j < gs.length) (hS:∀ i,100≤i→S i) (hpo:preOk pre=true) (hl:gs.length≤2000) :
  BlkOk S (pre++gHp 0 gs) (2 * (0 + j) + 100) [.slice 1 ((gs[j]'hj).1.map bi),.slice 1 ((gs[j]'hj).2.map bi)]:=by
 have hp:=preOk_spec hpo
 refine⟨hS _ (by omega),_,_,(i4 fun p hpp=>?_).trans (gHp_blk gs 0 j hj),fun i hi=>?_⟩
 ·have:=hp p hpp;omega
 ·match i,hi with
  | 0,_=>exact⟨_,rfl,.inl rfl⟩
  | 1,_=>exact⟨_,rfl,.inr (.inl ⟨_,_,_,_,rfl,hS _ (by omega),(i4 fun p hpp=>by have:=hp p hpp;omega).trans (gHp_row gs 0 j hj),rfl⟩)⟩
theorem own_two {e:Env} {a b:Nat} {t1 t2:TypeId} {c1 c2:List SV} {H:Hp} (h:(aw e ((a,.blk t1 c1)::(b,.blk t2 c2)::H)).Nodup):(aw e [(a,.blk t1 c1),(b,.blk t2 c2)]).Nodup:=by
 have:aw e ((a,.blk t1 c1)::(b,.blk t2 c2)::H)=e.β a::e.β b::aw e H:=rfl
 rw [this] at h
 obtain⟨h1,h2⟩:=List.nodup_cons.1 h
 show [e.β a,e.β b].Nodup
 refine List.nodup_cons.2 ⟨fun hm=>h1 ?_,by simp⟩
 rw [List.mem_singleton] at hm
 exact hm▸List.mem_cons_self ..
theorem ent_groups {Γ:Ctx} {k:Nat} {L:Sl} {r:Rul} {gs:List Gr} {cap:Nat} (hl:gs.length≤2000) (hL:L.get 8=slT gs cap) :
  Ent Γ k L (stT r gs cap) k ((8,.d (.slice 1 (gs.map encG)))::L) [(0,.blk 77 [.d (.int .i64 r.pred),.d (.slice 2 (r.terms.map bw)),.d (.int .i64 r.fold),.d (.slice 4 (r.body.map bt)),.d (.int .i64 r.vars)]),(1,.blk 3 [.d (.int .i64 ((r.terms.length - 1:Nat):Int))])]:=by
 cases gs with
 | nil=>exact cr 8 1 hL
 | cons g gs =>
  rw [show (g::gs).map encG=((g::gs).map dsG).map fun ds=>[.ptr ds] by rw [List.map_map];rfl]
  refine ent_frz (S:=fun i=>i≠0∧i≠1) 8 hL (by simp) rfl (List.length_map _) (fun j hj=>?_) (fun p hp=>?_) (by simp) (fun e h=>own_two h)
  ·rw [List.length_map] at hj
   refine⟨_,gLoc_get hj _,?_⟩
   rw [List.getElem_map]
   exact grpBlkS (pre:=[(_,_),(_,_),(_,_)]) hj (fun i hi=>by omega) rfl hl
  ·simp only [List.mem_cons,List.not_mem_nil,or_false] at hp
   rcases hp with rfl|rfl <;> simp [stT]
theorem pW_num {arity:List Int} {r:Rul} {ways:List (List Int)} (hok:HeadOk arity r ways) {w:List Int} (hw:w∈ways):-1000000≤(pW r w).2∧(pW r w).2≤1000000:=by
 show -1000000≤(aW r w).getD (r.terms.length - 1) 0∧(aW r w).getD (r.terms.length - 1) 0≤1000000
 rw [List.getD_eq_getElem?_getD]
 cases h:(aW r w)[r.terms.length - 1]? with
 | none=>simp
 | some x=>exact hok.vals hw x (List.mem_of_getElem? h)
theorem grp_ok {arity:List Int} {r:Rul} {ways:List (List Int)} (hok:HeadOk arity r ways) {gs:List Gr} (hinv:InvG gs (ways.map (pW r))) {g:Gr} (hg:g∈gs) :
  g.2≠[]∧(∀ x∈g.2,-1000000≤x∧x≤1000000)∧g.2.length≤1000000∧g.1.length≤3:=by
 have hv:=hinv.vals g hg
 obtain⟨w,hw,hwg⟩:=hinv.here g hg
 have hm:=hok.many
 have ht:=hok.tlen
 refine⟨fun h=>?_,fun x hx=>?_,?_,?_⟩
 ·rw [hv] at h
  have:w.2∈grpL (ways.map (pW r)) g.1:=List.mem_map.2 ⟨w,List.mem_filter.2 ⟨hw,decide_eq_true hwg⟩,rfl⟩
  rw [h] at this;simp at this
 ·rw [hv] at hx
  obtain⟨z,hz,rfl⟩:=List.mem_map.1 hx
  obtain⟨u,hu,rfl⟩:=List.mem_map.1 (List.mem_filter.1 hz).1
  exact pW_num hok hu
 ·rw [hv]
  unfold grpL
  rw [List.length_map]
  refine Nat.le_trans (List.length_filter_le _ _) ?_
  rw [List.length_map];omega
 ·obtain⟨u,hu,rfl⟩:=List.mem_map.1 hw
  rw [← hwg]
  show ((aW r u).take (r.terms.length - 1)).length≤3
  have:(aW r u).length=r.terms.length:=List.length_map _
  rw [List.length_take];omega
def headG (r:Rul) (g:Gr):Option Fct:=if okP r.fold g.2 then some ⟨r.pred,g.1++[valP r.fold g.2]⟩ else none
attribute [local irreducible] DW DS DL DQ Ev FnOk FnP em b9 DT
set_option maxHeartbeats 8000000 in
theorem cloneW_fn (l:List Int) (hl:l.length≤17592186044416):FnRow false Tryz.prog tab cn 111 [.d (.slice 1 (l.map bi))] 3 1 (fun ys=>ys=l.map bi):=by
 refine co _ Tryz.func111 rfl rfl (by kernel_rfl) ?_
 intro O w0 E0 β0
 have la:(l.map bi).length=l.length:=List.length_map _
 repeat' (first|refine z0 ?_|apply ag|apply ae|refine z16 ?_|apply aa)
 refine ds_eqnil rfl rfl rfl rfl rfl (fun h=>?_) ?_
 ·have h0:l=[]:=List.map_eq_nil_iff.1 h
  subst h0
  repeat' (first|refine z0 ?_|apply ag|apply ae|refine z16 ?_|refine z18 ?_|apply aa)
  refine ba (ea (t:=2) 3 1 rfl) ?_
  repeat' (first|apply aj|apply av)
  exact⟨.inl rfl,_,rfl,id,1,.row 0,[(0,.row 3 1 [])],rfl,⟨rfl,trivial⟩,rfl,rfl,rfl,rfl,rfl,rfl,[],rfl,rfl,rfl⟩
 ·repeat' (first|(apply ds_bs0;exact rfl;exact rfl;exact rfl;exact rfl;exact rfl;exact rfl;exact rfl;exact rfl)|(first|refine z0 ?_|apply ag|apply ae|refine z16 ?_|apply ai|refine z19 ?_|apply aa|refine z2 ?_|fail))
  repeat' (apply aj)
  exact⟨.inl rfl,_,rfl,fun _=>1,1,.row 0,[(0,.row 3 1 (l.map bi))],rfl,⟨rfl,trivial⟩,rfl,rfl,rfl,rfl,rfl,rfl,_,rfl,rfl,rfl⟩
set_option maxHeartbeats 8000000 in
theorem madeF_fn (arity:List Int) (r:Rul) (ways:List (List Int)) (hok:HeadOk arity r ways) (h0:r.fold≠0):Fn 143 [elRul r,.d (.slice 1 (ways.map jp))] (fun res=>res = .d (.slice 2 ((bq (ma r ways)).map a6))):=by
 refine ak _ Tryz.func143 rfl rfl (by kernel_rfl) ?_
 intro O w0 E0 β0
 have hmany:=hok.many
 have htl:=hok.tlen
 have htp:=(hok.rul.folded h0).1
 have lw:(ways.map jp).length=ways.length:=List.length_map _
 have lt:(r.terms.map bw).length=r.terms.length:=List.length_map _
 have hgl:∀ i,(gsT r ways i).length≤i:=fun i=>groupsL_len _ _
 repeat' ((fail_if_success (apply mf 11));(first|refine z0 ?_|apply ag|apply ae|refine z16 ?_|apply ah|apply ai|apply aa|refine z1 ?_|refine z3 ?_|(refine z23 ?_ ?_ <;> intro hg)|fail))
 all_goals try (exfalso;omega)
 repeat' (first|refine z0 ?_|apply ag|apply ae|refine z16 ?_|apply ah|apply aa)
 refine bh (ι:=Nat × Nat) (fun c=>⟨5000,[(1,.d (.slice 1 (ways.map jp))),(2,.loc 0 0),(5,.nils),(8,slT (gsT r ways c.1) c.2),(9,.loc 1 0),(44,.d (.slice 1 (ways.map jp))),(45,.d (.int .i64 ways.length)),(46,.d (.int .i64 c.1))],stT r (gsT r ways c.1) c.2⟩)
  (fun c=>c.1≤ways.length∧(gsT r ways c.1).length≤c.2∧c.2≤maxLen) (fun c=>ways.length - c.1) (0,0) ⟨Nat.zero_le _,Nat.le_refl _,Nat.zero_le _⟩
  (ap (fun j=>match j with|1=>1|_=>0) ⟨rfl,rfl,rfl,rfl,rfl,rfl,by rw [← lw];rfl,rfl,trivial⟩ ⟨rfl,by rw [show ((r.terms.length - 1:Nat):Int)=(((r.terms.map bw).length:Int) - 1) by omega];rfl,trivial⟩ rfl rfl rfl rfl rfl rfl) ?_
 rintro⟨i,cap⟩ ⟨g1,g2,g3⟩
 dsimp only at g1 g2 g3 ⊢
 by_cases hi:i < ways.length
 ·have hm:=List.getElem_mem hi
  have w1:=args_fn r.terms ways[i] (hok.terms hm) (by omega)
  have hgi:=hgl i
  generalize hgs:gsT r ways i=gs at *
  cases gs with
  | nil =>
   dsimp only [slT,stT]
   repeat' (first|refine z0 ?_|apply ag|apply ae|refine z16 ?_|apply ah|apply ai|apply au|apply aa|apply aq|refine z17 ?_|refine z21 ?_ (hc:=by apply w1)|refine z1 ?_|refine z3 ?_|(refine z23 ?_ ?_ <;> intro hg)|fail)
   all_goals try (exfalso;omega)
   refine ds_lend (args:=[.d (.slice 1 (([]:List Gr).map encG)),.fn 159 [.pd [.slice 1 ((aW r ways[i]).map bi)],.pd [.int .i64 ((r.terms.length - 1:Nat):Int)]]]) (r:=.d (.int .i64 (-1))) rfl
    (fun e a w m=>⟨lend_nil m rfl,lend_fn2 m rfl (blk1 trivial rfl) (blk1 trivial rfl),trivial⟩)
    (indexG_fn (fun g=>decide (g.1=(aW r ways[i]).take (r.terms.length - 1))) [] rfl (fun g hg=>made1_fn _ _ (by unfold aW;rw [List.length_map];omega) g)) rfl rfl rfl ?_
   have la:((aW r ways[i]).map bi).length=r.terms.length:=by unfold aW;rw [List.length_map,List.length_map]
   repeat' ((fail_if_success (apply bz 19));(first|(apply ds_slD;exact rfl;exact rfl;exact rfl;exact rfl;exact rfl;exact rfl;(refine⟨?_,?_,?_⟩ <;> (first|omega|(simp only [List.length_map];omega)));((with_reducible apply hv_take);(exact rfl));exact rfl;exact rfl)|refine z0 ?_|apply ag|apply ae|refine z16 ?_|refine z18 ?_|apply aa|refine z1 ?_|fail))
   all_goals try (exfalso;omega)
   repeat' ((fail_if_success (apply bz 19));fail)
   all_goals try (exfalso;omega)
   refine ds_bs_sl rfl rfl rfl rfl rfl rfl rfl rfl rfl rfl rfl ?_
   refine ds_append_ptr0 rfl rfl rfl rfl rfl rfl rfl rfl rfl rfl rfl rfl (Nat.le_of_ble_eq_true rfl) (fun cap' hc1 hc2=>?_)
   repeat' ((fail_if_success (apply bz 19));(first|refine z0 ?_|apply ag|apply aa))
   refine ba (ap (fun j=>match j with|0=>0|1=>1|2=>5003|3=>5001|6=>5000|_=>0) (k':=7)
    (L':=[(1,.d (.slice 1 (ways.map jp))),(2,.loc 0 0),(5,.nils),(8,.sl 2 0 1 cap'),(9,.loc 1 0),(12,.loc 6 0),(13,.d (.int .i64 0)),(44,.d (.slice 1 (ways.map jp))),(45,.d (.int .i64 ways.length)),(46,.d (.int .i64 i))])
    (H':=[(3,.blk 226 [.d (.slice 1 (((aW r ways[i]).take (r.terms.length - 1)).map bi)),.nils]),(2,.blk 224 (.loc 3 0::List.replicate (cap' - 1) .junk)),(6,.blk 22 [.d (.slice 1 ((aW r ways[i]).map bi))]),
     (0,.blk 77 [.d (.int .i64 r.pred),.d (.slice 2 (r.terms.map bw)),.d (.int .i64 r.fold),.d (.slice 4 (r.body.map bt)),.d (.int .i64 r.vars)]),(1,.blk 3 [.d (.int .i64 ((r.terms.length - 1:Nat):Int))])])
    ?_ ?_ ?_ ?_ ?_ ?_ ?_ ?_) ?_
   ·exact⟨rfl,rfl,rfl,rfl,rfl,rfl,rfl,rfl,rfl,rfl,trivial⟩
   ·exact⟨rfl,by simp only [HB.ren,SV.ren,SV.renL,renL_junk];rfl,rfl,rfl,rfl,trivial⟩
   ·rfl
   ·simp [Hp.low,HB.low,SV.low,SV.lowL,lowL_junk]
   ·rfl
   ·rfl
   ·rfl
   ·rfl
   refine ba (k0 3 1 3 1 rfl rfl rfl) ?_
   refine jq 17 (by kernel_rfl) (by kernel_rfl) (by kernel_rfl) rfl rfl rfl ?_
   repeat' (first|refine z0 ?_|apply ag|refine z5 ?_|refine z9 ?_|refine z11 ?_|refine z16 ?_|apply aa|apply bg|refine z3 ?_|fail)
   all_goals try omega
   have hst:=gsT_succ (r:=r) hi
   have hal:r.terms.length - 1 < (aW r ways[i]).length:=by unfold aW;rw [List.length_map];omega
   have hgd:(aW r ways[i]).getD (r.terms.length - 1) 0=(aW r ways[i])[r.terms.length - 1]:=by rw [List.getD_eq_getElem?_getD,List.getElem?_eq_getElem hal];rfl
   rw [hgs,show addG [] (pW r ways[i])=[((aW r ways[i]).take (r.terms.length - 1),[(aW r ways[i]).getD (r.terms.length - 1) 0])] from rfl,hgd] at hst
   refine⟨(i + 1,cap'),⟨hi,by rw [hst];exact hc1,hc2⟩,?_,by dsimp only;omega⟩
   dsimp only
   rw [hst]
   dsimp only [slT,stT]
   refine ap (fun j=>match j with|0=>0|1=>1|2=>2|100=>3|101=>24|_=>0) ?_ ?_ ?_ ?_ ?_ ?_ ?_ ?_
   ·exact⟨rfl,rfl,rfl,rfl,rfl,rfl,rfl,rfl,trivial⟩
   ·refine⟨rfl,rfl,?_,rfl,?_,trivial⟩
    ·show _=some (HB.blk _ (SV.renL _ (SV.loc 100 0::List.replicate (cap' - 1) .junk)))
     simp only [SV.ren,SV.renL,renL_junk]
     rfl
    ·rfl
   ·rfl
   ·simp [gHp,Hp.low,HB.low,SV.low,SV.lowL,lowL_junk,jb]
   ·rfl
   ·rfl
   ·rfl
   ·rfl
  | cons g gs =>
   dsimp only [slT,stT]
   repeat' (first|refine z0 ?_|apply ag|apply ae|refine z16 ?_|apply ah|apply ai|apply au|apply aa|apply aq|refine z17 ?_|refine z21 ?_ (hc:=by apply w1)|refine z1 ?_|refine z3 ?_|(refine z23 ?_ ?_ <;> intro hg)|fail)
   all_goals try (exfalso;omega)
   refine ds_lend (args:=[.d (.slice 1 ((g::gs).map encG)),.fn 159 [.pd [.slice 1 ((aW r ways[i]).map bi)],.pd [.int .i64 ((r.terms.length - 1:Nat):Int)]]]) (r:=.d (.int .i64 (idxF (fun g=>decide (g.1=(aW r ways[i]).take (r.terms.length - 1))) (g::gs)))) rfl
    (fun e a w m=>⟨?_,lend_fn2 m rfl (blk1 trivial rfl) (blk1 trivial rfl),trivial⟩)
    (indexG_fn (fun g=>decide (g.1=(aW r ways[i]).take (r.terms.length - 1))) (g::gs) rfl (fun g hg=>made1_fn _ _ (by unfold aW;rw [List.length_map];omega) g)) rfl rfl rfl ?_
   ·rw [show (g::gs).map encG=((g::gs).map dsG).map fun ds=>[.ptr ds] by rw [List.map_map];rfl]
    refine lend_sl m rfl rfl (List.length_map _) (fun j hj=>?_)
    rw [List.length_map] at hj
    refine⟨_,gLoc_get hj _,?_⟩
    rw [List.getElem_map]
    exact grpBlk (pre:=[(_,_),(_,_),(_,_),(_,_)]) hj (by intro p hp;simp only [List.mem_cons,List.not_mem_nil,or_false] at hp;rcases hp with rfl|rfl|rfl|rfl <;> simp) (by omega)
   have la:((aW r ways[i]).map bi).length=r.terms.length:=by unfold aW;rw [List.length_map,List.length_map]
   cases hf:(g::gs).findIdx? (fun g=>decide (g.1=(aW r ways[i]).take (r.terms.length - 1))) with
   | none =>
    rw [show idxF (fun g=>decide (g.1=(aW r ways[i]).take (r.terms.length - 1))) (g::gs) = -1 by unfold idxF;rw [hf]]
    repeat' ((fail_if_success (apply bz 19));(first|(apply ds_slD;exact rfl;exact rfl;exact rfl;exact rfl;exact rfl;exact rfl;(refine⟨?_,?_,?_⟩ <;> (first|omega|(simp only [List.length_map];omega)));((with_reducible apply hv_take);(exact rfl));exact rfl;exact rfl)|refine z0 ?_|apply ag|apply ae|refine z16 ?_|refine z18 ?_|apply aa|refine z1 ?_|fail))
    all_goals try (exfalso;omega)
    refine ds_bs_sl rfl rfl rfl rfl rfl rfl rfl rfl rfl rfl rfl ?_
    have hn1:(g::gs).length≤2000:=by omega
    refine ds_append_ptr rfl rfl rfl rfl rfl rfl rfl rfl ?_ rfl rfl rfl rfl rfl ?_ ?_ (fun hr=>?_) (fun cap' q1 q2 q3=>?_)
    ·rw [List.length_append,List.length_replicate];unfold jb;rw [List.length_map,List.length_range];omega
    ·show ((g::gs).length + 1) * 8≤140737488355328;omega
    ·unfold maxLen;omega
    ·repeat' ((fail_if_success (apply bz 19));(first|refine z0 ?_|apply ag|apply aa))
     refine ba (k0 5001 1 3 1 rfl rfl rfl) ?_
     obtain⟨gs2,hgs2⟩:∃ x,x=(g::gs)++[((pW r ways[i]).1,([]:List Int))]:=⟨_,rfl⟩
     obtain⟨j,hj0⟩:∃ j,j=(g::gs).length:=⟨_,rfl⟩
     have hl2:gs2.length=(g::gs).length + 1:=by rw [hgs2,List.length_append];rfl
     have hj2:j < gs2.length:=by omega
     have hjv:gs2[j]=((pW r ways[i]).1,[]):=by subst hgs2 hj0;simp
     have hT0:gTl j gs2=gHp 0 (g::gs):=by rw [hgs2,hj0];exact gTl_app _ _
     have hst:=gsT_succ (r:=r) hi
     rw [hgs,addG_new (w:=pW r ways[i]) hf,← hgs2,← hj0] at hst
     rw [show (((pW r ways[i]).1,[]++[(pW r ways[i]).2]):Gr)=(gs2[j].1,gs2[j].2++[(pW r ways[i]).2]) by rw [hjv]] at hst
     have hgl2:(gs2[j].2.map bi).length≤2000:=by rw [hjv];exact Nat.zero_le _
     have hn1:gs2.length≤2000:=by omega
     have c2:gs2.length≤cap:=by omega
     have c3:cap≤maxLen:=by assumption
     refine ba (ap (rhoN 2 5003) (k':=5000)
      (L':=[(1,.d (.slice 1 (ways.map jp))),(2,.loc 0 0),(5,.nils),(8,.sl 2 0 gs2.length cap),(9,.loc 1 0),(12,.loc 6 0),(13,.d (.int .i64 j)),(44,.d (.slice 1 (ways.map jp))),(45,.d (.int .i64 ways.length)),(46,.d (.int .i64 i))])
      (H':=(3,.blk 226 [.d (.slice 1 ((gs2[j]'hj2).1.map bi)),.row 4])::(4,.row 3 1 ((gs2[j]'hj2).2.map bi))::(2,.blk 224 ((jb 0 gs2.length++List.replicate (cap - gs2.length) SV.junk).set j (.loc 3 0)))::(6,.blk 22 [.d (.slice 1 ((aW r ways[i]).map bi))]) ::
       (0,.blk 77 [.d (.int .i64 r.pred),.d (.slice 2 (r.terms.map bw)),.d (.int .i64 r.fold),.d (.slice 4 (r.body.map bt)),.d (.int .i64 r.vars)])::(1,.blk 3 [.d (.int .i64 ((r.terms.length - 1:Nat):Int))])::gTl j gs2)
      ?_ ?_ ?_ ?_ ?_ ?_ ?_ ?_) ?_
     ·refine⟨rfl,rfl,rfl,?_,rfl,rfl,?_,rfl,rfl,rfl,trivial⟩
      ·rw [hl2];rfl
      ·rw [hj0];rfl
     ·refine⟨?_,?_,?_,rfl,rfl,rfl,KnowsH_of ?_⟩
      ·rw [hjv];rfl
      ·rw [hjv];rfl
      ·simp only [HB.ren]
       rw [hl2,hj0,cellsN]
       exact congrArg (fun l=>some (HB.blk _ l)) (spliceN _)
      ·rw [hT0]
       exact knowsN (pre:=[(_,_),(_,_),(_,_),(_,_),(_,_),(_,_),(_,_)]) rfl (by omega)
     ·rfl
     ·simp only [Hp.low,Bool.and_eq_true]
      exact⟨rfl,rfl,rfl,rfl,rfl,cells_low hn1,rfl,rfl,rfl,rfl,rfl,rfl,gTl_low hn1⟩
     ·refine cw ?_
      simp only [List.map_cons,gTl_rhoN]
      exact gm (a:=[5001,5003,2,5000,0,1]) hn1 (by simp) (by simp)
     ·refine cw ?_
      simp only [List.map_cons]
      exact gm (a:=[3,4,2,6,0,1]) hn1 (by simp) (by simp)
     ·rfl
     ·rfl
     have hdT:bm (3::4::2::6::0::1::(gTl j gs2).map (·.1))=true:=cw (gm (a:=[3,4,2,6,0,1]) hn1 (by simp) (by simp))
     have hdT2:bm (5016::3::2::6::0::1::(gTl j gs2).map (·.1))=true:=cw (gm (a:=[5016,3,2,6,0,1]) hn1 (by simp) (by simp))
     generalize hT:gTl j gs2=T at hdT hdT2 ⊢
     refine jq 17 (by kernel_rfl) (by kernel_rfl) (by kernel_rfl) rfl rfl rfl ?_
     refine dc rfl rfl trivial rfl rfl rfl hdT rfl ?_
     refine dc rfl rfl trivial rfl rfl rfl hdT rfl ?_
     refine dc rfl rfl ?_ rfl rfl rfl hdT rfl ?_
     ·exact⟨by omega,by omega⟩
     have hcj:((jb 0 gs2.length++List.replicate (cap - gs2.length) SV.junk).set j (.loc 3 0))[0 + (j:Int).toNat * 1]? = some (.loc 3 0):=by
      rw [Nat.zero_add,Nat.mul_one,Int.toNat_natCast,List.getElem?_set_self]
      rw [List.length_append];unfold jb;rw [List.length_map,List.length_range];omega
     refine dc rfl (stepC_ld rfl rfl rfl hcj) trivial rfl rfl rfl hdT rfl ?_
     refine dc rfl rfl trivial rfl rfl rfl hdT rfl ?_
     refine dc rfl rfl trivial rfl rfl rfl hdT rfl ?_
     refine dc rfl rfl ⟨by omega,by omega⟩ rfl rfl rfl hdT rfl ?_
     refine dc rfl (stepC_ld rfl rfl rfl hcj) trivial rfl rfl rfl hdT rfl ?_
     refine dc rfl rfl trivial rfl rfl rfl hdT rfl ?_
     refine dc rfl rfl trivial rfl rfl rfl hdT rfl ?_
     refine dc rfl rfl trivial rfl rfl rfl hdT rfl ?_
     refine dc rfl rfl trivial rfl rfl rfl hdT rfl ?_
     refine dc rfl rfl trivial rfl rfl rfl hdT rfl ?_
     (apply dc;exact rfl;exact rfl;(omega);((with_reducible apply hv_row);(exact rfl);(omega));exact rfl;exact rfl;exact hdT;exact rfl)
     (apply dc;exact rfl;exact rfl;(with_reducible exact trivial);(with_reducible exact rfl);exact rfl;exact rfl;exact hdT;exact rfl)
     (apply dc;exact rfl;exact rfl;(with_reducible exact trivial);(with_reducible exact rfl);exact rfl;exact rfl;exact hdT;exact rfl)
     have hgl3:(gs2[j].2).length≤2000:=by rw [List.length_map] at hgl2;exact hgl2
     (apply dt_trade;exact rfl;exact rfl;exact rfl;(unfold maxLen;simp <;> omega);exact rfl;exact rfl;exact rfl;exact hdT;exact rfl;exact rfl)
     refine dt_nil hdT2 ?_
     repeat' (first|refine z0 ?_|apply ag|refine z16 ?_|apply aa|apply bg|refine z3 ?_|fail)
     have hal:r.terms.length - 1 < (aW r ways[i]).length:=by unfold aW;rw [List.length_map];omega
     have hgd:(pW r ways[i]).2=(aW r ways[i])[r.terms.length - 1]:=by
      show (aW r ways[i]).getD (r.terms.length - 1) 0=_
      rw [List.getD_eq_getElem?_getD,List.getElem?_eq_getElem hal];rfl
     rw [hgd] at hst
     have hne:gs2.set j (gs2[j].1,gs2[j].2++[(aW r ways[i])[r.terms.length - 1]])≠[]:=fun h=>by
      have:=congrArg List.length h
      rw [List.length_set,List.length_nil] at this
      omega
     refine⟨(i + 1,cap),⟨hi,by rw [hst,List.length_set];exact c2,c3⟩,?_,by dsimp only;omega⟩
     dsimp only
     have e1:=slT_ne (cap:=cap) hne
     have e2:=stT_ne (r:=r) (cap:=cap) hne
     unfold slT at e1
     unfold stT at e2
     rw [hst,e1,e2,List.length_set]
     subst hT
     refine ap (rhoB j) ?_ ?_ ?_ ?_ ?_ ?_ ?_ ?_
     ·exact⟨rfl,rfl,rfl,rfl,rfl,rfl,rfl,rfl,trivial⟩
     ·refine⟨rfl,rfl,?_,KnowsH_of (knows_back hj2 hn1)⟩
      simp only [HB.ren,cells_back hj2]
      rfl
     ·rfl
     ·simp only [Hp.low,Bool.and_eq_true]
      exact⟨rfl,rfl,rfl,rfl,rfl,cells_low0 hn1,gHp_low _ 0 (by rw [List.length_set];omega)⟩
     ·refine cw ?_
      have h:=back_rho (j:=j) (gs:=gs2.set j (gs2[j].1,gs2[j].2++[(aW r ways[i])[r.terms.length - 1]])) (by rw [List.length_set];exact hn1)
      simp only [List.map_append,List.map_map] at h
      exact h
     ·refine cw ?_
      exact (back_ids (gs:=gs2.set j (gs2[j].1,gs2[j].2++[(aW r ways[i])[r.terms.length - 1]])) (by rw [List.length_set];exact hn1)).1
     ·rfl
     ·rfl
    ·repeat' ((fail_if_success (apply bz 19));(first|refine z0 ?_|apply ag|apply aa))
     refine ba (k0 5001 1 3 1 rfl rfl rfl) ?_
     obtain⟨gs2,hgs2⟩:∃ x,x=(g::gs)++[((pW r ways[i]).1,([]:List Int))]:=⟨_,rfl⟩
     obtain⟨j,hj0⟩:∃ j,j=(g::gs).length:=⟨_,rfl⟩
     have hl2:gs2.length=(g::gs).length + 1:=by rw [hgs2,List.length_append];rfl
     have hj2:j < gs2.length:=by omega
     have hjv:gs2[j]=((pW r ways[i]).1,[]):=by subst hgs2 hj0;simp
     have hT0:gTl j gs2=gHp 0 (g::gs):=by rw [hgs2,hj0];exact gTl_app _ _
     have hst:=gsT_succ (r:=r) hi
     rw [hgs,addG_new (w:=pW r ways[i]) hf,← hgs2,← hj0] at hst
     rw [show (((pW r ways[i]).1,[]++[(pW r ways[i]).2]):Gr)=(gs2[j].1,gs2[j].2++[(pW r ways[i]).2]) by rw [hjv]] at hst
     have hgl2:(gs2[j].2.map bi).length≤2000:=by rw [hjv];exact Nat.zero_le _
     have hn1:gs2.length≤2000:=by omega
     have c2:gs2.length≤cap':=by omega
     have c3:cap'≤maxLen:=by assumption
     refine ba (ap (rhoN 5003 5004) (k':=5000)
      (L':=[(1,.d (.slice 1 (ways.map jp))),(2,.loc 0 0),(5,.nils),(8,.sl 2 0 gs2.length cap'),(9,.loc 1 0),(12,.loc 6 0),(13,.d (.int .i64 j)),(44,.d (.slice 1 (ways.map jp))),(45,.d (.int .i64 ways.length)),(46,.d (.int .i64 i))])
      (H':=(3,.blk 226 [.d (.slice 1 ((gs2[j]'hj2).1.map bi)),.row 4])::(4,.row 3 1 ((gs2[j]'hj2).2.map bi))::(2,.blk 224 ((jb 0 gs2.length++List.replicate (cap' - gs2.length) SV.junk).set j (.loc 3 0)))::(6,.blk 22 [.d (.slice 1 ((aW r ways[i]).map bi))]) ::
       (0,.blk 77 [.d (.int .i64 r.pred),.d (.slice 2 (r.terms.map bw)),.d (.int .i64 r.fold),.d (.slice 4 (r.body.map bt)),.d (.int .i64 r.vars)])::(1,.blk 3 [.d (.int .i64 ((r.terms.length - 1:Nat):Int))])::gTl j gs2)
      ?_ ?_ ?_ ?_ ?_ ?_ ?_ ?_) ?_
     ·refine⟨rfl,rfl,rfl,?_,rfl,rfl,?_,rfl,rfl,rfl,trivial⟩
      ·rw [hl2];rfl
      ·rw [hj0];rfl
     ·refine⟨?_,?_,?_,rfl,rfl,rfl,KnowsH_of ?_⟩
      ·rw [hjv];rfl
      ·rw [hjv];rfl
      ·simp only [HB.ren]
       rw [hl2,hj0,cellsN]
       exact congrArg (fun l=>some (HB.blk _ l)) (growN _)
      ·rw [hT0]
       exact knowsN (pre:=[(_,_),(_,_),(_,_),(_,_),(_,_),(_,_),(_,_),(_,_)]) rfl (by omega)
     ·rfl
     ·simp only [Hp.low,Bool.and_eq_true]
      exact⟨rfl,rfl,rfl,rfl,rfl,cells_low hn1,rfl,rfl,rfl,rfl,rfl,rfl,gTl_low hn1⟩
     ·refine cw ?_
      simp only [List.map_cons,gTl_rhoN]
      exact gm (a:=[5001,5004,5003,5000,0,1]) hn1 (by simp) (by simp)
     ·refine cw ?_
      simp only [List.map_cons]
      exact gm (a:=[3,4,2,6,0,1]) hn1 (by simp) (by simp)
     ·rfl
     ·rfl
     have hdT:bm (3::4::2::6::0::1::(gTl j gs2).map (·.1))=true:=cw (gm (a:=[3,4,2,6,0,1]) hn1 (by simp) (by simp))
     have hdT2:bm (5016::3::2::6::0::1::(gTl j gs2).map (·.1))=true:=cw (gm (a:=[5016,3,2,6,0,1]) hn1 (by simp) (by simp))
     generalize hT:gTl j gs2=T at hdT hdT2 ⊢
     refine jq 17 (by kernel_rfl) (by kernel_rfl) (by kernel_rfl) rfl rfl rfl ?_
     refine dc rfl rfl trivial rfl rfl rfl hdT rfl ?_
     refine dc rfl rfl trivial rfl rfl rfl hdT rfl ?_
     refine dc rfl rfl ?_ rfl rfl rfl hdT rfl ?_
     ·exact⟨by omega,by omega⟩
     have hcj:((jb 0 gs2.length++List.replicate (cap' - gs2.length) SV.junk).set j (.loc 3 0))[0 + (j:Int).toNat * 1]? = some (.loc 3 0):=by
      rw [Nat.zero_add,Nat.mul_one,Int.toNat_natCast,List.getElem?_set_self]
      rw [List.length_append];unfold jb;rw [List.length_map,List.length_range];omega
     refine dc rfl (stepC_ld rfl rfl rfl hcj) trivial rfl rfl rfl hdT rfl ?_
     refine dc rfl rfl trivial rfl rfl rfl hdT rfl ?_
     refine dc rfl rfl trivial rfl rfl rfl hdT rfl ?_
     refine dc rfl rfl ⟨by omega,by omega⟩ rfl rfl rfl hdT rfl ?_
     refine dc rfl (stepC_ld rfl rfl rfl hcj) trivial rfl rfl rfl hdT rfl ?_
     refine dc rfl rfl trivial rfl rfl rfl hdT rfl ?_
     refine dc rfl rfl trivial rfl rfl rfl hdT rfl ?_
     refine dc rfl rfl trivial rfl rfl rfl hdT rfl ?_
     refine dc rfl rfl trivial rfl rfl rfl hdT rfl ?_
     refine dc rfl rfl trivial rfl rfl rfl hdT rfl ?_
     (apply dc;exact rfl;exact rfl;(omega);((with_reducible apply hv_row);(exact rfl);(omega));exact rfl;exact rfl;exact hdT;exact rfl)
     (apply dc;exact rfl;exact rfl;(with_reducible exact trivial);(with_reducible exact rfl);exact rfl;exact rfl;exact hdT;exact rfl)
     (apply dc;exact rfl;exact rfl;(with_reducible exact trivial);(with_reducible exact rfl);exact rfl;exact rfl;exact hdT;exact rfl)
     have hgl3:(gs2[j].2).length≤2000:=by rw [List.length_map] at hgl2;exact hgl2
     (apply dt_trade;exact rfl;exact rfl;exact rfl;(unfold maxLen;simp <;> omega);exact rfl;exact rfl;exact rfl;exact hdT;exact rfl;exact rfl)
     refine dt_nil hdT2 ?_
     repeat' (first|refine z0 ?_|apply ag|refine z16 ?_|apply aa|apply bg|refine z3 ?_|fail)
     have hal:r.terms.length - 1 < (aW r ways[i]).length:=by unfold aW;rw [List.length_map];omega
     have hgd:(pW r ways[i]).2=(aW r ways[i])[r.terms.length - 1]:=by
      show (aW r ways[i]).getD (r.terms.length - 1) 0=_
      rw [List.getD_eq_getElem?_getD,List.getElem?_eq_getElem hal];rfl
     rw [hgd] at hst
     have hne:gs2.set j (gs2[j].1,gs2[j].2++[(aW r ways[i])[r.terms.length - 1]])≠[]:=fun h=>by
      have:=congrArg List.length h
      rw [List.length_set,List.length_nil] at this
      omega
     refine⟨(i + 1,cap'),⟨hi,by rw [hst,List.length_set];exact c2,c3⟩,?_,by dsimp only;omega⟩
     dsimp only
     have e1:=slT_ne (cap:=cap') hne
     have e2:=stT_ne (r:=r) (cap:=cap') hne
     unfold slT at e1
     unfold stT at e2
     rw [hst,e1,e2,List.length_set]
     subst hT
     refine ap (rhoB j) ?_ ?_ ?_ ?_ ?_ ?_ ?_ ?_
     ·exact⟨rfl,rfl,rfl,rfl,rfl,rfl,rfl,rfl,trivial⟩
     ·refine⟨rfl,rfl,?_,KnowsH_of (knows_back hj2 hn1)⟩
      simp only [HB.ren,cells_back hj2]
      rfl
     ·rfl
     ·simp only [Hp.low,Bool.and_eq_true]
      exact⟨rfl,rfl,rfl,rfl,rfl,cells_low0 hn1,gHp_low _ 0 (by rw [List.length_set];omega)⟩
     ·refine cw ?_
      have h:=back_rho (j:=j) (gs:=gs2.set j (gs2[j].1,gs2[j].2++[(aW r ways[i])[r.terms.length - 1]])) (by rw [List.length_set];exact hn1)
      simp only [List.map_append,List.map_map] at h
      exact h
     ·refine cw ?_
      exact (back_ids (gs:=gs2.set j (gs2[j].1,gs2[j].2++[(aW r ways[i])[r.terms.length - 1]])) (by rw [List.length_set];exact hn1)).1
     ·rfl
     ·rfl
   | some j =>
    have hj2:j < (g::gs).length:=(List.findIdx?_eq_some_iff_findIdx_eq.1 hf).1
    rw [show idxF (fun g=>decide (g.1=(aW r ways[i]).take (r.terms.length - 1))) (g::gs)=(j:Int) by unfold idxF;rw [hf]]
    repeat' ((fail_if_success (apply bz 19));(first|refine z0 ?_|apply ag|apply ae|refine z16 ?_|apply ai|refine z19 ?_|apply aa))
    all_goals try (exfalso;omega)
    have hn1:(g::gs).length≤2000:=by omega
    refine ba (ap (rhoJ j) (k':=5000)
     (L':=[(1,.d (.slice 1 (ways.map jp))),(2,.loc 0 0),(5,.nils),(8,.sl 2 0 (g::gs).length cap),(9,.loc 1 0),(12,.loc 6 0),(13,.d (.int .i64 j)),(44,.d (.slice 1 (ways.map jp))),(45,.d (.int .i64 ways.length)),(46,.d (.int .i64 i))])
     (H':=(3,.blk 226 [.d (.slice 1 (((g::gs)[j]'hj2).1.map bi)),.row 4])::(4,.row 3 1 (((g::gs)[j]'hj2).2.map bi))::(2,.blk 224 ((jb 0 (g::gs).length++List.replicate (cap - (g::gs).length) SV.junk).set j (.loc 3 0)))::(6,.blk 22 [.d (.slice 1 ((aW r ways[i]).map bi))]) ::
      (0,.blk 77 [.d (.int .i64 r.pred),.d (.slice 2 (r.terms.map bw)),.d (.int .i64 r.fold),.d (.slice 4 (r.body.map bt)),.d (.int .i64 r.vars)])::(1,.blk 3 [.d (.int .i64 ((r.terms.length - 1:Nat):Int))])::gTl j (g::gs))
     ?_ ?_ ?_ ?_ ?_ ?_ ?_ ?_) ?_
    ·exact⟨rfl,rfl,rfl,rfl,rfl,rfl,rfl,rfl,rfl,rfl,trivial⟩
    ·refine⟨(i4 (pre:=[(_,_),(_,_),(_,_),(_,_)]) (fun q hq=>?_)).trans (gHp_blk (g::gs) 0 j hj2),(i4 (pre:=[(_,_),(_,_),(_,_),(_,_)]) (fun q hq=>?_)).trans (gHp_row (g::gs) 0 j hj2),?_,rfl,rfl,rfl,KnowsH_of (knows_tl (pre:=[(_,_),(_,_),(_,_),(_,_)]) (fun q hq=>?_) hn1)⟩
     ·simp only [List.mem_cons,List.not_mem_nil,or_false] at hq
      rcases hq with rfl|rfl|rfl|rfl <;> (show _≠2 * (0 + j) + 100;omega)
     ·simp only [List.mem_cons,List.not_mem_nil,or_false] at hq
      rcases hq with rfl|rfl|rfl|rfl <;> (show _≠2 * (0 + j) + 101;omega)
     ·simp only [HB.ren,cells_ren hj2]
      rfl
     ·simp only [List.mem_cons,List.not_mem_nil,or_false] at hq
      rcases hq with rfl|rfl|rfl|rfl <;> simp
    ·rfl
    ·simp only [Hp.low,Bool.and_eq_true]
     exact⟨rfl,rfl,rfl,rfl,rfl,cells_low hn1,rfl,rfl,rfl,rfl,rfl,rfl,gTl_low hn1⟩
    ·refine cw ?_
     simp only [List.map_cons,gTl_rho]
     exact gm (a:=[2 * (0 + j) + 100,2 * (0 + j) + 101,2,5000,0,1]) hn1 (by simp;omega) (by simp)
    ·refine cw ?_
     simp only [List.map_cons]
     exact gm (a:=[3,4,2,6,0,1]) hn1 (by simp) (by simp)
    ·rfl
    ·rfl
    have hst:=gsT_succ (r:=r) hi
    rw [hgs,addG_some (w:=pW r ways[i]) hj2 hf] at hst
    have hgl2:((g::gs)[j].2.map bi).length≤2000:=by
     rw [List.length_map]
     have hinv:InvG (g::gs) ((ways.take i).map (pW r)):=by rw [← hgs];exact groups_inv _
     have hv:=hinv.vals _ (List.getElem_mem hj2)
     rw [hv]
     unfold grpL
     rw [List.length_map]
     refine Nat.le_trans (List.length_filter_le _ _) ?_
     rw [List.length_map,List.length_take];omega
    have c2:=g2
    have c3:=g3
    have hdT:bm (3::4::2::6::0::1::(gTl j (g::gs)).map (·.1))=true:=cw (gm (a:=[3,4,2,6,0,1]) hn1 (by simp) (by simp))
    have hdT2:bm (5016::3::2::6::0::1::(gTl j (g::gs)).map (·.1))=true:=cw (gm (a:=[5016,3,2,6,0,1]) hn1 (by simp) (by simp))
    generalize hT:gTl j (g::gs)=T at hdT hdT2 ⊢
    refine jq 17 (by kernel_rfl) (by kernel_rfl) (by kernel_rfl) rfl rfl rfl ?_
    refine dc rfl rfl trivial rfl rfl rfl hdT rfl ?_
    refine dc rfl rfl trivial rfl rfl rfl hdT rfl ?_
    refine dc rfl rfl ?_ rfl rfl rfl hdT rfl ?_
    ·exact⟨by omega,by omega⟩
    have hcj:((jb 0 (g::gs).length++List.replicate (cap - (g::gs).length) SV.junk).set j (.loc 3 0))[0 + (j:Int).toNat * 1]? = some (.loc 3 0):=by
     rw [Nat.zero_add,Nat.mul_one,Int.toNat_natCast,List.getElem?_set_self]
     rw [List.length_append];unfold jb;rw [List.length_map,List.length_range];omega
    refine dc rfl (stepC_ld rfl rfl rfl hcj) trivial rfl rfl rfl hdT rfl ?_
    refine dc rfl rfl trivial rfl rfl rfl hdT rfl ?_
    refine dc rfl rfl trivial rfl rfl rfl hdT rfl ?_
    refine dc rfl rfl ⟨by omega,by omega⟩ rfl rfl rfl hdT rfl ?_
    refine dc rfl (stepC_ld rfl rfl rfl hcj) trivial rfl rfl rfl hdT rfl ?_
    refine dc rfl rfl trivial rfl rfl rfl hdT rfl ?_
    refine dc rfl rfl trivial rfl rfl rfl hdT rfl ?_
    refine dc rfl rfl trivial rfl rfl rfl hdT rfl ?_
    refine dc rfl rfl trivial rfl rfl rfl hdT rfl ?_
    refine dc rfl rfl trivial rfl rfl rfl hdT rfl ?_
    (apply dc;exact rfl;exact rfl;(omega);((with_reducible apply hv_row);(exact rfl);(omega));exact rfl;exact rfl;exact hdT;exact rfl)
    (apply dc;exact rfl;exact rfl;(with_reducible exact trivial);(with_reducible exact rfl);exact rfl;exact rfl;exact hdT;exact rfl)
    (apply dc;exact rfl;exact rfl;(with_reducible exact trivial);(with_reducible exact rfl);exact rfl;exact rfl;exact hdT;exact rfl)
    have hgl3:((g::gs)[j].2).length≤2000:=by rw [List.length_map] at hgl2;exact hgl2
    (apply dt_trade;exact rfl;exact rfl;exact rfl;(unfold maxLen;simp <;> omega);exact rfl;exact rfl;exact rfl;exact hdT;exact rfl;exact rfl)
    refine dt_nil hdT2 ?_
    repeat' (first|refine z0 ?_|apply ag|refine z16 ?_|apply aa|apply bg|refine z3 ?_|fail)
    have hal:r.terms.length - 1 < (aW r ways[i]).length:=by unfold aW;rw [List.length_map];omega
    have hgd:(pW r ways[i]).2=(aW r ways[i])[r.terms.length - 1]:=by
     show (aW r ways[i]).getD (r.terms.length - 1) 0=_
     rw [List.getD_eq_getElem?_getD,List.getElem?_eq_getElem hal];rfl
    rw [hgd] at hst
    have hne:(g::gs).set j ((g::gs)[j].1,(g::gs)[j].2++[(aW r ways[i])[r.terms.length - 1]])≠[]:=fun h=>by
     have:=congrArg List.length h
     rw [List.length_set,List.length_nil] at this
     omega
    refine⟨(i + 1,cap),⟨hi,by rw [hst,List.length_set];exact c2,c3⟩,?_,by dsimp only;omega⟩
    dsimp only
    have e1:=slT_ne (cap:=cap) hne
    have e2:=stT_ne (r:=r) (cap:=cap) hne
    unfold slT at e1
    unfold stT at e2
    rw [hst,e1,e2,List.length_set]
    subst hT
    refine ap (rhoB j) ?_ ?_ ?_ ?_ ?_ ?_ ?_ ?_
    ·exact⟨rfl,rfl,rfl,rfl,rfl,rfl,rfl,rfl,trivial⟩
    ·refine⟨rfl,rfl,?_,KnowsH_of (knows_back hj2 hn1)⟩
     simp only [HB.ren,cells_back hj2]
     rfl
    ·rfl
    ·simp only [Hp.low,Bool.and_eq_true]
     exact⟨rfl,rfl,rfl,rfl,rfl,cells_low0 hn1,gHp_low _ 0 (by rw [List.length_set];omega)⟩
    ·refine cw ?_
     have h:=back_rho (j:=j) (gs:=(g::gs).set j ((g::gs)[j].1,(g::gs)[j].2++[(aW r ways[i])[r.terms.length - 1]])) (by rw [List.length_set];exact hn1)
     simp only [List.map_append,List.map_map] at h
     exact h
    ·refine cw ?_
     exact (back_ids (gs:=(g::gs).set j ((g::gs)[j].1,(g::gs)[j].2++[(aW r ways[i])[r.terms.length - 1]])) (by rw [List.length_set];exact hn1)).1
    ·rfl
    ·rfl
 ·have hiw:i=ways.length:=by omega
  subst hiw
  have hgi:=hgl ways.length
  have hgr:gsT r ways ways.length=groupsL (ways.map (pW r)):=by unfold gsT;rw [List.take_of_length_le (Nat.le_refl _)]
  refine ba (ent_groups (by omega) rfl) ?_
  rw [hgr] at hgi ⊢
  have hinv:=groups_inv (ways.map (pW r))
  generalize hG:groupsL (ways.map (pW r))=gs at hgi hinv ⊢
  have lg:(gs.map encG).length=gs.length:=List.length_map _
  have hset:bq (gs.filterMap (headG r))=bq (ma r ways):=by
   have h1:=heads_set (r:=r) (ways:=ways) hok.rul.fold (fun w hw=>pW_num hok hw) (by omega)
   unfold headsP at h1
   rw [if_neg h0,hG] at h1
   exact h1
  have wset:=set_fn (gs.filterMap (headG r)) (Nat.le_trans (List.length_filterMap_le _ _) (by omega)) (fun x hx=>by
   obtain⟨g,hg,hx⟩:=List.mem_filterMap.1 hx
   unfold headG at hx
   split at hx
   ·simp only [Option.some.injEq] at hx
    subst hx
    have:=(grp_ok hok hinv hg).2.2.2
    rw [List.length_append,List.length_singleton];omega
   ·cases hx)
  rw [hset] at wset
  repeat' ((fail_if_success (apply mf 21));(first|refine z0 ?_|apply ag|apply ae|refine z16 ?_|apply ah|apply ai|apply au|apply aa|apply aq|refine z17 ?_|(refine z23 ?_ ?_ <;> intro hg)|fail))
  all_goals try (exfalso;omega)
  refine ba (ea (t:=5) 58 2 rfl) ?_
  repeat' (first|refine z0 ?_|apply ag|apply ae|refine z16 ?_|apply ah|apply aa)
  refine bh (ι:=Nat) (fun j=>⟨4,[(2,.loc 0 0),(5,.row 3),(89,.d (.slice 1 (gs.map encG))),(90,.d (.int .i64 gs.length)),(91,.d (.int .i64 j))],
    [(0,.blk 77 [.d (.int .i64 r.pred),.d (.slice 2 (r.terms.map bw)),.d (.int .i64 r.fold),.d (.slice 4 (r.body.map bt)),.d (.int .i64 r.vars)]),(3,.row 58 2 (((gs.take j).filterMap (headG r)).map a6))]⟩)
   (fun j=>j≤gs.length) (fun j=>gs.length - j) 0 (Nat.zero_le _) (ap (fun j=>match j with|3=>5000|j=>j) ⟨rfl,rfl,rfl,by rw [← lg];rfl,rfl,trivial⟩ ⟨rfl,rfl,trivial⟩ rfl rfl rfl rfl rfl rfl) ?_
  intro j g4
  dsimp only at g4 ⊢
  by_cases hj:j < gs.length
  ·have hgm:=List.getElem_mem hj
   obtain⟨q1,q2,q3,q4⟩:=grp_ok hok hinv hgm
   have wf:=folded_fn r.fold gs[j].2 q1 q2 q3
   have wc:=cloneW_fn gs[j].1 (by omega)
   have hst:=filterMap_take (headG r) hj
   have lo:((gs.take j).filterMap (headG r)).length≤j:=filterMap_len _ _ _
   have l1:(gs[j].1.map bi).length=gs[j].1.length:=List.length_map _
   repeat' ((fail_if_success (apply kb 24));(first|refine z0 ?_|apply ag|apply ae|refine z16 ?_|apply ah|apply ai|apply au|apply aa|apply aq|refine z17 ?_|(refine z23 ?_ ?_ <;> intro hg)|fail))
   all_goals try (exfalso;omega)
   refine ba (ent_pd 15 rfl) ?_
   repeat' (first|refine z0 ?_|apply ag|refine z5 ?_|refine z10 ?_|apply ae|refine z16 ?_|refine z20 ?_|apply ai|apply aa|apply bg|refine z22 ?_ (hc:=by apply wf)|(apply c7;exact rfl;all_goals intro hg))
   all_goals try (exfalso;omega)
   ·have hhd:headG r gs[j]=some ⟨r.pred,gs[j].1++[valP r.fold gs[j].2]⟩:=by unfold headG;rw [if_pos (by assumption)]
    rw [hhd] at hst
    refine dt_callW rfl rfl wc rfl rfl rfl rfl ⟨_,rfl⟩ ?_
    rintro _ rfl
    clear wf wc
    repeat' (first|refine z0 ?_|apply ag|refine z5 ?_|refine z8 ?_|refine z9 ?_|refine z11 ?_|refine z16 ?_|apply aa|apply bg)
    refine⟨j + 1,hj,ap (fun j=>match j with|3=>17|j=>j) ⟨rfl,rfl,rfl,rfl,rfl,trivial⟩ ⟨rfl,?_,trivial⟩ rfl rfl rfl rfl rfl rfl,by omega⟩
    rw [hst,List.map_append,Option.toList_some]
    show _=some (HB.row _ _ (_++[[_,D.slice 1 ((gs[j].1++[valP r.fold gs[j].2]).map bi)]]))
    rw [List.map_append]
    rfl
   ·have hhd:headG r gs[j]=none:=by unfold headG;rw [if_neg (by simp_all)]
    rw [hhd,Option.toList_none,List.append_nil] at hst
    exact⟨j + 1,hj,ap id ⟨rfl,rfl,rfl,rfl,rfl,trivial⟩ ⟨rfl,by rw [hst];rfl,trivial⟩ rfl rfl rfl rfl rfl rfl,by omega⟩
  ·rw [List.take_of_length_le (by omega)]
   repeat' (first|refine z0 ?_|apply ag|refine z5 ?_|apply ae|refine z16 ?_|refine z20 ?_|apply ah|apply ai|apply au|apply aa|apply aq|refine z17 ?_|(refine z23 ?_ ?_ <;> intro hg)|fail)
   all_goals try (exfalso;omega)
   refine ds_ent (dp 121 rfl rfl rfl) ?_
   repeat' (first|refine z0 ?_|apply ag|apply aj|apply aa|refine z21 ?_ (hc:=by apply wset)|fail)
   exact⟨.inl rfl,_,rfl,rfl,rfl⟩
def smallP:Prg:=⟨[2,2],[⟨#[113]⟩,⟨#[112]⟩],[⟨1,[⟨0,0⟩,⟨1,0⟩],0,[⟨1,0,0,[⟨0,0⟩,⟨1,0⟩]⟩],2⟩,⟨1,[⟨0,0⟩,⟨2,0⟩],0,[⟨1,0,1,[⟨0,0⟩,⟨1,0⟩]⟩,⟨1,0,0,[⟨1,0⟩,⟨2,0⟩]⟩],3⟩]⟩
def pairsF:List Fct:=[⟨0,[1,2]⟩,⟨0,[2,3]⟩]
def fullF:List Fct:=[⟨0,[1,2]⟩,⟨0,[2,3]⟩,⟨1,[1,2]⟩,⟨1,[1,3]⟩,⟨1,[2,3]⟩]
set_option maxHeartbeats 8000000 in
theorem lsmall_fn:Fn 11 [] (fun res=>res=jl smallP):=by
 refine ak _ Tryz.func11 rfl rfl (by kernel_rfl) ?_
 intro O w0 E0 β0
 repeat' (first|refine z0 ?_|apply ag|apply ae|refine z16 ?_|apply aj|apply aa|refine z1 ?_|refine z3 ?_|refine z4 ?_|fail)
 exact⟨.inl rfl,_,rfl,rfl,rfl⟩
set_option maxHeartbeats 8000000 in
theorem j8 (p:Int) (l:List Int):Fn 16 [.d (.int .i64 p),.d (.slice 1 (l.map bi))] (fun r=>r=ey ⟨p,l⟩):=by
 refine ak _ Tryz.func16 rfl rfl (by kernel_rfl) ?_
 intro O w0 E0 β0
 repeat' (first|refine z0 ?_|apply ag|apply ae|refine z16 ?_|apply aj|apply aa|refine z1 ?_|refine z3 ?_|fail)
 exact⟨.inl rfl,_,rfl,rfl,rfl⟩
set_option maxHeartbeats 8000000 in
theorem lpairs_fn:Fn 18 [] (fun r=>r = .d (.slice 2 (pairsF.map a6))):=by
 refine ak _ Tryz.func18 rfl rfl (by kernel_rfl) ?_
 intro O w0 E0 β0
 have e1:=j8 0 [1,2]
 have e2:=j8 0 [2,3]
 repeat' (first|refine z0 ?_|apply ag|apply ae|refine z16 ?_|apply aj|apply aa|refine z21 ?_ (hc:=by apply e1)|refine z21 ?_ (hc:=by apply e2)|refine z4 ?_|fail)
 exact⟨.inl rfl,_,rfl,rfl,rfl⟩
set_option maxHeartbeats 8000000 in
theorem lfull_fn:Fn 14 [] (fun r=>r = .d (.slice 2 (fullF.map a6))):=by
 refine ak _ Tryz.func14 rfl rfl (by kernel_rfl) ?_
 intro O w0 E0 β0
 have e1:=j8 0 [1,2]
 have e2:=j8 0 [2,3]
 have e3:=j8 1 [1,2]
 have e4:=j8 1 [1,3]
 have e5:=j8 1 [2,3]
 repeat' (first|refine z0 ?_|apply ag|apply ae|refine z16 ?_|apply aj|apply aa|refine z21 ?_ (hc:=by apply e1)|refine z21 ?_ (hc:=by apply e2)|refine z21 ?_ (hc:=by apply e3)|refine z21 ?_ (hc:=by apply e4)|refine z21 ?_ (hc:=by apply e5)|refine z4 ?_|fail)
 exact⟨.inl rfl,_,rfl,rfl,rfl⟩
theorem hasF_set (m:List Fct) (x:Fct):hasF (bq m) x=hasF m x:=by
 rw [Bool.eq_iff_iff,hasF_iff,hasF_iff,(bn m).2]
theorem minus_same (l m:List Fct):(l.filter fun x=>!hasF (bq m) x)=eh l m:=by
 unfold eh
 exact List.filter_congr fun x _=>by rw [hasF_set]
theorem Fct.same_refl (x:Fct):Fct.same x x=true:=by unfold Fct.same;simp [kw]
theorem mem_minus {l m:List Fct} {x:Fct}:x∈eh l m↔x∈l∧x ∉ m:=by
 unfold eh
 rw [List.mem_filter]
 have:hasF m x=true↔x∈m:=hasF_iff
 cases h:hasF m x <;> simp_all
theorem set_ext {l m:List Fct} (h:∀ x,x∈l↔x∈m):bq l=bq m :=
 ir (bn l).1 (bn m).1 fun x=>by rw [(bn l).2,(bn m).2,h]
theorem set_set (l:List Fct):bq (bq l)=bq l:=set_ext fun x=>(bn l).2 x
section
variable {Γ : Ctx} {k : Nat} {L : Sl} {H : Hp} {t ty : TypeId} {x : Operand}
end

def kh:Rul:=⟨1,[⟨0,0⟩,⟨2,0⟩],0,[⟨1,0,1,[⟨0,0⟩,⟨1,0⟩]⟩,⟨1,0,0,[⟨1,0⟩,⟨2,0⟩]⟩],3⟩
theorem made_fn (arity:List Int) (r:Rul) (ways:List (List Int)) (hok:HeadOk arity r ways):Fn 143 [elRul r,.d (.slice 1 (ways.map jp))] (fun res=>res = .d (.slice 2 ((bq (ma r ways)).map a6))):=by
 by_cases h0:r.fold=0
 ·exact made0_fn arity r ways hok h0
 ·exact madeF_fn arity r ways hok h0
theorem sameF_eq (a:List Fct):fx Fct.same a a=true:=kj (fun x=>by unfold Fct.same;simp [kw]) a
end Go.Proofs.YtapciiffpnociaaGreat
