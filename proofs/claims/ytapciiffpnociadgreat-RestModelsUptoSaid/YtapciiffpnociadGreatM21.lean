/- Several texts in one: RuGq Small RelX RelB RelC. Condition: none. -/
import Derived.Test.YtapciiffpnociadGreatM20
import Derived.Test.YtapciiffpnociadGreatM18
import Derived.Test.YtapciiffpnociadGreatM10
import Derived.Test.YtapciiffpnociadGreatM12
set_option linter.all false
set_option maxHeartbeats 8000000
open Bool renaming and_eq_true→Ad,not_eq_true'→G8
open Int renaming toNat_natCast→Fj
open List renaming append_nil→B0,cons_append→Cd,ext_getElem?→Dz,filter_append→C3,getD_eq_getElem?_getD→Dm,getElem?_append_left→Bi,getElem?_append_right→A8,getElem?_eq_getElem→Ab,getElem?_map→Bl,getElem?_set→Eb,getElem?_set_self→By,getElem_cons_succ→D8,getElem_cons_zero→Dl,getElem_map→C5,getElem_mem→Ag,getElem_set_self→Gj,length→B8,length_append→Ap,length_cons→Bn,length_filter_le→Cj,length_map→Aa,length_nil→Di,length_range→Ds,length_set→A3,length_singleton→Bh,length_take→Au,map_append→Av,map_congr_left→Df,map_cons→A7,map_map→D7,mem_cons→Be,mem_cons_of_mem→Ah,mem_cons_self→Ae,mem_of_getElem?→B5,not_mem_nil→Bz,replicate→An,sum_append→E5,take_append_of_le_length→Cc,take_of_length_le→Ak,take_succ_eq_append_getElem→Am
open Nat renaming beq→Aw,beq_refl→E7,ble_eq_true_of_le→Dn,eq_of_beq_eq_true→Aj,le_of_ble_eq_true→Ac,le_refl→Af,le_trans→Ar,mul_one→Dq,ne_of_beq_eq_false→Bj,zero_add→Da,zero_le→Ai
open Option renaming map_some→B3
namespace Go.Proofs.YtapciiffpnociadGreat
open Go Go.RowKit
variable [Bnds]
theorem ga {a b:Nat} (h:a≠b):Aw a b=false:=by
 cases hb:Aw a b with
 | true=>exact absurd (Aj hb) h
 | false=>rfl
def gHp:Nat->List Gr->Hp
 | _,[]=>[]
 | j,g::gs=>(2*j+100,.blk 176 [.d (.slice 1 (g.1.map ah)),.row (2*j+101)])::(2*j+101,.row 3 1 (g.2.map ah))::gHp (j+1) gs
def jv (j n:Nat):List SV:=(List.range n).map λi=>.loc (2*(j+i)+100) 0
theorem uu:∀ (gs:List Gr) (j i:Nat) (h:i<gs.length),Hp.get (gHp j gs) (2*(j+i)+100)=some (.blk 176 [.d (.slice 1 ((gs[i]'h).1.map ah)),.row (2*(j+i)+101)])
 | g::gs,j,i,h=>by
  cases i with
  | zero =>
   simp only [gHp,Hp.get,Nat.add_zero,Dl]
   rw [show Aw (2*j+100) (2*j+100)=true from E7 _]
  | succ i =>
   simp only [gHp,Hp.get,D8]
   rw [ga (by omega:2*j+100≠2*(j+(i+1))+100),ga (by omega:2*j+101≠2*(j+(i+1))+100)]
   simp only
   rw [show 2*(j+(i+1))+100=2*((j+1)+i)+100 by omega,show 2*(j+(i+1))+101=2*((j+1)+i)+101 by omega]
   exact uu gs (j+1) i (by simpa using h)
theorem ur:∀ (gs:List Gr) (j i:Nat) (h:i<gs.length),Hp.get (gHp j gs) (2*(j+i)+101)=some (.row 3 1 ((gs[i]'h).2.map ah))
 | g::gs,j,i,h=>by
  cases i with
  | zero =>
   simp only [gHp,Hp.get,Nat.add_zero,Dl]
   rw [ga (by omega:2*j+100≠2*j+101),show Aw (2*j+101) (2*j+101)=true from E7 _]
  | succ i =>
   simp only [gHp,Hp.get,D8]
   rw [ga (by omega:2*j+100≠2*(j+(i+1))+101),ga (by omega:2*j+101≠2*(j+(i+1))+101)]
   simp only
   rw [show 2*(j+(i+1))+101=2*((j+1)+i)+101 by omega]
   exact ur gs (j+1) i (by simpa using h)
theorem ut:∀ (gs:List Gr) (j:Nat) (p:Nat×HB),p∈gHp j gs->∃ i,∃ h:i<gs.length,p=(2*(j+i)+100,.blk 176 [.d (.slice 1 ((gs[i]'h).1.map ah)),.row (2*(j+i)+101)])∨p=(2*(j+i)+101,.row 3 1 ((gs[i]'h).2.map ah))
 | [],_,_,h=>by simp [gHp] at h
 | g::gs,j,p,h=>by
  simp only [gHp,Be] at h
  rcases h with rfl|rfl|h
  ·exact⟨0,by simp,.inl rfl⟩
  ·exact⟨0,by simp,.inr rfl⟩
  ·obtain⟨i,hi,h⟩:=ut gs (j+1) p h
   refine⟨i+1,by simpa using hi,?_⟩
   rw [show j+(i+1)=j+1+i by omega]
   simpa using h
theorem gHp_nodup:∀ (gs:List Gr) (j:Nat),((gHp j gs).map (·.1)).Nodup
 | [],_=>by simp [gHp]
 | g::gs,j=>by
  simp only [gHp,A7,List.nodup_cons,Be,not_or]
  refine⟨⟨by omega,λh=>?_⟩,λh=>?_,gHp_nodup gs (j+1)⟩
  ·obtain⟨p,hp,he⟩:=List.mem_map.1 h
   obtain⟨i,hi,h|h⟩:=ut gs (j+1) p hp<;>subst h<;>simp only at he<;>omega
  ·obtain⟨p,hp,he⟩:=List.mem_map.1 h
   obtain⟨i,hi,h|h⟩:=ut gs (j+1) p hp<;>subst h<;>simp only at he<;>omega
theorem gHp_ge {gs:List Gr} {j:Nat} {p:Nat×HB} (h:p∈gHp j gs):2*j+100<=p.1/\p.1<2*(j+gs.length)+100:=by
 obtain⟨i,hi,h|h⟩:=ut gs j p h<;>subst h<;>simp only<;>omega
theorem cq {l:List Nat} (h:l.Nodup):a7 l=true:=by
 induction l with
 | nil=>rfl
 | cons x l ih =>
  obtain⟨h1,h2⟩:=List.nodup_cons.1 h;have hn:∀ (r:List Nat),x ∉ r->notIn x r=true:=by
   intro r;induction r with
   | nil=>intro _;rfl
   | cons y r ih2 =>
    intro hx;rw [Be,not_or] at hx;simp only [notIn,Ad,G8];exact⟨ga hx.1,ih2 hx.2⟩
  simp only [a7,Ad];exact⟨hn l h1,ih h2⟩
theorem gHp_low {k:Nat}:∀ (gs:List Gr) (j:Nat),2*(j+gs.length)+100<=k->Hp.low k (gHp j gs)=true
 | [],_,_=>rfl
 | g::gs,j,h=>by
  rw [Bn] at h
  simp only [gHp,Hp.low,Ad]
  refine⟨Dn (by omega),?_,Dn (by omega),rfl,gHp_low gs (j+1) (by omega)⟩
  show SV.lowL k _=true
  simp only [SV.lowL,SV.low,Ad,Bool.true_and]
  exact⟨Dn (by omega),trivial⟩
def gsT (r:Rul) (ways:List (List Int)) (i:Nat):List Gr:=uo ((ways.take i).map (pW r))
def slT (gs:List Gr) (cap:Nat):SV:=match gs with
 | []=>.nils
 | g::gs=>.sl 2 0 (g::gs).length cap
def stT (r:Rul) (gs:List Gr) (cap:Nat):Hp:=match gs with
 | []=>[(0,.blk 64 [.d (.int .i64 r.pred),.d (.slice 2 (r.terms.map aw)),.d (.int .i64 r.fold),.d (.slice 4 (r.body.map ay)),.d (.int .i64 r.vars)]),(1,.blk 3 [.d (.int .i64 ((r.terms.length-1:Nat):Int))])]
 | g::gs=>(0,.blk 64 [.d (.int .i64 r.pred),.d (.slice 2 (r.terms.map aw)),.d (.int .i64 r.fold),.d (.slice 4 (r.body.map ay)),.d (.int .i64 r.vars)])::(1,.blk 3 [.d (.int .i64 ((r.terms.length-1:Nat):Int))]) ::
  (2,.blk 174 (jv 0 (g::gs).length++An (cap-(g::gs).length) .junk))::gHp 0 (g::gs)
theorem addG_len (gs:List Gr) (w:List Int×Int):(addG gs w).length<=gs.length+1:=by
 unfold addG;split
 ·rw [A3];omega
 ·simp
theorem foldG_len:∀ (ws:List (List Int×Int)) (gs:List Gr),(ws.foldl addG gs).length<=gs.length+ws.length
 | [],_=>by simp
 | w::ws,gs=>by
  rw [List.foldl_cons]
  have h1:=foldG_len ws (addG gs w)
  have h2:=addG_len gs w
  rw [Bn];omega
theorem groupsL_len (r:Rul) (ways:List (List Int)) {i:Nat}:(gsT r ways i).length<=i:=by
 have h:=foldG_len ((ways.take i).map (pW r)) [];rw [Aa,Au] at h;unfold gsT uo;simp only [Di] at h;omega
theorem renL_junk (ρ:Nat->Nat):∀ n,SV.renL ρ (An n .junk)=An n .junk
 | 0=>rfl
 | n+1=>by rw [List.replicate_succ];simp only [SV.renL,SV.ren,renL_junk ρ n]
section
variable {Γ : Ctx} {k : Nat} {L : Sl} {H : Hp} {a : Act} {w : World} {e : Env}
theorem lend_pd (m:Models Γ k L H e a w) {id:Nat} {ds:List D} (hb:BlkOk (λ_=>True) H id ds) {X:Nat->Prop} {v:Value} (hr:Rel X e w (.loc id 0) v):Rel Γ.O e w (.pd ds) v :=
 ptr_pd (ptr_rep m (X':=Γ.O) (λ_ ho=>.inl ho) (λp hp _ b hb ho=>(m.mine b (List.mem_filterMap.2 ⟨p,hp,hb⟩)).2 ho) hb hr.2)
theorem lend_fn2 (m:Models Γ k L H e a w) {t f i j:Nat} {ds1 ds2:List D} (hy:L.get t = .fn f [.loc i 0,.loc j 0]) (h1:BlkOk (λ_=>True) H i ds1) (h2:BlkOk (λ_=>True) H j ds2):Rel Γ.O e w (.fn f [.pd ds1,.pd ds2]) (a.eval (.tmp t)):=by
 have hs:=m.slot t;rw [hy] at hs;obtain⟨vs,h3,h4⟩:=hs;refine⟨vs,h3,?_⟩
 match vs,h4 with
 | [u,v],⟨q1,q2,_⟩=>exact⟨lend_pd m h1 q1,lend_pd m h2 q2,trivial⟩
theorem lend_sl (m:Models Γ k L H e a w) {t i n cap:Nat} {te:TypeId} {cs:List SV} {dss:List (List D)} (hx:L.get t = .sl i 0 n cap) (hH:Hp.get H i=some (.blk te cs)) (hn:dss.length=n)
  (hc:∀ j (h:j<dss.length),∃ id,cs[j]?=some (.loc id 0)/\BlkOk (λ_=>True) H id dss[j]):Rel Γ.O e w (.d (.slice 1 (dss.map λds=>[.ptr ds]))) (a.eval (.tmp t)):=by
 have hs:=m.slot t;rw [hx] at hs;exact ptrs_rep m (X':=Γ.O) (S:=λ_=>True) (λ_ ho=>.inl ho) (λp hp _ b hb ho=>(m.mine b (List.mem_filterMap.2 ⟨p,hp,hb⟩)).2 ho) trivial hH hn hc hs
theorem lend_nil (m:Models Γ k L H e a w) {t es:Nat} (hx:L.get t = .nils):Rel Γ.O e w (.d (.slice es [])) (a.eval (.tmp t)):=by
 have hs:=m.slot t;rw [hx] at hs;rw [show a.eval (.tmp t) = .slice none 0 0 from hs];exact .nil
theorem blk1 {S:Nat->Prop} {H:Hp} {id:Nat} {ty:TypeId} {d:D} (hS:S id) (h:Hp.get H id=some (.blk ty [.d d])):BlkOk S H id [d] :=
 ⟨hS,ty,_,h,λj hj=>by
  have:j=0:=by simpa using hj
  subst this;exact⟨.d d,rfl,.inl rfl⟩⟩
end
theorem jn:∀ {pre H:Hp} {t:Nat},(∀ p∈pre,p.1≠t)->Hp.get (pre++H) t=Hp.get H t
 | [],_,_,_=>rfl
 | (d,s)::pre,H,t,h=>by
  rw [Cd]
  simp only [Hp.get]
  rw [ga (h (d,s) (Ae ..))]
  exact jn λp hp=>h p (Ah _ hp)
theorem grpBlk {pre:Hp} {gs:List Gr} {j:Nat} (hj:j<gs.length) (hp:∀ p∈pre,p.1<100∨5000<=p.1) (hl:gs.length<=2000) :
  BlkOk (λ_=>True) (pre++gHp 0 gs) (2*(0+j)+100) [.slice 1 ((gs[j]'hj).1.map ah),.slice 1 ((gs[j]'hj).2.map ah)]:=by
 refine⟨trivial,_,_,(jn λp hpp=>?_).trans (uu gs 0 j hj),λi hi=>?_⟩
 ·have:=hp p hpp;omega
 ·match i,hi with
  | 0,_=>exact⟨_,rfl,.inl rfl⟩
  | 1,_=>exact⟨_,rfl,.inr (.inl ⟨_,_,_,_,rfl,trivial,(jn λp hpp=>by have:=hp p hpp;omega).trans (ur gs 0 j hj),rfl⟩)⟩
theorem qw {n j:Nat} (h:j<n) (t:List SV):(jv 0 n++t)[j]?=some (.loc (2*(0+j)+100) 0):=by
 unfold jv;rw [Bi (by simpa using h),Bl,List.getElem?_range h];rfl
def dsG (g:Gr):List D:=[.slice 1 (g.1.map ah),.slice 1 (g.2.map ah)]
theorem om {ρ:Nat->Nat} {H:Hp}:∀ {H':Hp},(∀ p∈H',Hp.get H (ρ p.1)=some (p.2.ren ρ))->KnowsH ρ H H'
 | [],_=>trivial
 | (_,_)::_,h=>⟨h _ (Ae ..),om λp hp=>h p (Ah _ hp)⟩
def gTl (j:Nat) (gs:List Gr):Hp:=(gHp 0 gs).filter λp=>!(Aw p.1 (2*(0+j)+100)) && !(Aw p.1 (2*(0+j)+101))
def rhoJ (j x:Nat):Nat:=match Aw x 3 with
 | true=>2*(0+j)+100
 | false=>match Aw x 4 with
  | true=>2*(0+j)+101
  | false=>match Aw x 6 with
   | true=>5000
   | false=>x
theorem rhoJ_ge {j x:Nat} (h:100<=x):rhoJ j x=x:=by
 unfold rhoJ;rw [ga (by omega:x≠3),ga (by omega:x≠4),ga (by omega:x≠6)]
theorem knows_tl {pre:Hp} {gs:List Gr} {j:Nat} (hp:∀ p∈pre,p.1<100∨5000<=p.1) (hl:gs.length<=2000):∀ p∈gTl j gs,Hp.get (pre++gHp 0 gs) (rhoJ j p.1)=some (p.2.ren (rhoJ j)):=by
 intro p hpm;obtain⟨i,hi,h|h⟩:=ut gs 0 p (List.mem_filter.1 hpm).1
 ·subst h;rw [rhoJ_ge (by simp only;omega)];refine (jn λq hq=>by have:=hp q hq;simp only;omega).trans ((uu gs 0 i hi).trans ?_);simp only [HB.ren,SV.renL,SV.ren,rhoJ_ge (j:=j) (x:=2*(0+i)+101) (by omega)]
 ·subst h;rw [rhoJ_ge (by simp only;omega)];exact (jn λq hq=>by have:=hp q hq;simp only;omega).trans (ur gs 0 i hi)
theorem Hp_low_of {k:Nat}:∀ {H:Hp},(∀ p∈H,p.1<k/\p.2.low k=true)->Hp.low k H=true
 | [],_=>rfl
 | (i,b)::H,h=>by
  simp only [Hp.low,Ad]
  have:=h (i,b) (Ae ..)
  exact⟨Dn (by simp only at this;omega),this.2,Hp_low_of λp hp=>h p (Ah _ hp)⟩
theorem gTl_low {j:Nat} {gs:List Gr} (hl:gs.length<=2000):Hp.low 5000 (gTl j gs)=true:=by
 refine Hp_low_of λp hp=>?_
 have hp:=(List.mem_filter.1 hp).1;have h1:=Hp.low_spec _ (gHp_low (k:=5000) gs 0 (by omega)) p hp;exact h1
theorem gTl_ids {j:Nat} {gs:List Gr}:((gTl j gs).map (·.1)).Nodup/\∀ i∈(gTl j gs).map (·.1),100<=i/\i≠2*(0+j)+100/\i≠2*(0+j)+101:=by
 refine⟨(List.filter_sublist.map _).nodup (gHp_nodup gs 0),λi hi=>?_⟩
 obtain⟨p,hp,rfl⟩:=List.mem_map.1 hi;obtain⟨h1,h2⟩:=List.mem_filter.1 hp;simp only [Ad,G8] at h2;exact⟨by have:=gHp_ge h1;omega,Bj h2.1,Bj h2.2⟩
theorem gTl_lt {j:Nat} {gs:List Gr} (hl:gs.length<=2000):∀ i∈(gTl j gs).map (·.1),i<5000:=by
 intro i hi;obtain⟨p,hp,rfl⟩:=List.mem_map.1 hi;have:=gHp_ge (List.mem_filter.1 hp).1
 omega
theorem gp {j:Nat} {gs:List Gr} (hl:gs.length<=2000) {a:List Nat} (ha:a.Nodup) (hx:∀ x∈a,x<100∨5000<=x∨x=2*(0+j)+100∨x=2*(0+j)+101):(a++(gTl j gs).map (·.1)).Nodup:=by
 refine List.nodup_append.2 ⟨ha,gTl_ids.1,λx hxa y hy he=>?_⟩;subst he;have h1:=hx x hxa;have h2:=gTl_ids.2 x hy;have h3:=gTl_lt hl x hy;omega
theorem gTl_rho {j:Nat} {gs:List Gr}:(gTl j gs).map (λp=>rhoJ j p.1)=(gTl j gs).map (·.1) :=
 Df λp hp=>rhoJ_ge (gTl_ids.2 p.1 (List.mem_map.2 ⟨p,hp,rfl⟩)).1
theorem lowL_of {k:Nat}:∀ {l:List SV},(∀ s∈l,s.low k=true)->SV.lowL k l=true
 | [],_=>rfl
 | s::l,h=>by
  simp only [SV.lowL,Ad]
  exact⟨h s (Ae ..),lowL_of λt ht=>h t (Ah _ ht)⟩
theorem cells_low {n m j:Nat} (hn:n<=2000):SV.lowL 5000 ((jv 0 n++An m SV.junk).set j (.loc 3 0))=true:=by
 refine lowL_of λs hs=>?_
 rcases List.mem_or_eq_of_mem_set hs with hs|rfl
 ·rcases List.mem_append.1 hs with hs|hs
  ·unfold jv at hs;obtain⟨i,hi,rfl⟩:=List.mem_map.1 hs;have:=List.mem_range.1 hi
   exact Dn (by omega)
  ·rw [(List.mem_replicate.1 hs).2];rfl
 ·rfl
theorem renL_map (ρ:Nat->Nat):∀ (l:List SV),SV.renL ρ l=l.map (SV.ren ρ)
 | []=>rfl
 | s::l=>by simp only [SV.renL,A7,renL_map ρ l]
theorem cells_ren {j n m:Nat} (hj:j<n):SV.renL (rhoJ j) ((jv 0 n++An m SV.junk).set j (.loc 3 0))=jv 0 n++An m SV.junk:=by
 have h3:SV.ren (rhoJ j) (.loc 3 0) = .loc (2*(0+j)+100) 0:=rfl;have hid:(jv 0 n).map (SV.ren (rhoJ j))=jv 0 n:=by
  unfold jv;rw [D7];refine Df λi _=>?_
  show SV.loc (rhoJ j (2*(0+i)+100)) 0=_;rw [rhoJ_ge (by omega)]
 rw [renL_map,List.map_set,Av,hid,h3,List.map_replicate];exact r9 (qw hj _)
theorem r8 {τ:List (Nat×TI)} {g:Operand->SV} {η:Nat->Option HB} {z d id off:Nat} {t ty e:TypeId} {x:Operand} {cs:List SV} {s:SV} (ht:(aj τ t).sh = .ptr e) (hx:g x = .loc id off) (hη:η id=some (.blk ty cs)) (hc:cs[off]?=some s):ir τ g η z (some d) (.load t x)=some (True,s,.no):=by
 simp [ir,mc,evC,loadP,sp,ht,hx,hη,hc,ka]
theorem uq (f:Nat->Bool):∀ (H:Hp) (t:Nat),f t=true->Hp.get (H.filter λp=>f p.1) t=Hp.get H t
 | [],_,_=>rfl
 | (d,s)::H,t,h=>by
  rw [List.filter_cons]
  cases hb:Aw d t with
  | true =>
   have:=Aj hb
   subst this
   rw [if_pos h]
   simp only [Hp.get,hb]
  | false =>
   split
   ·simp only [Hp.get,hb];exact uq f H t h
   ·simp only [Hp.get,hb];exact uq f H t h
theorem gTl_blk {gs:List Gr} {i j:Nat} (hi:i<gs.length) (hij:i≠j):Hp.get (gTl j gs) (2*(0+i)+100)=some (.blk 176 [.d (.slice 1 ((gs[i]'hi).1.map ah)),.row (2*(0+i)+101)]):=by
 unfold gTl;rw [uq (λx=>!(Aw x (2*(0+j)+100)) && !(Aw x (2*(0+j)+101))) _ _ (by rw [ga (by omega),ga (by omega)];rfl)];exact uu gs 0 i hi
theorem gTl_row {gs:List Gr} {i j:Nat} (hi:i<gs.length) (hij:i≠j):Hp.get (gTl j gs) (2*(0+i)+101)=some (.row 3 1 ((gs[i]'hi).2.map ah)):=by
 unfold gTl;rw [uq (λx=>!(Aw x (2*(0+j)+100)) && !(Aw x (2*(0+j)+101))) _ _ (by rw [ga (by omega),ga (by omega)];rfl)];exact ur gs 0 i hi
def rhoB (j x:Nat):Nat:=match Aw x (2*(0+j)+100) with
 | true=>3
 | false=>match Aw x (2*(0+j)+101) with
  | true=>5016
  | false=>x
theorem ot {j x:Nat} (h1:x≠2*(0+j)+100) (h2:x≠2*(0+j)+101):rhoB j x=x:=by
 unfold rhoB;rw [ga h1,ga h2]
theorem sf (j:Nat):rhoB j (2*(0+j)+100)=3:=by
 unfold rhoB;rw [E7]
theorem se (j:Nat):rhoB j (2*(0+j)+101)=5016:=by
 unfold rhoB;rw [ga (by omega),E7]
theorem knows_back {gs:List Gr} {j:Nat} {x:Int} {b2 b6 b0 b1:HB} (hj:j<gs.length) (hl:gs.length<=2000) :
  ∀ p∈gHp 0 (gs.set j ((gs[j]'hj).1,(gs[j]'hj).2++[x])),
   Hp.get ([(5016,.row 3 1 ((gs[j]'hj).2.map ah++[[.int .i64 x]])),(3,.blk 176 [.d (.slice 1 ((gs[j]'hj).1.map ah)),.row 5016]),(2,b2),(6,b6),(0,b0),(1,b1)]++gTl j gs) (rhoB j p.1)=some (p.2.ren (rhoB j)):=by
 intro p hp;obtain⟨i,hi,h⟩:=ut _ 0 p hp;have hi':i<gs.length:=by simpa using hi
 have hout:∀ (t:Nat),100<=t->t<5000->Hp.get ([(5016,HB.row 3 1 ((gs[j]'hj).2.map ah++[[.int .i64 x]])),(3,.blk 176 [.d (.slice 1 ((gs[j]'hj).1.map ah)),.row 5016]),(2,b2),(6,b6),(0,b0),(1,b1)]++gTl j gs) t=Hp.get (gTl j gs) t:=by
  intro t h1 h2;refine jn λq hq=>?_
  simp only [Be,Bz,or_false] at hq;rcases hq with rfl|rfl|rfl|rfl|rfl|rfl<;>simp only<;>omega
 by_cases hij:i=j
 ·subst hij;rcases h with rfl|rfl
  ·simp only [sf,HB.ren,SV.renL,SV.ren,se,Gj];rfl
  ·simp only [se,HB.ren,Gj,Av];rfl
 ·have he:(gs.set j ((gs[j]'hj).1,(gs[j]'hj).2++[x]))[i]=gs[i]:=List.getElem_set_ne (Ne.symm hij) _;rcases h with rfl|rfl
  ·simp only [he];rw [ot (by omega) (by omega),hout _ (by omega) (by omega),gTl_blk hi' hij];simp only [HB.ren,SV.renL,SV.ren,ot (j:=j) (x:=2*(0+i)+101) (by omega) (by omega)]
  ·simp only [he];rw [ot (by omega) (by omega),hout _ (by omega) (by omega),gTl_row hi' hij];rfl
theorem cells_back {j n m:Nat} (hj:j<n):SV.renL (rhoB j) (jv 0 n++An m SV.junk)=(jv 0 n++An m SV.junk).set j (.loc 3 0):=by
 rw [renL_map];apply Dz;intro i;rw [Bl,Eb];by_cases hij:j=i
 ·subst hij;rw [if_pos rfl,qw hj,if_pos (by rw [Ap];unfold jv;rw [Aa,Ds];omega)];simp only [B3,SV.ren,sf]
 ·rw [if_neg hij];by_cases hi:i<n
  ·rw [qw hi];simp only [B3,SV.ren,ot (j:=j) (x:=2*(0+i)+100) (by omega) (by omega)]
  ·rw [A8 (by unfold jv;rw [Aa,Ds];omega)];cases hk:(An m SV.junk)[i-(jv 0 n).length]? with
   | none=>rfl
   | some s =>
    rw [(List.mem_replicate.1 (B5 hk)).2];rfl
theorem addG_some {gs:List Gr} {w:List Int×Int} {j:Nat} (hj:j<gs.length) (hf:gs.findIdx? (λg=>decide (g.1=w.1))=some j):addG gs w=gs.set j ((gs[j]'hj).1,(gs[j]'hj).2++[w.2]):=by
 have h:=(List.findIdx?_eq_some_iff_findIdx_eq.1 hf).2;unfold addG;rw [h,Ab hj]
theorem slT_ne {gs:List Gr} {cap:Nat} (h:gs≠[]):slT gs cap = .sl 2 0 gs.length cap:=by
 cases gs with
 | nil=>exact absurd rfl h
 | cons g gs=>rfl
theorem stT_ne {r:Rul} {gs:List Gr} {cap:Nat} (h:gs≠[]):stT r gs cap=(0,.blk 64 [.d (.int .i64 r.pred),.d (.slice 2 (r.terms.map aw)),.d (.int .i64 r.fold),.d (.slice 4 (r.body.map ay)),.d (.int .i64 r.vars)])::(1,.blk 3 [.d (.int .i64 ((r.terms.length-1:Nat):Int))]) ::
  (2,.blk 174 (jv 0 gs.length++An (cap-gs.length) .junk))::gHp 0 gs:=by
 cases gs with
 | nil=>exact absurd rfl h
 | cons g gs=>rfl
theorem rhoB_inj {j a b:Nat} (ha:a<3∨(100<=a/\a<5000)) (hb:b<3∨(100<=b/\b<5000)) (h:a≠b):rhoB j a≠rhoB j b:=by
 by_cases a1:a=2*(0+j)+100<;>by_cases a2:a=2*(0+j)+101<;>by_cases b1:b=2*(0+j)+100<;>by_cases b2:b=2*(0+j)+101 <;>
  first
  | omega
  | (subst a1;rw [sf,ot b1 b2];omega)
  | (subst a2;rw [se,ot b1 b2];omega)
  | (subst b1;rw [sf,ot a1 a2];omega)
  | (subst b2;rw [se,ot a1 a2];omega)
  | (subst a1;subst b2;rw [sf,se];omega)
  | (subst a2;subst b1;rw [sf,se];omega)
  | (rw [ot a1 a2,ot b1 b2];exact h)
theorem back_ids {gs:List Gr} (hl:gs.length<=2000):([0,1,2]++(gHp 0 gs).map (λp:Nat×HB=>p.1)).Nodup/\∀ i∈[0,1,2]++(gHp 0 gs).map (λp:Nat×HB=>p.1),i<3∨(100<=i/\i<5000):=by
 have hg:∀ i∈(gHp 0 gs).map (λp:Nat×HB=>p.1),100<=i/\i<5000:=λi hi=>by
  obtain⟨p,hp,rfl⟩:=List.mem_map.1 hi;have:=gHp_ge hp
  omega
 refine⟨List.nodup_append.2 ⟨by simp,gHp_nodup gs 0,λx hx y hy he=>?_⟩,λi hi=>?_⟩
 ·subst he;have:=hg x hy
  simp only [Be,Bz,or_false] at hx;omega
 ·rcases List.mem_append.1 hi with hi|hi
  ·simp only [Be,Bz,or_false] at hi;omega
  ·exact .inr (hg i hi)
theorem back_rho {j:Nat} {gs:List Gr} (hl:gs.length<=2000):(([0,1,2]++(gHp 0 gs).map (λp:Nat×HB=>p.1)).map (rhoB j)).Nodup:=by
 obtain⟨h1,h2⟩:=back_ids hl;refine List.pairwise_map.2 (List.Pairwise.imp_of_mem (λha hb h=>rhoB_inj (h2 _ ha) (h2 _ hb) h) h1)
theorem cells_low0 {n m:Nat} (hn:n<=2000):SV.lowL 5000 (jv 0 n++An m SV.junk)=true:=by
 refine lowL_of λs hs=>?_
 rcases List.mem_append.1 hs with hs|hs
 ·unfold jv at hs;obtain⟨i,hi,rfl⟩:=List.mem_map.1 hs;have:=List.mem_range.1 hi
  exact Dn (by omega)
 ·rw [(List.mem_replicate.1 hs).2];rfl
theorem addG_new {gs:List Gr} {w:List Int×Int} (hf:gs.findIdx? (λg=>decide (g.1=w.1))=none):addG gs w=(gs++[(w.1,[])]).set gs.length (w.1,[]++[w.2]):=by
 have h:gs.findIdx (λg=>decide (g.1=w.1))=gs.length:=List.findIdx_eq_length.2 (λg hg=>by simpa using List.findIdx?_eq_none_iff.1 hf g hg);unfold addG;rw [h,List.getElem?_eq_none (Af _),List.set_append_right _ _ (Af _),Nat.sub_self];rfl
theorem gHp_app:∀ (gs:List Gr) (j:Nat) (g:Gr),gHp j (gs++[g])=gHp j gs++[(2*(j+gs.length)+100,.blk 176 [.d (.slice 1 (g.1.map ah)),.row (2*(j+gs.length)+101)]),(2*(j+gs.length)+101,.row 3 1 (g.2.map ah))]
 | [],_,_=>rfl
 | h::gs,j,g=>by
  rw [Cd,gHp,gHp,gHp_app gs (j+1) g,Bn,show j+1+gs.length=j+(gs.length+1) by omega]
  rfl
theorem gTl_app (gs:List Gr) (g:Gr):gTl gs.length (gs++[g])=gHp 0 gs:=by
 unfold gTl;rw [gHp_app,C3];have h1:(gHp 0 gs).filter (λp=>!(Aw p.1 (2*(0+gs.length)+100)) && !(Aw p.1 (2*(0+gs.length)+101)))=gHp 0 gs:=by
  refine List.filter_eq_self.2 λp hp=>?_
  have:=gHp_ge hp
  rw [ga (by omega),ga (by omega)];rfl
 rw [h1];simp [E7]
theorem gsT_succ {r:Rul} {ways:List (List Int)} {i:Nat} (hi:i<ways.length):gsT r ways (i+1)=addG (gsT r ways i) (pW r ways[i]):=by
 unfold gsT uo;rw [Am hi,Av,List.foldl_append];rfl
def rhoN (b r x:Nat):Nat:=match Aw x 3 with
 | true=>5001
 | false=>match Aw x 4 with
  | true=>r
  | false=>match Aw x 6 with
   | true=>5000
   | false=>match Aw x 2 with
    | true=>b
    | false=>x
theorem rhoN_ge {b r x:Nat} (h:100<=x):rhoN b r x=x:=by
 unfold rhoN;rw [ga (by omega:x≠3),ga (by omega:x≠4),ga (by omega:x≠6),ga (by omega:x≠2)]
theorem gTl_rhoN {b r j:Nat} {gs:List Gr}:(gTl j gs).map (λp=>rhoN b r p.1)=(gTl j gs).map (·.1) :=
 Df λp hp=>rhoN_ge (gTl_ids.2 p.1 (List.mem_map.2 ⟨p,hp,rfl⟩)).1
def preOk:Hp->Bool
 | []=>true
 | (i,_)::H=>(Nat.blt i 100 || Nat.ble 5000 i) && preOk H
theorem preOk_spec:∀ {H:Hp},preOk H=true->∀ p∈H,p.1<100∨5000<=p.1
 | [],_,_,h=>by simp at h
 | (i,b)::H,h,p,hp=>by
  simp only [preOk,Ad,Bool.or_eq_true] at h
  rcases List.mem_cons.1 hp with rfl|hp
  ·rcases h.1 with h1|h1
   ·exact .inl (Nat.lt_of_succ_le (Ac h1))
   ·exact .inr (Ac h1)
  ·exact preOk_spec h.2 p hp
theorem knowsN {b r:Nat} {pre:Hp} {gs:List Gr} (hpo:preOk pre=true) (hl:gs.length<=2000):∀ p∈gHp 0 gs,Hp.get (pre++gHp 0 gs) (rhoN b r p.1)=some (p.2.ren (rhoN b r)):=by
 intro p hpm;have hp:=preOk_spec hpo;obtain⟨i,hi,h|h⟩:=ut gs 0 p hpm
 ·subst h;rw [rhoN_ge (by simp only;omega)];refine (jn λq hq=>by have:=hp q hq;simp only;omega).trans ((uu gs 0 i hi).trans ?_);simp only [HB.ren,SV.renL,SV.ren,rhoN_ge (b:=b) (r:=r) (x:=2*(0+i)+101) (by omega)]
 ·subst h;rw [rhoN_ge (by simp only;omega)];exact (jn λq hq=>by have:=hp q hq;simp only;omega).trans (ur gs 0 i hi)
theorem gy (j n:Nat):(jv j n).length=n:=by unfold jv;rw [Aa,Ds]
theorem cellsN {b r n m:Nat}:SV.renL (rhoN b r) ((jv 0 (n+1)++An m SV.junk).set n (.loc 3 0))=jv 0 n++[.loc 5001 0]++An m SV.junk:=by
 rw [renL_map];apply Dz;intro i;rw [Bl,Eb];by_cases hi:n=i
 ·subst hi;rw [if_pos rfl,if_pos (by rw [Ap,gy];omega),Bi (by rw [Ap,gy];simp),A8 (by rw [gy];exact Af _),gy,Nat.sub_self];rfl
 ·rw [if_neg hi];by_cases h2:i<n
  ·rw [qw (by omega),List.append_assoc,qw h2];simp only [B3,SV.ren,rhoN_ge (b:=b) (r:=r) (x:=2*(0+i)+100) (by omega)]
  ·rw [A8 (by rw [gy];omega),A8 (by rw [Ap,gy,Bh];omega),gy,Ap,gy,Bh];cases hk:(An m SV.junk)[i-(n+1)]? with
   | none=>rfl
   | some s=>rw [(List.mem_replicate.1 (B5 hk)).2];rfl
theorem spliceN {n cap:Nat} (s:SV):fm (jv 0 n++An (cap-n) SV.junk) (0+n) [s]=jv 0 n++[s]++An (cap-(n+1)) SV.junk:=by
 unfold fm;rw [Da,Cc (by rw [gy];exact Af _),Ak (by rw [gy];exact Af _),Bh,
  List.drop_append,gy,List.drop_of_length_le (by rw [gy];omega),List.nil_append,show n+1-n=1 by omega,List.drop_replicate,Nat.sub_sub]
theorem growN {n m c:Nat} (s:SV):((jv 0 n++An m SV.junk).drop 0).take n++[s]++An c SV.junk=jv 0 n++[s]++An c SV.junk:=by
 rw [List.drop_zero,Cc (by rw [gy];exact Af _),Ak (by rw [gy];exact Af _)]
theorem grpBlkS {S:Nat->Prop} {pre:Hp} {gs:List Gr} {j:Nat} (hj:j<gs.length) (hS:∀ i,100<=i->S i) (hpo:preOk pre=true) (hl:gs.length<=2000) :
  BlkOk S (pre++gHp 0 gs) (2*(0+j)+100) [.slice 1 ((gs[j]'hj).1.map ah),.slice 1 ((gs[j]'hj).2.map ah)]:=by
 have hp:=preOk_spec hpo;refine⟨hS _ (by omega),_,_,(jn λp hpp=>?_).trans (uu gs 0 j hj),λi hi=>?_⟩
 ·have:=hp p hpp;omega
 ·match i,hi with
  | 0,_=>exact⟨_,rfl,.inl rfl⟩
  | 1,_=>exact⟨_,rfl,.inr (.inl ⟨_,_,_,_,rfl,hS _ (by omega),(jn λp hpp=>by have:=hp p hpp;omega).trans (ur gs 0 j hj),rfl⟩)⟩
theorem own_two {e:Env} {a b:Nat} {t1 t2:TypeId} {c1 c2:List SV} {H:Hp} (h:(ae e ((a,.blk t1 c1)::(b,.blk t2 c2)::H)).Nodup):(ae e [(a,.blk t1 c1),(b,.blk t2 c2)]).Nodup:=by
 have:ae e ((a,.blk t1 c1)::(b,.blk t2 c2)::H)=e.β a::e.β b::ae e H:=rfl
 rw [this] at h;obtain⟨h1,h2⟩:=List.nodup_cons.1 h;show [e.β a,e.β b].Nodup;refine List.nodup_cons.2 ⟨λhm=>h1 ?_,by simp⟩;rw [List.mem_singleton] at hm;exact hm▸Ae ..
theorem ent_groups {Γ:Ctx} {k:Nat} {L:Sl} {r:Rul} {gs:List Gr} {cap:Nat} (hl:gs.length<=2000) (hL:L.get 8=slT gs cap) :
  Ent Γ k L (stT r gs cap) k ((8,.d (.slice 1 (gs.map encG)))::L) [(0,.blk 64 [.d (.int .i64 r.pred),.d (.slice 2 (r.terms.map aw)),.d (.int .i64 r.fold),.d (.slice 4 (r.body.map ay)),.d (.int .i64 r.vars)]),(1,.blk 3 [.d (.int .i64 ((r.terms.length-1:Nat):Int))])]:=by
 cases gs with
 | nil=>exact dz 8 1 hL
 | cons g gs =>
  rw [show (g::gs).map encG=((g::gs).map dsG).map λds=>[.ptr ds] by rw [D7];rfl];refine ent_frz (S:=λi=>i≠0/\i≠1) 8 hL (by simp) rfl (Aa _) (λj hj=>?_) (λp hp=>?_) (by simp) (λe h=>own_two h)
  ·rw [Aa] at hj;refine⟨_,qw hj _,?_⟩
   rw [C5];exact grpBlkS (pre:=[(_,_),(_,_),(_,_)]) hj (λi hi=>by omega) rfl hl
  ·simp only [Be,Bz,or_false] at hp;rcases hp with rfl|rfl<;>simp [stT]
theorem pW_num {arity:List Int} {r:Rul} {ways:List (List Int)} (hok:HeadOk arity r ways) {w:List Int} (hw:w∈ways):-1000000<=(pW r w).2/\(pW r w).2<=1000000:=by
 show -1000000<=(aW r w).getD (r.terms.length-1) 0/\(aW r w).getD (r.terms.length-1) 0<=1000000;rw [Dm];cases h:(aW r w)[r.terms.length-1]? with
 | none=>simp
 | some x=>exact hok.vals hw x (B5 h)
theorem grp_ok {arity:List Int} {r:Rul} {ways:List (List Int)} (hok:HeadOk arity r ways) {gs:List Gr} (hinv:InvG gs (ways.map (pW r))) {g:Gr} (hg:g∈gs) :
  g.2≠[]/\(∀ x∈g.2,-1000000<=x/\x<=1000000)/\g.2.length<=1000000/\g.1.length<=3:=by
 have hv:=hinv.vals g hg;obtain⟨w,hw,hwg⟩:=hinv.here g hg;have hm:=hok.many;have ht:=hok.tlen;refine⟨λh=>?_,λx hx=>?_,?_,?_⟩
 ·rw [hv] at h;have:w.2∈k6 (ways.map (pW r)) g.1:=List.mem_map.2 ⟨w,List.mem_filter.2 ⟨hw,decide_eq_true hwg⟩,rfl⟩
  rw [h] at this;simp at this
 ·rw [hv] at hx;obtain⟨z,hz,rfl⟩:=List.mem_map.1 hx;obtain⟨u,hu,rfl⟩:=List.mem_map.1 (List.mem_filter.1 hz).1;exact pW_num hok hu
 ·rw [hv];unfold k6;rw [Aa];refine Ar (Cj _ _) ?_;rw [Aa];omega
 ·obtain⟨u,hu,rfl⟩:=List.mem_map.1 hw;rw [<- hwg];show ((aW r u).take (r.terms.length-1)).length<=3;have:(aW r u).length=r.terms.length:=Aa _
  rw [Au];omega
def headG (r:Rul) (g:Gr):Option Fct:=if okP r.fold g.2 then some ⟨r.pred,g.1++[valP r.fold g.2]⟩ else none
attribute [local irreducible] DW DS DL DQ Ev FnOk FnP dp bh DT
theorem cloneW_fn (l:List Int) (hl:l.length<=17592186044416):FnRow false Tryz.prog tab bp 67 [.d (.slice 1 (l.map ah))] 3 1 (λys=>ys=l.map ah):=by
 refine frE Tryz.func67 ?_;intro O w0 E0 β0;have la:(l.map ah).length=l.length:=Aa _;repeat' (first|refine zs ?_|fail)
 refine ds_eqnil rfl rfl rfl rfl rfl (λh=>?_) ?_
 ·have h0:l=[]:=List.map_eq_nil_iff.1 h;subst h0;repeat' (first|refine zs ?_|fail)
  refine au (dm (t:=2) 3 1 rfl) ?_;repeat' (first|refine zr ?_|fail)
  exact⟨.inl rfl,_,rfl,kp id 1 (.row 0) ([(0,.row 3 1 [])]) ⟨[],rfl,rfl,rfl⟩⟩
 ·repeat' (first|(apply uy;exact rfl;exact rfl;exact rfl;exact rfl;exact rfl;exact rfl;exact rfl;exact rfl)|(first|refine zs ?_|fail))
  repeat' (apply dv)
  exact⟨.inl rfl,_,rfl,kp (λ_=>1) 1 (.row 0) ([(0,.row 3 1 (l.map ah))]) ⟨_,rfl,rfl,rfl⟩⟩
theorem madeFO_fn (arity:List Int) (r:Rul) (ways:List (List Int)) (hok:HeadOk arity r ways) (h0:r.fold≠0):Fn 61 [k8 r,.d (.slice 1 (ways.map cx))] (λres=>res = .d (.own Bnds.B (.slice 2 ((av (ep r ways)).map aa)))):=by
 refine fqE Tryz.func61 ?_;intro O w0 E0 β0;have hmany:=hok.many;have htl:=hok.tlen;have htp:=(hok.rul.folded h0).1;have lw:(ways.map cx).length=ways.length:=Aa _;have lt:(r.terms.map aw).length=r.terms.length:=Aa _;have hgl:∀ i,(gsT r ways i).length<=i:=λi=>groupsL_len _ _
 repeat' ((fail_if_success (apply iz 11));(first|refine zs ?_|(refine zm ?_ ?_<;>intro hg)|fail))
 all_goals try (exfalso;omega)
 repeat' (first|refine zs ?_|fail)
 refine ak (ι:=Nat×Nat) (λc=>⟨5000,[(1,.d (.slice 1 (ways.map cx))),(2,.loc 0 0),(5,.nils),(8,slT (gsT r ways c.1) c.2),(9,.loc 1 0),(44,.d (.slice 1 (ways.map cx))),(45,.d (.int .i64 ways.length)),(46,.d (.int .i64 c.1))],stT r (gsT r ways c.1) c.2⟩)
  (λc=>c.1<=ways.length/\(gsT r ways c.1).length<=c.2/\c.2<=maxLen) (λc=>ways.length-c.1) (0,0) ⟨Ai _,Af _,Ai _⟩
  (ag (λj=>match j with|1=>1|_=>0) ⟨rfl,rfl,rfl,rfl,rfl,rfl,by rw [<- lw];rfl,rfl,trivial⟩ ⟨rfl,by rw [show ((r.terms.length-1:Nat):Int)=(((r.terms.map aw).length:Int)-1) by omega];rfl,trivial⟩ rfl rfl rfl rfl rfl rfl) ?_
 rintro⟨i,cap⟩ ⟨g1,g2,g3⟩;dsimp only at g1 g2 g3 ⊢;by_cases hi:i<ways.length
 ·have hm:=Ag hi;have w1:=args_fn r.terms ways[i] (hok.terms hm) (by omega);have hgi:=hgl i;generalize hgs:gsT r ways i=gs at *;cases gs with
  | nil =>
   dsimp only [slT,stT];repeat' (first|refine zs ?_|refine z21 ?_ (hc:=by apply w1)|(refine zm ?_ ?_<;>intro hg)|(exfalso;omega))
   refine ds_lend (args:=[.d (.slice 1 (([]:List Gr).map encG)),.fn 120 [.pd [.slice 1 ((aW r ways[i]).map ah)],.pd [.int .i64 ((r.terms.length-1:Nat):Int)]]]) (r:=.d (.int .i64 (-1))) rfl
    (λe a w m=>⟨lend_nil m rfl,lend_fn2 m rfl (blk1 trivial rfl) (blk1 trivial rfl),trivial⟩)
    (indexG_fn (λg=>decide (g.1=(aW r ways[i]).take (r.terms.length-1))) [] rfl (λg hg=>made1_fn _ _ (by unfold aW;rw [Aa];omega) g)) rfl rfl rfl ?_
   have la:((aW r ways[i]).map ah).length=r.terms.length:=by unfold aW;rw [Aa,Aa]
   repeat' ((fail_if_success (apply e8 19));(first|(apply nr;exact rfl;exact rfl;exact rfl;exact rfl;exact rfl;exact rfl;(refine⟨?_,?_,?_⟩<;>(first|omega|(simp only [Aa];omega)));((with_reducible apply ni);(exact rfl));exact rfl;exact rfl)|refine zs ?_|fail))
   all_goals try (exfalso;omega)
   repeat' ((fail_if_success (apply e8 19));fail)
   all_goals try (exfalso;omega)
   refine ds_bs_sl rfl rfl rfl rfl rfl rfl rfl rfl rfl rfl rfl ?_;refine ds_append_ptr0 rfl rfl rfl rfl rfl rfl rfl rfl rfl rfl rfl rfl (Ac rfl) (λcap' hc1 hc2=>?_);repeat' ((fail_if_success (apply e8 19));(first|refine zs ?_|fail))
   refine au (ag (λj=>match j with|0=>0|1=>1|2=>5003|3=>5001|6=>5000|_=>0) (k':=7)
    (L':=[(1,.d (.slice 1 (ways.map cx))),(2,.loc 0 0),(5,.nils),(8,.sl 2 0 1 cap'),(9,.loc 1 0),(12,.loc 6 0),(13,.d (.int .i64 0)),(44,.d (.slice 1 (ways.map cx))),(45,.d (.int .i64 ways.length)),(46,.d (.int .i64 i))])
    (H':=[(3,.blk 176 [.d (.slice 1 (((aW r ways[i]).take (r.terms.length-1)).map ah)),.nils]),(2,.blk 174 (.loc 3 0::An (cap'-1) .junk)),(6,.blk 22 [.d (.slice 1 ((aW r ways[i]).map ah))]),
     (0,.blk 64 [.d (.int .i64 r.pred),.d (.slice 2 (r.terms.map aw)),.d (.int .i64 r.fold),.d (.slice 4 (r.body.map ay)),.d (.int .i64 r.vars)]),(1,.blk 3 [.d (.int .i64 ((r.terms.length-1:Nat):Int))])])
    ?_ ?_ ?_ ?_ ?_ ?_ ?_ ?_) ?_
   ·exact⟨rfl,rfl,rfl,rfl,rfl,rfl,rfl,rfl,rfl,rfl,trivial⟩
   ·exact⟨rfl,by simp only [HB.ren,SV.ren,SV.renL,renL_junk];rfl,rfl,rfl,rfl,trivial⟩
   ·rfl
   ·simp [Hp.low,HB.low,SV.low,SV.lowL,kn]
   ·rfl
   ·rfl
   ·rfl
   ·rfl
   refine au (ib 3 1 3 1 rfl rfl rfl) ?_;refine ru 17 (by kernel_rfl) (by kernel_rfl) (by kernel_rfl) rfl rfl rfl ?_;repeat' (first|refine zs ?_|fail)
   all_goals try omega
   have hst:=gsT_succ (r:=r) hi;have hal:r.terms.length-1<(aW r ways[i]).length:=by unfold aW;rw [Aa];omega
   have hgd:(aW r ways[i]).getD (r.terms.length-1) 0=(aW r ways[i])[r.terms.length-1]:=by rw [Dm,Ab hal];rfl
   rw [hgs,show addG [] (pW r ways[i])=[((aW r ways[i]).take (r.terms.length-1),[(aW r ways[i]).getD (r.terms.length-1) 0])] from rfl,hgd] at hst;refine⟨(i+1,cap'),⟨hi,by rw [hst];exact hc1,hc2⟩,?_,by dsimp only;omega⟩
   dsimp only;rw [hst];dsimp only [slT,stT];refine ag (λj=>match j with|0=>0|1=>1|2=>2|100=>3|101=>24|_=>0) ?_ ?_ ?_ ?_ ?_ ?_ ?_ ?_
   ·exact⟨rfl,rfl,rfl,rfl,rfl,rfl,rfl,rfl,trivial⟩
   ·refine⟨rfl,rfl,?_,rfl,?_,trivial⟩
    ·show _=some (HB.blk _ (SV.renL _ (SV.loc 100 0::An (cap'-1) .junk)));simp only [SV.ren,SV.renL,renL_junk];rfl
    ·rfl
   ·rfl
   ·simp [gHp,Hp.low,HB.low,SV.low,SV.lowL,kn,jv]
   ·rfl
   ·rfl
   ·rfl
   ·rfl
  | cons g gs =>
   dsimp only [slT,stT];repeat' (first|refine zs ?_|refine z21 ?_ (hc:=by apply w1)|(refine zm ?_ ?_<;>intro hg)|(exfalso;omega))
   refine ds_lend (args:=[.d (.slice 1 ((g::gs).map encG)),.fn 120 [.pd [.slice 1 ((aW r ways[i]).map ah)],.pd [.int .i64 ((r.terms.length-1:Nat):Int)]]]) (r:=.d (.int .i64 (n9 (λg=>decide (g.1=(aW r ways[i]).take (r.terms.length-1))) (g::gs)))) rfl
    (λe a w m=>⟨?_,lend_fn2 m rfl (blk1 trivial rfl) (blk1 trivial rfl),trivial⟩)
    (indexG_fn (λg=>decide (g.1=(aW r ways[i]).take (r.terms.length-1))) (g::gs) rfl (λg hg=>made1_fn _ _ (by unfold aW;rw [Aa];omega) g)) rfl rfl rfl ?_
   ·rw [show (g::gs).map encG=((g::gs).map dsG).map λds=>[.ptr ds] by rw [D7];rfl];refine lend_sl m rfl rfl (Aa _) (λj hj=>?_);rw [Aa] at hj;refine⟨_,qw hj _,?_⟩
    rw [C5];exact grpBlk (pre:=[(_,_),(_,_),(_,_),(_,_)]) hj (by intro p hp;simp only [Be,Bz,or_false] at hp;rcases hp with rfl|rfl|rfl|rfl<;>simp) (by omega)
   have la:((aW r ways[i]).map ah).length=r.terms.length:=by unfold aW;rw [Aa,Aa]
   cases hf:(g::gs).findIdx? (λg=>decide (g.1=(aW r ways[i]).take (r.terms.length-1))) with
   | none =>
    rw [show n9 (λg=>decide (g.1=(aW r ways[i]).take (r.terms.length-1))) (g::gs) = -1 by unfold n9;rw [hf]];repeat' ((fail_if_success (apply e8 19));(first|(apply nr;exact rfl;exact rfl;exact rfl;exact rfl;exact rfl;exact rfl;(refine⟨?_,?_,?_⟩<;>(first|omega|(simp only [Aa];omega)));((with_reducible apply ni);(exact rfl));exact rfl;exact rfl)|refine zs ?_|fail))
    all_goals try (exfalso;omega)
    refine ds_bs_sl rfl rfl rfl rfl rfl rfl rfl rfl rfl rfl rfl ?_;have hn1:(g::gs).length<=2000:=by omega
    refine ds_append_ptr rfl rfl rfl rfl rfl rfl rfl rfl ?_ rfl rfl rfl rfl rfl ?_ ?_ (λhr=>?_) (λcap' q1 q2 q3=>?_)
    ·rw [Ap,List.length_replicate];unfold jv;rw [Aa,Ds];omega
    ·show ((g::gs).length+1)*8<=140737488355328;omega
    ·unfold maxLen;omega
    ·repeat' ((fail_if_success (apply e8 19));(first|refine zs ?_|fail))
     refine au (ib 5001 1 3 1 rfl rfl rfl) ?_;obtain⟨gs2,hgs2⟩:∃ x,x=(g::gs)++[((pW r ways[i]).1,([]:List Int))]:=⟨_,rfl⟩;obtain⟨j,hj0⟩:∃ j,j=(g::gs).length:=⟨_,rfl⟩;have hl2:gs2.length=(g::gs).length+1:=by rw [hgs2,Ap];rfl
     have hj2:j<gs2.length:=by omega
     have hjv:gs2[j]=((pW r ways[i]).1,[]):=by subst hgs2 hj0;simp
     have hT0:gTl j gs2=gHp 0 (g::gs):=by rw [hgs2,hj0];exact gTl_app _ _
     have hst:=gsT_succ (r:=r) hi;rw [hgs,addG_new (w:=pW r ways[i]) hf,<- hgs2,<- hj0] at hst;rw [show (((pW r ways[i]).1,[]++[(pW r ways[i]).2]):Gr)=(gs2[j].1,gs2[j].2++[(pW r ways[i]).2]) by rw [hjv]] at hst;have hgl2:(gs2[j].2.map ah).length<=2000:=by rw [hjv];exact Ai _
     have hn1:gs2.length<=2000:=by omega
     have c2:gs2.length<=cap:=by omega
     have c3:cap<=maxLen:=by assumption
     refine au (ag (rhoN 2 5003) (k':=5000)
      (L':=[(1,.d (.slice 1 (ways.map cx))),(2,.loc 0 0),(5,.nils),(8,.sl 2 0 gs2.length cap),(9,.loc 1 0),(12,.loc 6 0),(13,.d (.int .i64 j)),(44,.d (.slice 1 (ways.map cx))),(45,.d (.int .i64 ways.length)),(46,.d (.int .i64 i))])
      (H':=(3,.blk 176 [.d (.slice 1 ((gs2[j]'hj2).1.map ah)),.row 4])::(4,.row 3 1 ((gs2[j]'hj2).2.map ah))::(2,.blk 174 ((jv 0 gs2.length++An (cap-gs2.length) SV.junk).set j (.loc 3 0)))::(6,.blk 22 [.d (.slice 1 ((aW r ways[i]).map ah))]) ::
       (0,.blk 64 [.d (.int .i64 r.pred),.d (.slice 2 (r.terms.map aw)),.d (.int .i64 r.fold),.d (.slice 4 (r.body.map ay)),.d (.int .i64 r.vars)])::(1,.blk 3 [.d (.int .i64 ((r.terms.length-1:Nat):Int))])::gTl j gs2)
      ?_ ?_ ?_ ?_ ?_ ?_ ?_ ?_) ?_
     ·refine⟨rfl,rfl,rfl,?_,rfl,rfl,?_,rfl,rfl,rfl,trivial⟩
      ·rw [hl2];rfl
      ·rw [hj0];rfl
     ·refine⟨?_,?_,?_,rfl,rfl,rfl,om ?_⟩
      ·rw [hjv];rfl
      ·rw [hjv];rfl
      ·simp only [HB.ren];rw [hl2,hj0,cellsN];exact congrArg (λl=>some (HB.blk _ l)) (spliceN _)
      ·rw [hT0];exact knowsN (pre:=[(_,_),(_,_),(_,_),(_,_),(_,_),(_,_),(_,_)]) rfl (by omega)
     ·rfl
     ·simp only [Hp.low,Ad];exact⟨rfl,rfl,rfl,rfl,rfl,cells_low hn1,rfl,rfl,rfl,rfl,rfl,rfl,gTl_low hn1⟩
     ·refine cq ?_;simp only [A7,gTl_rhoN];exact gp (a:=[5001,5003,2,5000,0,1]) hn1 (by simp) (by simp)
     ·refine cq ?_;simp only [A7];exact gp (a:=[3,4,2,6,0,1]) hn1 (by simp) (by simp)
     ·rfl
     ·rfl
     have hdT:a7 (3::4::2::6::0::1::(gTl j gs2).map (·.1))=true:=cq (gp (a:=[3,4,2,6,0,1]) hn1 (by simp) (by simp));have hdT2:a7 (5016::3::2::6::0::1::(gTl j gs2).map (·.1))=true:=cq (gp (a:=[5016,3,2,6,0,1]) hn1 (by simp) (by simp));generalize hT:gTl j gs2=T at hdT hdT2 ⊢;refine ru 17 (by kernel_rfl) (by kernel_rfl) (by kernel_rfl) rfl rfl rfl ?_;refine c6 rfl rfl trivial rfl rfl rfl hdT rfl ?_;refine c6 rfl rfl trivial rfl rfl rfl hdT rfl ?_;refine c6 rfl rfl ?_ rfl rfl rfl hdT rfl ?_
     ·exact⟨by omega,by omega⟩
     have hcj:((jv 0 gs2.length++An (cap-gs2.length) SV.junk).set j (.loc 3 0))[0+(j:Int).toNat*1]?=some (.loc 3 0):=by
      rw [Da,Dq,Fj,By];rw [Ap];unfold jv;rw [Aa,Ds];omega
     refine c6 rfl (r8 rfl rfl rfl hcj) trivial rfl rfl rfl hdT rfl ?_;refine c6 rfl rfl trivial rfl rfl rfl hdT rfl ?_;refine c6 rfl rfl trivial rfl rfl rfl hdT rfl ?_;refine c6 rfl rfl ⟨by omega,by omega⟩ rfl rfl rfl hdT rfl ?_;refine c6 rfl (r8 rfl rfl rfl hcj) trivial rfl rfl rfl hdT rfl ?_;refine c6 rfl rfl trivial rfl rfl rfl hdT rfl ?_;refine c6 rfl rfl trivial rfl rfl rfl hdT rfl ?_;refine c6 rfl rfl trivial rfl rfl rfl hdT rfl ?_;refine c6 rfl rfl trivial rfl rfl rfl hdT rfl ?_;refine c6 rfl rfl trivial rfl rfl rfl hdT rfl ?_;(apply c6;exact rfl;exact rfl;(omega);((with_reducible apply hv_row);(exact rfl);(omega));exact rfl;exact rfl;exact hdT;exact rfl)
     (apply c6;exact rfl;exact rfl;(with_reducible exact trivial);(with_reducible exact rfl);exact rfl;exact rfl;exact hdT;exact rfl)
     (apply c6;exact rfl;exact rfl;(with_reducible exact trivial);(with_reducible exact rfl);exact rfl;exact rfl;exact hdT;exact rfl)
     have hgl3:(gs2[j].2).length<=2000:=by rw [Aa] at hgl2;exact hgl2
     (apply dt_trade;exact rfl;exact rfl;exact rfl;(unfold maxLen;simp<;>omega);exact rfl;exact rfl;exact rfl;exact hdT;exact rfl;exact rfl)
     refine dt_nil hdT2 ?_;repeat' (first|refine zs ?_|fail)
     have hal:r.terms.length-1<(aW r ways[i]).length:=by unfold aW;rw [Aa];omega
     have hgd:(pW r ways[i]).2=(aW r ways[i])[r.terms.length-1]:=by
      show (aW r ways[i]).getD (r.terms.length-1) 0=_;rw [Dm,Ab hal];rfl
     rw [hgd] at hst;have hne:gs2.set j (gs2[j].1,gs2[j].2++[(aW r ways[i])[r.terms.length-1]])≠[]:=λh=>by
      have:=congrArg B8 h
      rw [A3,Di] at this;omega
     refine⟨(i+1,cap),⟨hi,by rw [hst,A3];exact c2,c3⟩,?_,by dsimp only;omega⟩
     dsimp only;have e1:=slT_ne (cap:=cap) hne;have e2:=stT_ne (r:=r) (cap:=cap) hne;unfold slT at e1;unfold stT at e2;rw [hst,e1,e2,A3];subst hT;refine ag (rhoB j) ?_ ?_ ?_ ?_ ?_ ?_ ?_ ?_
     ·exact⟨rfl,rfl,rfl,rfl,rfl,rfl,rfl,rfl,trivial⟩
     ·refine⟨rfl,rfl,?_,om (knows_back hj2 hn1)⟩
      simp only [HB.ren,cells_back hj2];rfl
     ·rfl
     ·simp only [Hp.low,Ad];exact⟨rfl,rfl,rfl,rfl,rfl,cells_low0 hn1,gHp_low _ 0 (by rw [A3];omega)⟩
     ·refine cq ?_;have h:=back_rho (j:=j) (gs:=gs2.set j (gs2[j].1,gs2[j].2++[(aW r ways[i])[r.terms.length-1]])) (by rw [A3];exact hn1);simp only [Av,D7] at h;exact h
     ·refine cq ?_;exact (back_ids (gs:=gs2.set j (gs2[j].1,gs2[j].2++[(aW r ways[i])[r.terms.length-1]])) (by rw [A3];exact hn1)).1
     ·rfl
     ·rfl
    ·repeat' ((fail_if_success (apply e8 19));(first|refine zs ?_|fail))
     refine au (ib 5001 1 3 1 rfl rfl rfl) ?_;obtain⟨gs2,hgs2⟩:∃ x,x=(g::gs)++[((pW r ways[i]).1,([]:List Int))]:=⟨_,rfl⟩;obtain⟨j,hj0⟩:∃ j,j=(g::gs).length:=⟨_,rfl⟩;have hl2:gs2.length=(g::gs).length+1:=by rw [hgs2,Ap];rfl
     have hj2:j<gs2.length:=by omega
     have hjv:gs2[j]=((pW r ways[i]).1,[]):=by subst hgs2 hj0;simp
     have hT0:gTl j gs2=gHp 0 (g::gs):=by rw [hgs2,hj0];exact gTl_app _ _
     have hst:=gsT_succ (r:=r) hi;rw [hgs,addG_new (w:=pW r ways[i]) hf,<- hgs2,<- hj0] at hst;rw [show (((pW r ways[i]).1,[]++[(pW r ways[i]).2]):Gr)=(gs2[j].1,gs2[j].2++[(pW r ways[i]).2]) by rw [hjv]] at hst;have hgl2:(gs2[j].2.map ah).length<=2000:=by rw [hjv];exact Ai _
     have hn1:gs2.length<=2000:=by omega
     have c2:gs2.length<=cap':=by omega
     have c3:cap'<=maxLen:=by assumption
     refine au (ag (rhoN 5003 5004) (k':=5000)
      (L':=[(1,.d (.slice 1 (ways.map cx))),(2,.loc 0 0),(5,.nils),(8,.sl 2 0 gs2.length cap'),(9,.loc 1 0),(12,.loc 6 0),(13,.d (.int .i64 j)),(44,.d (.slice 1 (ways.map cx))),(45,.d (.int .i64 ways.length)),(46,.d (.int .i64 i))])
      (H':=(3,.blk 176 [.d (.slice 1 ((gs2[j]'hj2).1.map ah)),.row 4])::(4,.row 3 1 ((gs2[j]'hj2).2.map ah))::(2,.blk 174 ((jv 0 gs2.length++An (cap'-gs2.length) SV.junk).set j (.loc 3 0)))::(6,.blk 22 [.d (.slice 1 ((aW r ways[i]).map ah))]) ::
       (0,.blk 64 [.d (.int .i64 r.pred),.d (.slice 2 (r.terms.map aw)),.d (.int .i64 r.fold),.d (.slice 4 (r.body.map ay)),.d (.int .i64 r.vars)])::(1,.blk 3 [.d (.int .i64 ((r.terms.length-1:Nat):Int))])::gTl j gs2)
      ?_ ?_ ?_ ?_ ?_ ?_ ?_ ?_) ?_
     ·refine⟨rfl,rfl,rfl,?_,rfl,rfl,?_,rfl,rfl,rfl,trivial⟩
      ·rw [hl2];rfl
      ·rw [hj0];rfl
     ·refine⟨?_,?_,?_,rfl,rfl,rfl,om ?_⟩
      ·rw [hjv];rfl
      ·rw [hjv];rfl
      ·simp only [HB.ren];rw [hl2,hj0,cellsN];exact congrArg (λl=>some (HB.blk _ l)) (growN _)
      ·rw [hT0];exact knowsN (pre:=[(_,_),(_,_),(_,_),(_,_),(_,_),(_,_),(_,_),(_,_)]) rfl (by omega)
     ·rfl
     ·simp only [Hp.low,Ad];exact⟨rfl,rfl,rfl,rfl,rfl,cells_low hn1,rfl,rfl,rfl,rfl,rfl,rfl,gTl_low hn1⟩
     ·refine cq ?_;simp only [A7,gTl_rhoN];exact gp (a:=[5001,5004,5003,5000,0,1]) hn1 (by simp) (by simp)
     ·refine cq ?_;simp only [A7];exact gp (a:=[3,4,2,6,0,1]) hn1 (by simp) (by simp)
     ·rfl
     ·rfl
     have hdT:a7 (3::4::2::6::0::1::(gTl j gs2).map (·.1))=true:=cq (gp (a:=[3,4,2,6,0,1]) hn1 (by simp) (by simp));have hdT2:a7 (5016::3::2::6::0::1::(gTl j gs2).map (·.1))=true:=cq (gp (a:=[5016,3,2,6,0,1]) hn1 (by simp) (by simp));generalize hT:gTl j gs2=T at hdT hdT2 ⊢;refine ru 17 (by kernel_rfl) (by kernel_rfl) (by kernel_rfl) rfl rfl rfl ?_;refine c6 rfl rfl trivial rfl rfl rfl hdT rfl ?_;refine c6 rfl rfl trivial rfl rfl rfl hdT rfl ?_;refine c6 rfl rfl ?_ rfl rfl rfl hdT rfl ?_
     ·exact⟨by omega,by omega⟩
     have hcj:((jv 0 gs2.length++An (cap'-gs2.length) SV.junk).set j (.loc 3 0))[0+(j:Int).toNat*1]?=some (.loc 3 0):=by
      rw [Da,Dq,Fj,By];rw [Ap];unfold jv;rw [Aa,Ds];omega
     refine c6 rfl (r8 rfl rfl rfl hcj) trivial rfl rfl rfl hdT rfl ?_;refine c6 rfl rfl trivial rfl rfl rfl hdT rfl ?_;refine c6 rfl rfl trivial rfl rfl rfl hdT rfl ?_;refine c6 rfl rfl ⟨by omega,by omega⟩ rfl rfl rfl hdT rfl ?_;refine c6 rfl (r8 rfl rfl rfl hcj) trivial rfl rfl rfl hdT rfl ?_;refine c6 rfl rfl trivial rfl rfl rfl hdT rfl ?_;refine c6 rfl rfl trivial rfl rfl rfl hdT rfl ?_;refine c6 rfl rfl trivial rfl rfl rfl hdT rfl ?_;refine c6 rfl rfl trivial rfl rfl rfl hdT rfl ?_;refine c6 rfl rfl trivial rfl rfl rfl hdT rfl ?_;(apply c6;exact rfl;exact rfl;(omega);((with_reducible apply hv_row);(exact rfl);(omega));exact rfl;exact rfl;exact hdT;exact rfl)
     (apply c6;exact rfl;exact rfl;(with_reducible exact trivial);(with_reducible exact rfl);exact rfl;exact rfl;exact hdT;exact rfl)
     (apply c6;exact rfl;exact rfl;(with_reducible exact trivial);(with_reducible exact rfl);exact rfl;exact rfl;exact hdT;exact rfl)
     have hgl3:(gs2[j].2).length<=2000:=by rw [Aa] at hgl2;exact hgl2
     (apply dt_trade;exact rfl;exact rfl;exact rfl;(unfold maxLen;simp<;>omega);exact rfl;exact rfl;exact rfl;exact hdT;exact rfl;exact rfl)
     refine dt_nil hdT2 ?_;repeat' (first|refine zs ?_|fail)
     have hal:r.terms.length-1<(aW r ways[i]).length:=by unfold aW;rw [Aa];omega
     have hgd:(pW r ways[i]).2=(aW r ways[i])[r.terms.length-1]:=by
      show (aW r ways[i]).getD (r.terms.length-1) 0=_;rw [Dm,Ab hal];rfl
     rw [hgd] at hst;have hne:gs2.set j (gs2[j].1,gs2[j].2++[(aW r ways[i])[r.terms.length-1]])≠[]:=λh=>by
      have:=congrArg B8 h
      rw [A3,Di] at this;omega
     refine⟨(i+1,cap'),⟨hi,by rw [hst,A3];exact c2,c3⟩,?_,by dsimp only;omega⟩
     dsimp only;have e1:=slT_ne (cap:=cap') hne;have e2:=stT_ne (r:=r) (cap:=cap') hne;unfold slT at e1;unfold stT at e2;rw [hst,e1,e2,A3];subst hT;refine ag (rhoB j) ?_ ?_ ?_ ?_ ?_ ?_ ?_ ?_
     ·exact⟨rfl,rfl,rfl,rfl,rfl,rfl,rfl,rfl,trivial⟩
     ·refine⟨rfl,rfl,?_,om (knows_back hj2 hn1)⟩
      simp only [HB.ren,cells_back hj2];rfl
     ·rfl
     ·simp only [Hp.low,Ad];exact⟨rfl,rfl,rfl,rfl,rfl,cells_low0 hn1,gHp_low _ 0 (by rw [A3];omega)⟩
     ·refine cq ?_;have h:=back_rho (j:=j) (gs:=gs2.set j (gs2[j].1,gs2[j].2++[(aW r ways[i])[r.terms.length-1]])) (by rw [A3];exact hn1);simp only [Av,D7] at h;exact h
     ·refine cq ?_;exact (back_ids (gs:=gs2.set j (gs2[j].1,gs2[j].2++[(aW r ways[i])[r.terms.length-1]])) (by rw [A3];exact hn1)).1
     ·rfl
     ·rfl
   | some j =>
    have hj2:j<(g::gs).length:=(List.findIdx?_eq_some_iff_findIdx_eq.1 hf).1;rw [show n9 (λg=>decide (g.1=(aW r ways[i]).take (r.terms.length-1))) (g::gs)=(j:Int) by unfold n9;rw [hf]];repeat' ((fail_if_success (apply e8 19));(first|refine zs ?_|fail))
    all_goals try (exfalso;omega)
    have hn1:(g::gs).length<=2000:=by omega
    refine au (ag (rhoJ j) (k':=5000)
     (L':=[(1,.d (.slice 1 (ways.map cx))),(2,.loc 0 0),(5,.nils),(8,.sl 2 0 (g::gs).length cap),(9,.loc 1 0),(12,.loc 6 0),(13,.d (.int .i64 j)),(44,.d (.slice 1 (ways.map cx))),(45,.d (.int .i64 ways.length)),(46,.d (.int .i64 i))])
     (H':=(3,.blk 176 [.d (.slice 1 (((g::gs)[j]'hj2).1.map ah)),.row 4])::(4,.row 3 1 (((g::gs)[j]'hj2).2.map ah))::(2,.blk 174 ((jv 0 (g::gs).length++An (cap-(g::gs).length) SV.junk).set j (.loc 3 0)))::(6,.blk 22 [.d (.slice 1 ((aW r ways[i]).map ah))]) ::
      (0,.blk 64 [.d (.int .i64 r.pred),.d (.slice 2 (r.terms.map aw)),.d (.int .i64 r.fold),.d (.slice 4 (r.body.map ay)),.d (.int .i64 r.vars)])::(1,.blk 3 [.d (.int .i64 ((r.terms.length-1:Nat):Int))])::gTl j (g::gs))
     ?_ ?_ ?_ ?_ ?_ ?_ ?_ ?_) ?_
    ·exact⟨rfl,rfl,rfl,rfl,rfl,rfl,rfl,rfl,rfl,rfl,trivial⟩
    ·refine⟨(jn (pre:=[(_,_),(_,_),(_,_),(_,_)]) (λq hq=>?_)).trans (uu (g::gs) 0 j hj2),(jn (pre:=[(_,_),(_,_),(_,_),(_,_)]) (λq hq=>?_)).trans (ur (g::gs) 0 j hj2),?_,rfl,rfl,rfl,om (knows_tl (pre:=[(_,_),(_,_),(_,_),(_,_)]) (λq hq=>?_) hn1)⟩
     ·simp only [Be,Bz,or_false] at hq;rcases hq with rfl|rfl|rfl|rfl<;>(show _≠2*(0+j)+100;omega)
     ·simp only [Be,Bz,or_false] at hq;rcases hq with rfl|rfl|rfl|rfl<;>(show _≠2*(0+j)+101;omega)
     ·simp only [HB.ren,cells_ren hj2];rfl
     ·simp only [Be,Bz,or_false] at hq;rcases hq with rfl|rfl|rfl|rfl<;>simp
    ·rfl
    ·simp only [Hp.low,Ad];exact⟨rfl,rfl,rfl,rfl,rfl,cells_low hn1,rfl,rfl,rfl,rfl,rfl,rfl,gTl_low hn1⟩
    ·refine cq ?_;simp only [A7,gTl_rho];exact gp (a:=[2*(0+j)+100,2*(0+j)+101,2,5000,0,1]) hn1 (by simp;omega) (by simp)
    ·refine cq ?_;simp only [A7];exact gp (a:=[3,4,2,6,0,1]) hn1 (by simp) (by simp)
    ·rfl
    ·rfl
    have hst:=gsT_succ (r:=r) hi;rw [hgs,addG_some (w:=pW r ways[i]) hj2 hf] at hst;have hgl2:((g::gs)[j].2.map ah).length<=2000:=by
     rw [Aa];have hinv:InvG (g::gs) ((ways.take i).map (pW r)):=by rw [<- hgs];exact groups_inv _
     have hv:=hinv.vals _ (Ag hj2);rw [hv];unfold k6;rw [Aa];refine Ar (Cj _ _) ?_;rw [Aa,Au];omega
    have c2:=g2;have c3:=g3;have hdT:a7 (3::4::2::6::0::1::(gTl j (g::gs)).map (·.1))=true:=cq (gp (a:=[3,4,2,6,0,1]) hn1 (by simp) (by simp));have hdT2:a7 (5016::3::2::6::0::1::(gTl j (g::gs)).map (·.1))=true:=cq (gp (a:=[5016,3,2,6,0,1]) hn1 (by simp) (by simp));generalize hT:gTl j (g::gs)=T at hdT hdT2 ⊢;refine ru 17 (by kernel_rfl) (by kernel_rfl) (by kernel_rfl) rfl rfl rfl ?_;refine c6 rfl rfl trivial rfl rfl rfl hdT rfl ?_;refine c6 rfl rfl trivial rfl rfl rfl hdT rfl ?_;refine c6 rfl rfl ?_ rfl rfl rfl hdT rfl ?_
    ·exact⟨by omega,by omega⟩
    have hcj:((jv 0 (g::gs).length++An (cap-(g::gs).length) SV.junk).set j (.loc 3 0))[0+(j:Int).toNat*1]?=some (.loc 3 0):=by
     rw [Da,Dq,Fj,By];rw [Ap];unfold jv;rw [Aa,Ds];omega
    refine c6 rfl (r8 rfl rfl rfl hcj) trivial rfl rfl rfl hdT rfl ?_;refine c6 rfl rfl trivial rfl rfl rfl hdT rfl ?_;refine c6 rfl rfl trivial rfl rfl rfl hdT rfl ?_;refine c6 rfl rfl ⟨by omega,by omega⟩ rfl rfl rfl hdT rfl ?_;refine c6 rfl (r8 rfl rfl rfl hcj) trivial rfl rfl rfl hdT rfl ?_;refine c6 rfl rfl trivial rfl rfl rfl hdT rfl ?_;refine c6 rfl rfl trivial rfl rfl rfl hdT rfl ?_;refine c6 rfl rfl trivial rfl rfl rfl hdT rfl ?_;refine c6 rfl rfl trivial rfl rfl rfl hdT rfl ?_;refine c6 rfl rfl trivial rfl rfl rfl hdT rfl ?_;(apply c6;exact rfl;exact rfl;(omega);((with_reducible apply hv_row);(exact rfl);(omega));exact rfl;exact rfl;exact hdT;exact rfl)
    (apply c6;exact rfl;exact rfl;(with_reducible exact trivial);(with_reducible exact rfl);exact rfl;exact rfl;exact hdT;exact rfl)
    (apply c6;exact rfl;exact rfl;(with_reducible exact trivial);(with_reducible exact rfl);exact rfl;exact rfl;exact hdT;exact rfl)
    have hgl3:((g::gs)[j].2).length<=2000:=by rw [Aa] at hgl2;exact hgl2
    (apply dt_trade;exact rfl;exact rfl;exact rfl;(unfold maxLen;simp<;>omega);exact rfl;exact rfl;exact rfl;exact hdT;exact rfl;exact rfl)
    refine dt_nil hdT2 ?_;repeat' (first|refine zs ?_|fail)
    have hal:r.terms.length-1<(aW r ways[i]).length:=by unfold aW;rw [Aa];omega
    have hgd:(pW r ways[i]).2=(aW r ways[i])[r.terms.length-1]:=by
     show (aW r ways[i]).getD (r.terms.length-1) 0=_;rw [Dm,Ab hal];rfl
    rw [hgd] at hst;have hne:(g::gs).set j ((g::gs)[j].1,(g::gs)[j].2++[(aW r ways[i])[r.terms.length-1]])≠[]:=λh=>by
     have:=congrArg B8 h
     rw [A3,Di] at this;omega
    refine⟨(i+1,cap),⟨hi,by rw [hst,A3];exact c2,c3⟩,?_,by dsimp only;omega⟩
    dsimp only;have e1:=slT_ne (cap:=cap) hne;have e2:=stT_ne (r:=r) (cap:=cap) hne;unfold slT at e1;unfold stT at e2;rw [hst,e1,e2,A3];subst hT;refine ag (rhoB j) ?_ ?_ ?_ ?_ ?_ ?_ ?_ ?_
    ·exact⟨rfl,rfl,rfl,rfl,rfl,rfl,rfl,rfl,trivial⟩
    ·refine⟨rfl,rfl,?_,om (knows_back hj2 hn1)⟩
     simp only [HB.ren,cells_back hj2];rfl
    ·rfl
    ·simp only [Hp.low,Ad];exact⟨rfl,rfl,rfl,rfl,rfl,cells_low0 hn1,gHp_low _ 0 (by rw [A3];omega)⟩
    ·refine cq ?_;have h:=back_rho (j:=j) (gs:=(g::gs).set j ((g::gs)[j].1,(g::gs)[j].2++[(aW r ways[i])[r.terms.length-1]])) (by rw [A3];exact hn1);simp only [Av,D7] at h;exact h
    ·refine cq ?_;exact (back_ids (gs:=(g::gs).set j ((g::gs)[j].1,(g::gs)[j].2++[(aW r ways[i])[r.terms.length-1]])) (by rw [A3];exact hn1)).1
    ·rfl
    ·rfl
 ·have hiw:i=ways.length:=by omega
  subst hiw;have hgi:=hgl ways.length;have hgr:gsT r ways ways.length=uo (ways.map (pW r)):=by unfold gsT;rw [Ak (Af _)]
  refine au (ent_groups (by omega) rfl) ?_;rw [hgr] at hgi ⊢;have hinv:=groups_inv (ways.map (pW r));generalize hG:uo (ways.map (pW r))=gs at hgi hinv ⊢;have lg:(gs.map encG).length=gs.length:=Aa _;have hset:av (gs.filterMap (headG r))=av (ep r ways):=by
   have h1:=heads_set (r:=r) (ways:=ways) hok.rul.fold (λw hw=>pW_num hok hw) (by omega);unfold headsP at h1;rw [if_neg h0,hG] at h1;exact h1
  have wset:=yn (gs.filterMap (headG r)) (Ar (List.length_filterMap_le _ _) (by omega)) (λx hx=>by
   obtain⟨g,hg,hx⟩:=List.mem_filterMap.1 hx;unfold headG at hx;split at hx
   ·simp only [Option.some.injEq] at hx;subst hx;have:=(grp_ok hok hinv hg).2.2.2
    rw [Ap,Bh];omega
   ·cases hx)
  rw [hset] at wset;repeat' ((fail_if_success (apply iz 21));(first|refine zs ?_|(refine zm ?_ ?_<;>intro hg)|fail))
  all_goals try (exfalso;omega)
  refine au (dm (t:=5) 37 2 rfl) ?_;repeat' (first|refine zs ?_|fail)
  refine ak (ι:=Nat) (λj=>⟨4,[(2,.loc 0 0),(5,.row 3),(89,.d (.slice 1 (gs.map encG))),(90,.d (.int .i64 gs.length)),(91,.d (.int .i64 j))],
    [(0,.blk 64 [.d (.int .i64 r.pred),.d (.slice 2 (r.terms.map aw)),.d (.int .i64 r.fold),.d (.slice 4 (r.body.map ay)),.d (.int .i64 r.vars)]),(3,.row 37 2 (((gs.take j).filterMap (headG r)).map aa))]⟩)
   (λj=>j<=gs.length) (λj=>gs.length-j) 0 (Ai _) (ag (λj=>match j with|3=>5000|j=>j) ⟨rfl,rfl,rfl,by rw [<- lg];rfl,rfl,trivial⟩ ⟨rfl,rfl,trivial⟩ rfl rfl rfl rfl rfl rfl) ?_
  intro j g4;dsimp only at g4 ⊢;by_cases hj:j<gs.length
  ·have hgm:=Ag hj;obtain⟨q1,q2,q3,q4⟩:=grp_ok hok hinv hgm;have wf:=folded_fn r.fold gs[j].2 q1 q2 q3;have wc:=cloneW_fn gs[j].1 (by omega);have hst:=nj (headG r) hj;have lo:((gs.take j).filterMap (headG r)).length<=j:=ov _ _ _;have l1:(gs[j].1.map ah).length=gs[j].1.length:=Aa _;repeat' ((fail_if_success (apply cp 24));(first|refine zs ?_|(refine zm ?_ ?_<;>intro hg)|fail))
   all_goals try (exfalso;omega)
   refine au (ent_pd 15 rfl) ?_;repeat' (first|refine zs ?_|refine z22 ?_ (hc:=by apply wf)|(refine zm ?_ ?_<;>intro hg)|(exfalso;omega))
   ·have hhd:headG r gs[j]=some ⟨r.pred,gs[j].1++[valP r.fold gs[j].2]⟩:=by unfold headG;rw [if_pos (by assumption)]
    rw [hhd] at hst;refine dt_callW rfl rfl wc rfl rfl rfl rfl ⟨_,rfl⟩ ?_;rintro _ rfl;clear wf wc;repeat' (first|refine zs ?_|fail)
    refine⟨j+1,hj,ag (λj=>match j with|3=>17|j=>j) ⟨rfl,rfl,rfl,rfl,rfl,trivial⟩ ⟨rfl,?_,trivial⟩ rfl rfl rfl rfl rfl rfl,by omega⟩
    rw [hst,Av,Option.toList_some];show _=some (HB.row _ _ (_++[[_,D.slice 1 ((gs[j].1++[valP r.fold gs[j].2]).map ah)]]));rw [Av];rfl
   ·have hhd:headG r gs[j]=none:=by unfold headG;rw [if_neg (by simp_all)]
    rw [hhd,Option.toList_none,B0] at hst;exact⟨j+1,hj,ag id ⟨rfl,rfl,rfl,rfl,rfl,trivial⟩ ⟨rfl,by rw [hst];rfl,trivial⟩ rfl rfl rfl rfl rfl rfl,by omega⟩
  ·rw [Ak (by omega)];repeat' (first|refine zs ?_|(refine zm ?_ ?_<;>intro hg)|(exfalso;omega))
   refine jw (cr 121 rfl rfl rfl) ?_;repeat' (first|refine zr ?_|refine z21 ?_ (hc:=by apply wset)|fail)
   exact⟨.inl rfl,_,rfl,rfl,rfl⟩
theorem madeF_fn (arity:List Int) (r:Rul) (ways:List (List Int)) (hok:HeadOk arity r ways) (h0:r.fold≠0):Fn 61 [k8 r,.d (.slice 1 (ways.map cx))] (λres=>res = .d (.slice 2 ((av (ep r ways)).map aa))):=(madeFO_fn arity r ways hok h0).unown
variable [Bnds]
def smallP:Prg:=⟨[2,2],[⟨#[113]⟩,⟨#[112]⟩],[⟨1,[⟨0,0⟩,⟨1,0⟩],0,[⟨1,0,0,[⟨0,0⟩,⟨1,0⟩]⟩],2⟩,⟨1,[⟨0,0⟩,⟨2,0⟩],0,[⟨1,0,1,[⟨0,0⟩,⟨1,0⟩]⟩,⟨1,0,0,[⟨1,0⟩,⟨2,0⟩]⟩],3⟩]⟩
def pairsF:List Fct:=[⟨0,[1,2]⟩,⟨0,[2,3]⟩]
def fullF:List Fct:=[⟨0,[1,2]⟩,⟨0,[2,3]⟩,⟨1,[1,2]⟩,⟨1,[1,3]⟩,⟨1,[2,3]⟩]
theorem sn:Fn 41 [] (λres=>res=db smallP):=by
 refine fqE Tryz.func41 ?_;intro O w0 E0 β0;repeat' (first|refine zr ?_|fail)
 exact⟨.inl rfl,_,rfl,rfl,rfl⟩
theorem fv (p:Int) (l:List Int):Fn 43 [.d (.int .i64 p),.d (.slice 1 (l.map ah))] (λr=>r=c9 ⟨p,l⟩):=by
 refine fqE Tryz.func43 ?_;intro O w0 E0 β0;repeat' (first|refine zr ?_|fail)
 exact⟨.inl rfl,_,rfl,rfl,rfl⟩
theorem lpairs_fn:Fn 42 [] (λr=>r = .d (.slice 2 (pairsF.map aa))):=by
 refine fqE Tryz.func42 ?_;intro O w0 E0 β0;have e1:=fv 0 [1,2];have e2:=fv 0 [2,3];repeat' (first|refine zr ?_|refine z21 ?_ (hc:=by apply e1)|refine z21 ?_ (hc:=by apply e2)|fail)
 exact⟨.inl rfl,_,rfl,rfl,rfl⟩
theorem lfull_fn:Fn 45 [] (λr=>r = .d (.slice 2 (fullF.map aa))):=by
 refine fqE Tryz.func45 ?_;intro O w0 E0 β0;have e1:=fv 0 [1,2];have e2:=fv 0 [2,3];have e3:=fv 1 [1,2];have e4:=fv 1 [1,3];have e5:=fv 1 [2,3];repeat' (first|refine zr ?_|refine z21 ?_ (hc:=by apply e1)|refine z21 ?_ (hc:=by apply e2)|refine z21 ?_ (hc:=by apply e3)|refine z21 ?_ (hc:=by apply e4)|refine z21 ?_ (hc:=by apply e5)|fail)
 exact⟨.inl rfl,_,rfl,rfl,rfl⟩
variable [Bnds]
theorem grow_fn (n:Nat) (hn:n<=4398046511104):FnOk false Tryz.prog tab bp 135 [.nils,.d (.int .i64 n)] 0 0 [] (λ_ r H=>r = .row 0/\H=[(0,.row 37 2 [])]):=by
 refine frE Tryz.func135 ?_;intro O w0 E0 β0;by_cases h0:n=0
 ·subst h0;repeat' (first|refine zs ?_|(exfalso;omega))
  refine jo (ms rfl rfl) rfl rfl ?_;repeat' (first|refine zs ?_|(exfalso;omega))
  refine au (dm (t:=4) 37 2 rfl) ?_;repeat' (apply dv)
  exact⟨.inl rfl,_,rfl,kp id 1 (.row 0) ([(0,.row 37 2 [])]) ⟨rfl,rfl⟩⟩
 ·repeat' (first|refine zs ?_|(exfalso;omega))
  refine jo (ms rfl rfl) rfl rfl ?_;repeat' (first|refine zr ?_|(refine zm ?_ ?_<;>intro hg)|(exfalso;omega))
  refine jo (ms rfl rfl) rfl rfl ?_;repeat' refine z0 ?_
  all_goals try (exfalso;omega)
  refine ds_apmk (n:=n) (es:=2) (te:=37) [.int .i64 0,.slice 1 []] rfl rfl (by omega) rfl rfl rfl rfl ⟨.inl rfl,.inr ⟨rfl,1,rfl⟩,trivial⟩ rfl rfl (by omega) (by omega) ?_ (by unfold maxLen;omega) rfl rfl ?_
  ·show n*32<=_;omega
  repeat' (first|refine zs ?_|(exfalso;omega))
  refine au (ent_cut (n:=0) 4 rfl rfl (Ai _) rfl) ?_;repeat' (apply dv)
  exact⟨.inl rfl,_,rfl,kp (λj=>match j with|0=>1|j=>j) 1 (.row 0) ([(0,.row 37 2 [])]) ⟨rfl,rfl⟩⟩
theorem sum_take {ls:List (List Fct)} {i:Nat} (hi:i<ls.length):((ls.take (i+1)).map B8).sum=((ls.take i).map B8).sum+ls[i].length:=by
 rw [Am hi,Av,E5];rfl
theorem sum_le (ls:List (List Fct)) (i:Nat):((ls.take i).map B8).sum<=(ls.map B8).sum:=by
 have h:(ls.map B8).sum=((ls.take i).map B8).sum+((ls.drop i).map B8).sum:=by rw [<- E5,<- Av,List.take_append_drop]
 omega
theorem concat_fn (ls:List (List Fct)) (h:(ls.map B8).sum<=4398046511104) (h2:ls.length<=4398046511104):Fn 75 [.d (.slice 1 (ls.map λl=>[.slice 2 (l.map aa)]))] (λr=>r = .d (.slice 2 (ls.flatten.map aa))):=by
 refine fqE Tryz.func75 ?_;intro O w0 E0 β0;have ll:(ls.map λl=>[D.slice 2 (l.map aa)]).length=ls.length:=Aa _;repeat' (first|refine zs ?_|fail)
 refine ak (ι:=Nat) (λi=>⟨0,[(0,.d (.slice 1 (ls.map λl=>[.slice 2 (l.map aa)]))),(3,.d (.int .i64 (((ls.take i).map B8).sum:Nat))),(9,.d (.slice 1 (ls.map λl=>[.slice 2 (l.map aa)]))),(10,.d (.int .i64 ls.length)),(11,.d (.int .i64 i))],[]⟩)
  (λi=>i<=ls.length) (λi=>ls.length-i) 0 (Ai _) (ag id ⟨rfl,rfl,rfl,by rw [<- ll];rfl,rfl,trivial⟩ trivial rfl rfl rfl rfl rfl rfl) ?_
 intro i g1;by_cases hi:i<ls.length
 ·have h3:=sum_take hi;have h4:=sum_le ls (i+1);have h5:(ls[i].map aa).length=ls[i].length:=Aa _;repeat' (first|refine zs ?_|(refine zm ?_ ?_<;>intro hg)|(exfalso;omega))
  exact⟨i+1,by omega,ag id ⟨rfl,congrArg (λz=>SV.d (.int .i64 z)) (by rw [h3,h5];omega),rfl,rfl,rfl,trivial⟩ trivial rfl rfl rfl rfl rfl rfl,by omega⟩
 ·rw [Ak (by omega)];repeat' (first|refine zs ?_|(refine zm ?_ ?_<;>intro hg)|(exfalso;omega))
  refine bk id (grow_fn (ls.map B8).sum h) rfl rfl rfl rfl trivial rfl rfl rfl rfl rfl rfl ?_ ?_
  ·rintro k2 r H2 ⟨rfl,rfl⟩;exact⟨rfl,rfl⟩
  rintro k2 r H2 ⟨rfl,rfl⟩;change DS _ _ _ _ _ _ _ _;repeat' (first|refine zs ?_|fail)
  refine ak (ι:=Nat) (λi=>⟨1,[(6,.row 0),(25,.d (.slice 1 (ls.map λl=>[.slice 2 (l.map aa)]))),(26,.d (.int .i64 ls.length)),(27,.d (.int .i64 i))],[(0,.row 37 2 ((ls.take i).flatten.map aa))]⟩)
   (λi=>i<=ls.length) (λi=>ls.length-i) 0 (Ai _) (ag id ⟨rfl,rfl,by rw [<- ll];rfl,rfl,trivial⟩ ⟨rfl,trivial⟩ rfl rfl rfl rfl rfl rfl) ?_
  clear hi g1;intro i g1;by_cases hi:i<ls.length
  ·have h3:=sum_take hi;have h4:=sum_le ls (i+1);have h5:(ls[i].map aa).length=ls[i].length:=Aa _;have h6:((ls.take i).flatten.map aa).length=((ls.take i).map B8).sum:=by rw [Aa,List.length_flatten]
   have h7:(ls.take (i+1)).flatten=(ls.take i).flatten++ls[i]:=by rw [Am hi,List.flatten_append];simp
   repeat' (first|refine zr ?_|(refine zm ?_ ?_<;>intro hg)|(exfalso;omega))
   exact⟨i+1,by omega,ag (λ_=>1) ⟨rfl,rfl,rfl,rfl,trivial⟩ ⟨by rw [h7,Av];rfl,trivial⟩ rfl rfl rfl rfl rfl rfl,by omega⟩
  ·rw [Ak (by omega)];repeat' (first|refine zs ?_|(refine zm ?_ ?_<;>intro hg)|(exfalso;omega))
   refine au (cr 2 rfl rfl rfl) ?_;repeat' (apply dv)
   exact⟨.inl rfl,_,rfl,rfl,rfl⟩
variable [Bnds]
theorem unionOf_fn (l m:List Fct) (hl:l.length+m.length<=4398046511104):Fn 115 [.d (.slice 2 (l.map aa)),.d (.slice 2 (m.map aa))] (λr=>r = .d (.slice 2 ((av (l++m)).map aa))):=by
 refine fqE Tryz.func115 ?_;intro O w0 E0 β0;have la:(l.map aa).length=l.length:=Aa _;have lb:(m.map aa).length=m.length:=Aa _;have lc:([]++l.map aa).length=l.length:=by simp
 have w:=wu (l++m) (by rw [Ap];exact hl);rw [Av] at w;repeat' (first|(apply uy;exact rfl;exact rfl;exact rfl;exact rfl;exact rfl;exact rfl;exact rfl;exact rfl)|(first|refine zs ?_|fail))
 refine jw (cr 9 rfl rfl rfl) ?_;repeat' (first|refine zr ?_|refine z21 ?_ (hc:=by apply w)|fail)
 exact⟨.inl rfl,_,rfl,rfl,rfl⟩
def df (l m:List Fct):List Fct:=l.filter λx=>!hasF m x
theorem minusOf_fn (l m:List Fct) (hl:l.length<=4398046511104):Fn 36 [.d (.slice 2 (l.map aa)),.d (.slice 2 (m.map aa))] (λr=>r = .d (.slice 2 ((av (df l m)).map aa))):=by
 refine fqE Tryz.func36 ?_;intro O w0 E0 β0;have la:(l.map aa).length=l.length:=Aa _;have hfl:=Cj (λx=>!hasF m x) l;have w:=wu (df l m) (by unfold df;omega);repeat' (first|refine zs ?_|fail)
 refine au (dm (t:=5) 37 2 rfl) ?_;refine ak (ι:=Nat×List Fct) (λx=>⟨1,[(0,.d (.slice 2 (l.map aa))),(1,.d (.slice 2 (m.map aa))),(5,.row 0),(6,.d (.int .i64 x.1))],[(0,.row 37 2 (x.2.map aa))]⟩)
  (λx=>x.1<=l.length/\x.2=(l.take x.1).filter λx=>!hasF m x) (λx=>l.length-x.1) (0,[]) ⟨Ai _,rfl⟩ (er id) ?_
 rintro⟨i,o⟩ ⟨g1,g2⟩;dsimp only at g1 g2 ⊢;have lo:(o.map aa).length=o.length:=Aa _;have hol:o.length<=i:=by
  have:=Cj (λx=>!hasF m x) (l.take i)
  rw [<- g2] at this;simp at this;omega
 by_cases hi:i<l.length
 ·have wh:=hasFact_fn m l[i];have hstep:(l.take (i+1)).filter (λx=>!hasF m x)=o++[l[i]].filter (λx=>!hasF m x):=by rw [Am hi,C3,<- g2]
  cases hh:hasF m l[i] with
  | true =>
   rw [hh] at wh;have h1:[l[i]].filter (λx=>!hasF m x)=[]:=by simp [hh]
   rw [h1,B0] at hstep;repeat' (first|refine zs ?_|refine z21 ?_ (hc:=by apply wh)|(refine zm ?_ ?_<;>intro hg)|(exfalso;omega))
   exact⟨(i+1,o),⟨by dsimp only;omega,hstep.symm⟩,er id,by show l.length-(i+1)<l.length-i;omega⟩
  | false =>
   rw [hh] at wh;have h1:[l[i]].filter (λx=>!hasF m x)=[l[i]]:=by simp [hh]
   rw [h1] at hstep;repeat' (first|refine zs ?_|refine z21 ?_ (hc:=by apply wh)|(refine zm ?_ ?_<;>intro hg)|(exfalso;omega))
   refine⟨(i+1,o++[l[i]]),⟨by dsimp only;omega,hstep.symm⟩,?_,by show l.length-(i+1)<l.length-i;omega⟩
   dsimp only;rw [Av];exact er (λ_=>1)
 ·have ho:o=df l m:=by unfold df;rw [g2,Ak (by omega)]
  repeat' (first|refine zs ?_|(refine zm ?_ ?_<;>intro hg)|(exfalso;omega))
  refine jw (cr 27 rfl rfl rfl) ?_;rw [ho];repeat' (first|refine zr ?_|refine z21 ?_ (hc:=by apply w)|fail)
  exact⟨.inl rfl,_,rfl,rfl,rfl⟩
variable [Bnds]
def encBm (b:Bool):List D:=[.bool b]
def vb (P:Nat->Bool):Nat->Nat->Bool
 | _,0=>true
 | k,n+1=>P k && vb P (k+1) n
theorem allFrom_step {P:Nat->Bool} {n k:Nat} (h:k<n):vb P k (n-k)=(P k && vb P (k+1) (n-(k+1))):=by
 rw [show n-k=(n-(k+1))+1 by omega];rfl
def matchK (args:List Int) (bound:List Bool) (x:Fct) (k:Nat):Bool:=decide (bound.length<=k) || (!bound.getD k false || decide (x.args.getD k 0=args.getD k 0))
def uk (pred:Int) (args:List Int) (bound:List Bool) (x:Fct):Bool:=(decide (x.pred=pred) && decide ((x.args.length:Int)=(args.length:Int))) && vb (matchK args bound x) 0 args.length
def ug (l:List Fct) (pred:Int) (args:List Int) (bound:List Bool):List Fct:=l.filter (uk pred args bound)
end Go.Proofs.YtapciiffpnociadGreat
