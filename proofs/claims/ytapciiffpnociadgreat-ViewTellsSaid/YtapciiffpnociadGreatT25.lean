/- Several texts in one: RuGq Small RelT RelG RelH RuX RuY RuTa. Condition: none. -/
import Derived.Test.YtapciiffpnociadGreatT24
import Derived.Test.YtapciiffpnociadGreatT23
import Derived.Test.YtapciiffpnociadGreatT10
import Derived.Test.YtapciiffpnociadGreatT12
import Derived.Test.YtapciiffpnociadGreatT11
import Derived.Test.YtapciiffpnociadGreatT22
set_option maxHeartbeats 8000000
open Bool renaming and_eq_true→Ae,not_eq_true'→Eu
open Int renaming toNat_natCast→F4
open List renaming cons_append→C6,ext_getElem?→Ci,getD_eq_getElem?_getD→Dq,getElem?_append_left→Bm,getElem?_append_right→A4,getElem?_eq_getElem→Ad,getElem?_map→Bg,getElem?_set→Ef,getElem?_set_self→B4,getElem_cons_succ→Gl,getElem_cons_zero→Gk,getElem_map→Dh,getElem_mem→Aj,getElem_set_self→Gq,length→Bv,length_append→Af,length_cons→Bj,length_filter_le→C9,length_map→Aa,length_nil→Dl,length_range→Dy,length_set→Ba,length_singleton→Au,length_take→Aq,map_append→Ar,map_congr_left→C7,map_cons→A3,map_map→Ea,mem_cons→Bh,mem_cons_of_mem→Ag,mem_cons_self→Ac,mem_of_getElem?→By,not_mem_nil→B8,replicate→Ap,take_append_of_le_length→Bl,take_of_length_le→Ai
open Nat renaming beq→Aw,beq_refl→Fg,ble_eq_true_of_le→Dt,eq_of_beq_eq_true→Ao,le_of_ble_eq_true→Ab,le_refl→Ah,le_trans→A5,mul_one→Dv,ne_of_beq_eq_false→B0,zero_add→Dk,zero_le→Ak
open Option renaming map_some→Bz
namespace Go.Proofs.YtapciiffpnociadGreat
open Go Go.RowKit
theorem gq {a b:Nat} (h:a≠b):Aw a b=false:=by
 cases hb:Aw a b with
 | true=>exact absurd (Ao hb) h
 | false=>rfl
def gHp:Nat->List Gr->Hp
 | _,[]=>[]
 | j,g::gs=>(2*j+100,.blk 176 [.d (.slice 1 (g.1.map aq)),.row (2*j+101)])::(2*j+101,.row 3 1 (g.2.map aq))::gHp (j+1) gs
def jv (j n:Nat):List SV:=(List.range n).map λi=>.loc (2*(j+i)+100) 0
theorem uw:∀ (gs:List Gr) (j i:Nat) (h:i<gs.length),Hp.get (gHp j gs) (2*(j+i)+100)=some (.blk 176 [.d (.slice 1 ((gs[i]'h).1.map aq)),.row (2*(j+i)+101)])
 | g::gs,j,i,h=>by
  cases i with
  | zero =>
   simp only [gHp,Hp.get,Nat.add_zero,Gk]
   rw [show Aw (2*j+100) (2*j+100)=true from Fg _]
  | succ i =>
   simp only [gHp,Hp.get,Gl]
   rw [gq (by omega:2*j+100≠2*(j+(i+1))+100),gq (by omega:2*j+101≠2*(j+(i+1))+100)]
   simp only
   rw [show 2*(j+(i+1))+100=2*((j+1)+i)+100 by omega,show 2*(j+(i+1))+101=2*((j+1)+i)+101 by omega]
   exact uw gs (j+1) i (by simpa using h)
theorem uu:∀ (gs:List Gr) (j i:Nat) (h:i<gs.length),Hp.get (gHp j gs) (2*(j+i)+101)=some (.row 3 1 ((gs[i]'h).2.map aq))
 | g::gs,j,i,h=>by
  cases i with
  | zero =>
   simp only [gHp,Hp.get,Nat.add_zero,Gk]
   rw [gq (by omega:2*j+100≠2*j+101),show Aw (2*j+101) (2*j+101)=true from Fg _]
  | succ i =>
   simp only [gHp,Hp.get,Gl]
   rw [gq (by omega:2*j+100≠2*(j+(i+1))+101),gq (by omega:2*j+101≠2*(j+(i+1))+101)]
   simp only
   rw [show 2*(j+(i+1))+101=2*((j+1)+i)+101 by omega]
   exact uu gs (j+1) i (by simpa using h)
theorem uv:∀ (gs:List Gr) (j:Nat) (p:Nat×HB),p∈gHp j gs->∃ i,∃ h:i<gs.length,p=(2*(j+i)+100,.blk 176 [.d (.slice 1 ((gs[i]'h).1.map aq)),.row (2*(j+i)+101)])∨p=(2*(j+i)+101,.row 3 1 ((gs[i]'h).2.map aq))
 | [],_,_,h=>by simp [gHp] at h
 | g::gs,j,p,h=>by
  simp only [gHp,Bh] at h
  rcases h with rfl|rfl|h
  ·exact⟨0,by simp,.inl rfl⟩
  ·exact⟨0,by simp,.inr rfl⟩
  ·obtain⟨i,hi,h⟩:=uv gs (j+1) p h
   refine⟨i+1,by simpa using hi,?_⟩
   rw [show j+(i+1)=j+1+i by omega]
   simpa using h
theorem gHp_nodup:∀ (gs:List Gr) (j:Nat),((gHp j gs).map (·.1)).Nodup
 | [],_=>by simp [gHp]
 | g::gs,j=>by
  simp only [gHp,A3,List.nodup_cons,Bh,not_or]
  refine⟨⟨by omega,λh=>?_⟩,λh=>?_,gHp_nodup gs (j+1)⟩
  ·obtain⟨p,hp,he⟩:=List.mem_map.1 h
   obtain⟨i,hi,h|h⟩:=uv gs (j+1) p hp<;>subst h<;>simp only at he<;>omega
  ·obtain⟨p,hp,he⟩:=List.mem_map.1 h
   obtain⟨i,hi,h|h⟩:=uv gs (j+1) p hp<;>subst h<;>simp only at he<;>omega
theorem gHp_ge {gs:List Gr} {j:Nat} {p:Nat×HB} (h:p∈gHp j gs):2*j+100<=p.1/\p.1<2*(j+gs.length)+100:=by
 obtain⟨i,hi,h|h⟩:=uv gs j p h<;>subst h<;>simp only<;>omega
theorem c8 {l:List Nat} (h:l.Nodup):aw l=true:=by
 induction l with
 | nil=>rfl
 | cons x l ih =>
  obtain⟨h1,h2⟩:=List.nodup_cons.1 h;have hn:∀ (r:List Nat),x ∉ r->notIn x r=true:=by
   intro r;induction r with
   | nil=>intro _;rfl
   | cons y r ih2 =>
    intro hx;rw [Bh,not_or] at hx;simp only [notIn,Ae,Eu];exact⟨gq hx.1,ih2 hx.2⟩
  simp only [aw,Ae];exact⟨hn l h1,ih h2⟩
theorem gHp_low {k:Nat}:∀ (gs:List Gr) (j:Nat),2*(j+gs.length)+100<=k->Hp.low k (gHp j gs)=true
 | [],_,_=>rfl
 | g::gs,j,h=>by
  rw [Bj] at h
  simp only [gHp,Hp.low,Ae]
  refine⟨Dt (by omega),?_,Dt (by omega),rfl,gHp_low gs (j+1) (by omega)⟩
  show SV.lowL k _=true
  simp only [SV.lowL,SV.low,Ae,Bool.true_and]
  exact⟨Dt (by omega),trivial⟩
def gsT (r:Rul) (ways:List (List Int)) (i:Nat):List Gr:=ur ((ways.take i).map (pW r))
def slT (gs:List Gr) (cap:Nat):SV:=match gs with
 | []=>.nils
 | g::gs=>.sl 2 0 (g::gs).length cap
def stT (r:Rul) (gs:List Gr) (cap:Nat):Hp:=match gs with
 | []=>[(0,.blk 64 [.d (.int .i64 r.pred),.d (.slice 2 (r.terms.map av)),.d (.int .i64 r.fold),.d (.slice 4 (r.body.map ay)),.d (.int .i64 r.vars)]),(1,.blk 3 [.d (.int .i64 ((r.terms.length-1:Nat):Int))])]
 | g::gs=>(0,.blk 64 [.d (.int .i64 r.pred),.d (.slice 2 (r.terms.map av)),.d (.int .i64 r.fold),.d (.slice 4 (r.body.map ay)),.d (.int .i64 r.vars)])::(1,.blk 3 [.d (.int .i64 ((r.terms.length-1:Nat):Int))]) ::
  (2,.blk 174 (jv 0 (g::gs).length++Ap (cap-(g::gs).length) .junk))::gHp 0 (g::gs)
theorem addG_len (gs:List Gr) (w:List Int×Int):(addG gs w).length<=gs.length+1:=by
 unfold addG;split
 ·rw [Ba];omega
 ·simp
theorem foldG_len:∀ (ws:List (List Int×Int)) (gs:List Gr),(ws.foldl addG gs).length<=gs.length+ws.length
 | [],_=>by simp
 | w::ws,gs=>by
  rw [List.foldl_cons]
  have h1:=foldG_len ws (addG gs w)
  have h2:=addG_len gs w
  rw [Bj];omega
theorem groupsL_len (r:Rul) (ways:List (List Int)) {i:Nat}:(gsT r ways i).length<=i:=by
 have h:=foldG_len ((ways.take i).map (pW r)) [];rw [Aa,Aq] at h;unfold gsT ur;simp only [Dl] at h;omega
theorem renL_junk (ρ:Nat->Nat):∀ n,SV.renL ρ (Ap n .junk)=Ap n .junk
 | 0=>rfl
 | n+1=>by rw [List.replicate_succ];simp only [SV.renL,SV.ren,renL_junk ρ n]
section
variable {Γ : Ctx} {k : Nat} {L : Sl} {H : Hp} {a : Act} {w : World} {e : Env}
theorem lend_pd (m:Models Γ k L H e a w) {id:Nat} {ds:List D} (hb:BlkOk (λ_=>True) H id ds) {X:Nat->Prop} {v:Value} (hr:Rel X e w (.loc id 0) v):Rel Γ.O e w (.pd ds) v :=
 ptr_pd (ptr_rep m (X':=Γ.O) (λ_ ho=>.inl ho) (λp hp _ b hb ho=>(m.mine b (List.mem_filterMap.2 ⟨p,hp,hb⟩)).2 ho) hb hr.2)
theorem lend_fn2 (m:Models Γ k L H e a w) {t f i j:Nat} {ds1 ds2:List D} (hy:L.get t = .fn f [.loc i 0,.loc j 0]) (h1:BlkOk (λ_=>True) H i ds1) (h2:BlkOk (λ_=>True) H j ds2):Rel Γ.O e w (.fn f [.pd ds1,.pd ds2]) (a.eval (.tmp t)):=by
 have hs:=m.slot t;rw [hy] at hs;obtain⟨vs,h3,h4⟩:=hs;refine⟨vs,h3,?_⟩
 match vs,h4 with
 | [u,v],⟨q1,q2,_⟩=>exact⟨lend_pd m h1 q1,lend_pd m h2 q2,trivial⟩
theorem lend_sl (m:Models Γ k L H e a w) {t i n cap:Nat} {te:TypeId} {cs:List SV} {dss:List (List D)} (hx:L.get t = .sl i 0 n cap) (hH:Hp.get H i=some (.blk te cs)) (hn:dss.length=n)
  (hc:∀ j (h:j<dss.length),∃ id,cs[j]?=some (.loc id 0)/\BlkOk (λ_=>True) H id dss[j]):Rel Γ.O e w (.d (.slice 1 (dss.map λds=>[.ptr ds]))) (a.eval (.tmp t)):=by
 have hs:=m.slot t;rw [hx] at hs;exact ptrs_rep m (X':=Γ.O) (S:=λ_=>True) (λ_ ho=>.inl ho) (λp hp _ b hb ho=>(m.mine b (List.mem_filterMap.2 ⟨p,hp,hb⟩)).2 ho) trivial hH hn hc hs
theorem lend_nil (m:Models Γ k L H e a w) {t es:Nat} (hx:L.get t = .nils):Rel Γ.O e w (.d (.slice es [])) (a.eval (.tmp t)):=by
 have hs:=m.slot t;rw [hx] at hs;rw [show a.eval (.tmp t) = .slice none 0 0 from hs];exact .nil
theorem blk1 {S:Nat->Prop} {H:Hp} {id:Nat} {ty:TypeId} {d:D} (hS:S id) (h:Hp.get H id=some (.blk ty [.d d])):BlkOk S H id [d] :=
 ⟨hS,ty,_,h,λj hj=>by
  have:j=0:=by simpa using hj
  subst this;exact⟨.d d,rfl,.inl rfl⟩⟩
end
theorem jr:∀ {pre H:Hp} {t:Nat},(∀ p∈pre,p.1≠t)->Hp.get (pre++H) t=Hp.get H t
 | [],_,_,_=>rfl
 | (d,s)::pre,H,t,h=>by
  rw [C6]
  simp only [Hp.get]
  rw [gq (h (d,s) (Ac ..))]
  exact jr λp hp=>h p (Ag _ hp)
theorem grpBlk {pre:Hp} {gs:List Gr} {j:Nat} (hj:j<gs.length) (hp:∀ p∈pre,p.1<100∨5000<=p.1) (hl:gs.length<=2000) :
  BlkOk (λ_=>True) (pre++gHp 0 gs) (2*(0+j)+100) [.slice 1 ((gs[j]'hj).1.map aq),.slice 1 ((gs[j]'hj).2.map aq)]:=by
 refine⟨trivial,_,_,(jr λp hpp=>?_).trans (uw gs 0 j hj),λi hi=>?_⟩
 ·have:=hp p hpp;omega
 ·match i,hi with
  | 0,_=>exact⟨_,rfl,.inl rfl⟩
  | 1,_=>exact⟨_,rfl,.inr (.inl ⟨_,_,_,_,rfl,trivial,(jr λp hpp=>by have:=hp p hpp;omega).trans (uu gs 0 j hj),rfl⟩)⟩
theorem qv {n j:Nat} (h:j<n) (t:List SV):(jv 0 n++t)[j]?=some (.loc (2*(0+j)+100) 0):=by
 unfold jv;rw [Bm (by simpa using h),Bg,List.getElem?_range h];rfl
def dsG (g:Gr):List D:=[.slice 1 (g.1.map aq),.slice 1 (g.2.map aq)]
theorem ob {ρ:Nat->Nat} {H:Hp}:∀ {H':Hp},(∀ p∈H',Hp.get H (ρ p.1)=some (p.2.ren ρ))->KnowsH ρ H H'
 | [],_=>trivial
 | (_,_)::_,h=>⟨h _ (Ac ..),ob λp hp=>h p (Ag _ hp)⟩
def gTl (j:Nat) (gs:List Gr):Hp:=(gHp 0 gs).filter λp=>!(Aw p.1 (2*(0+j)+100)) && !(Aw p.1 (2*(0+j)+101))
def rhoJ (j x:Nat):Nat:=match Aw x 3 with
 | true=>2*(0+j)+100
 | false=>match Aw x 4 with
  | true=>2*(0+j)+101
  | false=>match Aw x 6 with
   | true=>5000
   | false=>x
theorem rhoJ_ge {j x:Nat} (h:100<=x):rhoJ j x=x:=by
 unfold rhoJ;rw [gq (by omega:x≠3),gq (by omega:x≠4),gq (by omega:x≠6)]
theorem knows_tl {pre:Hp} {gs:List Gr} {j:Nat} (hp:∀ p∈pre,p.1<100∨5000<=p.1) (hl:gs.length<=2000):∀ p∈gTl j gs,Hp.get (pre++gHp 0 gs) (rhoJ j p.1)=some (p.2.ren (rhoJ j)):=by
 intro p hpm;obtain⟨i,hi,h|h⟩:=uv gs 0 p (List.mem_filter.1 hpm).1
 ·subst h;rw [rhoJ_ge (by simp only;omega)];refine (jr λq hq=>by have:=hp q hq;simp only;omega).trans ((uw gs 0 i hi).trans ?_);simp only [HB.ren,SV.renL,SV.ren,rhoJ_ge (j:=j) (x:=2*(0+i)+101) (by omega)]
 ·subst h;rw [rhoJ_ge (by simp only;omega)];exact (jr λq hq=>by have:=hp q hq;simp only;omega).trans (uu gs 0 i hi)
theorem Hp_low_of {k:Nat}:∀ {H:Hp},(∀ p∈H,p.1<k/\p.2.low k=true)->Hp.low k H=true
 | [],_=>rfl
 | (i,b)::H,h=>by
  simp only [Hp.low,Ae]
  have:=h (i,b) (Ac ..)
  exact⟨Dt (by simp only at this;omega),this.2,Hp_low_of λp hp=>h p (Ag _ hp)⟩
theorem gTl_low {j:Nat} {gs:List Gr} (hl:gs.length<=2000):Hp.low 5000 (gTl j gs)=true:=by
 refine Hp_low_of λp hp=>?_
 have hp:=(List.mem_filter.1 hp).1;have h1:=Hp.low_spec _ (gHp_low (k:=5000) gs 0 (by omega)) p hp;exact h1
theorem gTl_ids {j:Nat} {gs:List Gr}:((gTl j gs).map (·.1)).Nodup/\∀ i∈(gTl j gs).map (·.1),100<=i/\i≠2*(0+j)+100/\i≠2*(0+j)+101:=by
 refine⟨(List.filter_sublist.map _).nodup (gHp_nodup gs 0),λi hi=>?_⟩
 obtain⟨p,hp,rfl⟩:=List.mem_map.1 hi;obtain⟨h1,h2⟩:=List.mem_filter.1 hp;simp only [Ae,Eu] at h2;exact⟨by have:=gHp_ge h1;omega,B0 h2.1,B0 h2.2⟩
theorem gTl_lt {j:Nat} {gs:List Gr} (hl:gs.length<=2000):∀ i∈(gTl j gs).map (·.1),i<5000:=by
 intro i hi;obtain⟨p,hp,rfl⟩:=List.mem_map.1 hi;have:=gHp_ge (List.mem_filter.1 hp).1
 omega
theorem ia {j:Nat} {gs:List Gr} (hl:gs.length<=2000) {a:List Nat} (ha:a.Nodup) (hx:∀ x∈a,x<100∨5000<=x∨x=2*(0+j)+100∨x=2*(0+j)+101):(a++(gTl j gs).map (·.1)).Nodup:=by
 refine List.nodup_append.2 ⟨ha,gTl_ids.1,λx hxa y hy he=>?_⟩;subst he;have h1:=hx x hxa;have h2:=gTl_ids.2 x hy;have h3:=gTl_lt hl x hy;omega
theorem gTl_rho {j:Nat} {gs:List Gr}:(gTl j gs).map (λp=>rhoJ j p.1)=(gTl j gs).map (·.1) :=
 C7 λp hp=>rhoJ_ge (gTl_ids.2 p.1 (List.mem_map.2 ⟨p,hp,rfl⟩)).1
theorem lowL_of {k:Nat}:∀ {l:List SV},(∀ s∈l,s.low k=true)->SV.lowL k l=true
 | [],_=>rfl
 | s::l,h=>by
  simp only [SV.lowL,Ae]
  exact⟨h s (Ac ..),lowL_of λt ht=>h t (Ag _ ht)⟩
theorem cells_low {n m j:Nat} (hn:n<=2000):SV.lowL 5000 ((jv 0 n++Ap m SV.junk).set j (.loc 3 0))=true:=by
 refine lowL_of λs hs=>?_
 rcases List.mem_or_eq_of_mem_set hs with hs|rfl
 ·rcases List.mem_append.1 hs with hs|hs
  ·unfold jv at hs;obtain⟨i,hi,rfl⟩:=List.mem_map.1 hs;have:=List.mem_range.1 hi
   exact Dt (by omega)
  ·rw [(List.mem_replicate.1 hs).2];rfl
 ·rfl
theorem renL_map (ρ:Nat->Nat):∀ (l:List SV),SV.renL ρ l=l.map (SV.ren ρ)
 | []=>rfl
 | s::l=>by simp only [SV.renL,A3,renL_map ρ l]
theorem cells_ren {j n m:Nat} (hj:j<n):SV.renL (rhoJ j) ((jv 0 n++Ap m SV.junk).set j (.loc 3 0))=jv 0 n++Ap m SV.junk:=by
 have h3:SV.ren (rhoJ j) (.loc 3 0) = .loc (2*(0+j)+100) 0:=rfl;have hid:(jv 0 n).map (SV.ren (rhoJ j))=jv 0 n:=by
  unfold jv;rw [Ea];refine C7 λi _=>?_
  show SV.loc (rhoJ j (2*(0+i)+100)) 0=_;rw [rhoJ_ge (by omega)]
 rw [renL_map,List.map_set,Ar,hid,h3,List.map_replicate];exact set_same (qv hj _)
theorem sa {τ:List (Nat×TI)} {g:Operand->SV} {η:Nat->Option HB} {z d id off:Nat} {t ty e:TypeId} {x:Operand} {cs:List SV} {s:SV} (ht:(aj τ t).sh = .ptr e) (hx:g x = .loc id off) (hη:η id=some (.blk ty cs)) (hc:cs[off]?=some s):iz τ g η z (some d) (.load t x)=some (True,s,.no):=by
 simp [iz,mj,evC,loadP,sy,ht,hx,hη,hc,ke]
theorem ut (f:Nat->Bool):∀ (H:Hp) (t:Nat),f t=true->Hp.get (H.filter λp=>f p.1) t=Hp.get H t
 | [],_,_=>rfl
 | (d,s)::H,t,h=>by
  rw [List.filter_cons]
  cases hb:Aw d t with
  | true =>
   have:=Ao hb
   subst this
   rw [if_pos h]
   simp only [Hp.get,hb]
  | false =>
   split
   ·simp only [Hp.get,hb];exact ut f H t h
   ·simp only [Hp.get,hb];exact ut f H t h
theorem gTl_blk {gs:List Gr} {i j:Nat} (hi:i<gs.length) (hij:i≠j):Hp.get (gTl j gs) (2*(0+i)+100)=some (.blk 176 [.d (.slice 1 ((gs[i]'hi).1.map aq)),.row (2*(0+i)+101)]):=by
 unfold gTl;rw [ut (λx=>!(Aw x (2*(0+j)+100)) && !(Aw x (2*(0+j)+101))) _ _ (by rw [gq (by omega),gq (by omega)];rfl)];exact uw gs 0 i hi
theorem gTl_row {gs:List Gr} {i j:Nat} (hi:i<gs.length) (hij:i≠j):Hp.get (gTl j gs) (2*(0+i)+101)=some (.row 3 1 ((gs[i]'hi).2.map aq)):=by
 unfold gTl;rw [ut (λx=>!(Aw x (2*(0+j)+100)) && !(Aw x (2*(0+j)+101))) _ _ (by rw [gq (by omega),gq (by omega)];rfl)];exact uu gs 0 i hi
def rhoB (j x:Nat):Nat:=match Aw x (2*(0+j)+100) with
 | true=>3
 | false=>match Aw x (2*(0+j)+101) with
  | true=>5016
  | false=>x
theorem oc {j x:Nat} (h1:x≠2*(0+j)+100) (h2:x≠2*(0+j)+101):rhoB j x=x:=by
 unfold rhoB;rw [gq h1,gq h2]
theorem sp (j:Nat):rhoB j (2*(0+j)+100)=3:=by
 unfold rhoB;rw [Fg]
theorem sm (j:Nat):rhoB j (2*(0+j)+101)=5016:=by
 unfold rhoB;rw [gq (by omega),Fg]
theorem knows_back {gs:List Gr} {j:Nat} {x:Int} {b2 b6 b0 b1:HB} (hj:j<gs.length) (hl:gs.length<=2000) :
  ∀ p∈gHp 0 (gs.set j ((gs[j]'hj).1,(gs[j]'hj).2++[x])),
   Hp.get ([(5016,.row 3 1 ((gs[j]'hj).2.map aq++[[.int .i64 x]])),(3,.blk 176 [.d (.slice 1 ((gs[j]'hj).1.map aq)),.row 5016]),(2,b2),(6,b6),(0,b0),(1,b1)]++gTl j gs) (rhoB j p.1)=some (p.2.ren (rhoB j)):=by
 intro p hp;obtain⟨i,hi,h⟩:=uv _ 0 p hp;have hi':i<gs.length:=by simpa using hi
 have hout:∀ (t:Nat),100<=t->t<5000->Hp.get ([(5016,HB.row 3 1 ((gs[j]'hj).2.map aq++[[.int .i64 x]])),(3,.blk 176 [.d (.slice 1 ((gs[j]'hj).1.map aq)),.row 5016]),(2,b2),(6,b6),(0,b0),(1,b1)]++gTl j gs) t=Hp.get (gTl j gs) t:=by
  intro t h1 h2;refine jr λq hq=>?_
  simp only [Bh,B8,or_false] at hq;rcases hq with rfl|rfl|rfl|rfl|rfl|rfl<;>simp only<;>omega
 by_cases hij:i=j
 ·subst hij;rcases h with rfl|rfl
  ·simp only [sp,HB.ren,SV.renL,SV.ren,sm,Gq];rfl
  ·simp only [sm,HB.ren,Gq,Ar];rfl
 ·have he:(gs.set j ((gs[j]'hj).1,(gs[j]'hj).2++[x]))[i]=gs[i]:=List.getElem_set_ne (Ne.symm hij) _;rcases h with rfl|rfl
  ·simp only [he];rw [oc (by omega) (by omega),hout _ (by omega) (by omega),gTl_blk hi' hij];simp only [HB.ren,SV.renL,SV.ren,oc (j:=j) (x:=2*(0+i)+101) (by omega) (by omega)]
  ·simp only [he];rw [oc (by omega) (by omega),hout _ (by omega) (by omega),gTl_row hi' hij];rfl
theorem cells_back {j n m:Nat} (hj:j<n):SV.renL (rhoB j) (jv 0 n++Ap m SV.junk)=(jv 0 n++Ap m SV.junk).set j (.loc 3 0):=by
 rw [renL_map];apply Ci;intro i;rw [Bg,Ef];by_cases hij:j=i
 ·subst hij;rw [if_pos rfl,qv hj,if_pos (by rw [Af];unfold jv;rw [Aa,Dy];omega)];simp only [Bz,SV.ren,sp]
 ·rw [if_neg hij];by_cases hi:i<n
  ·rw [qv hi];simp only [Bz,SV.ren,oc (j:=j) (x:=2*(0+i)+100) (by omega) (by omega)]
  ·rw [A4 (by unfold jv;rw [Aa,Dy];omega)];cases hk:(Ap m SV.junk)[i-(jv 0 n).length]? with
   | none=>rfl
   | some s =>
    rw [(List.mem_replicate.1 (By hk)).2];rfl
theorem addG_some {gs:List Gr} {w:List Int×Int} {j:Nat} (hj:j<gs.length) (hf:gs.findIdx? (λg=>decide (g.1=w.1))=some j):addG gs w=gs.set j ((gs[j]'hj).1,(gs[j]'hj).2++[w.2]):=by
 have h:=(List.findIdx?_eq_some_iff_findIdx_eq.1 hf).2;unfold addG;rw [h,Ad hj]
theorem slT_ne {gs:List Gr} {cap:Nat} (h:gs≠[]):slT gs cap = .sl 2 0 gs.length cap:=by
 cases gs with
 | nil=>exact absurd rfl h
 | cons g gs=>rfl
theorem stT_ne {r:Rul} {gs:List Gr} {cap:Nat} (h:gs≠[]):stT r gs cap=(0,.blk 64 [.d (.int .i64 r.pred),.d (.slice 2 (r.terms.map av)),.d (.int .i64 r.fold),.d (.slice 4 (r.body.map ay)),.d (.int .i64 r.vars)])::(1,.blk 3 [.d (.int .i64 ((r.terms.length-1:Nat):Int))]) ::
  (2,.blk 174 (jv 0 gs.length++Ap (cap-gs.length) .junk))::gHp 0 gs:=by
 cases gs with
 | nil=>exact absurd rfl h
 | cons g gs=>rfl
theorem rhoB_inj {j a b:Nat} (ha:a<3∨(100<=a/\a<5000)) (hb:b<3∨(100<=b/\b<5000)) (h:a≠b):rhoB j a≠rhoB j b:=by
 by_cases a1:a=2*(0+j)+100<;>by_cases a2:a=2*(0+j)+101<;>by_cases b1:b=2*(0+j)+100<;>by_cases b2:b=2*(0+j)+101 <;>
  first
  | omega
  | (subst a1;rw [sp,oc b1 b2];omega)
  | (subst a2;rw [sm,oc b1 b2];omega)
  | (subst b1;rw [sp,oc a1 a2];omega)
  | (subst b2;rw [sm,oc a1 a2];omega)
  | (subst a1;subst b2;rw [sp,sm];omega)
  | (subst a2;subst b1;rw [sp,sm];omega)
  | (rw [oc a1 a2,oc b1 b2];exact h)
theorem back_ids {gs:List Gr} (hl:gs.length<=2000):([0,1,2]++(gHp 0 gs).map (λp:Nat×HB=>p.1)).Nodup/\∀ i∈[0,1,2]++(gHp 0 gs).map (λp:Nat×HB=>p.1),i<3∨(100<=i/\i<5000):=by
 have hg:∀ i∈(gHp 0 gs).map (λp:Nat×HB=>p.1),100<=i/\i<5000:=λi hi=>by
  obtain⟨p,hp,rfl⟩:=List.mem_map.1 hi;have:=gHp_ge hp
  omega
 refine⟨List.nodup_append.2 ⟨by simp,gHp_nodup gs 0,λx hx y hy he=>?_⟩,λi hi=>?_⟩
 ·subst he;have:=hg x hy
  simp only [Bh,B8,or_false] at hx;omega
 ·rcases List.mem_append.1 hi with hi|hi
  ·simp only [Bh,B8,or_false] at hi;omega
  ·exact .inr (hg i hi)
theorem back_rho {j:Nat} {gs:List Gr} (hl:gs.length<=2000):(([0,1,2]++(gHp 0 gs).map (λp:Nat×HB=>p.1)).map (rhoB j)).Nodup:=by
 obtain⟨h1,h2⟩:=back_ids hl;refine List.pairwise_map.2 (List.Pairwise.imp_of_mem (λha hb h=>rhoB_inj (h2 _ ha) (h2 _ hb) h) h1)
theorem cells_low0 {n m:Nat} (hn:n<=2000):SV.lowL 5000 (jv 0 n++Ap m SV.junk)=true:=by
 refine lowL_of λs hs=>?_
 rcases List.mem_append.1 hs with hs|hs
 ·unfold jv at hs;obtain⟨i,hi,rfl⟩:=List.mem_map.1 hs;have:=List.mem_range.1 hi
  exact Dt (by omega)
 ·rw [(List.mem_replicate.1 hs).2];rfl
theorem addG_new {gs:List Gr} {w:List Int×Int} (hf:gs.findIdx? (λg=>decide (g.1=w.1))=none):addG gs w=(gs++[(w.1,[])]).set gs.length (w.1,[]++[w.2]):=by
 have h:gs.findIdx (λg=>decide (g.1=w.1))=gs.length:=List.findIdx_eq_length.2 (λg hg=>by simpa using List.findIdx?_eq_none_iff.1 hf g hg);unfold addG;rw [h,List.getElem?_eq_none (Ah _),List.set_append_right _ _ (Ah _),Nat.sub_self];rfl
theorem gHp_app:∀ (gs:List Gr) (j:Nat) (g:Gr),gHp j (gs++[g])=gHp j gs++[(2*(j+gs.length)+100,.blk 176 [.d (.slice 1 (g.1.map aq)),.row (2*(j+gs.length)+101)]),(2*(j+gs.length)+101,.row 3 1 (g.2.map aq))]
 | [],_,_=>rfl
 | h::gs,j,g=>by
  rw [C6,gHp,gHp,gHp_app gs (j+1) g,Bj,show j+1+gs.length=j+(gs.length+1) by omega]
  rfl
theorem gTl_app (gs:List Gr) (g:Gr):gTl gs.length (gs++[g])=gHp 0 gs:=by
 unfold gTl;rw [gHp_app,List.filter_append];have h1:(gHp 0 gs).filter (λp=>!(Aw p.1 (2*(0+gs.length)+100)) && !(Aw p.1 (2*(0+gs.length)+101)))=gHp 0 gs:=by
  refine List.filter_eq_self.2 λp hp=>?_
  have:=gHp_ge hp
  rw [gq (by omega),gq (by omega)];rfl
 rw [h1];simp [Fg]
theorem gsT_succ {r:Rul} {ways:List (List Int)} {i:Nat} (hi:i<ways.length):gsT r ways (i+1)=addG (gsT r ways i) (pW r ways[i]):=by
 unfold gsT ur;rw [List.take_succ_eq_append_getElem hi,Ar,List.foldl_append];rfl
def rhoN (b r x:Nat):Nat:=match Aw x 3 with
 | true=>5001
 | false=>match Aw x 4 with
  | true=>r
  | false=>match Aw x 6 with
   | true=>5000
   | false=>match Aw x 2 with
    | true=>b
    | false=>x
theorem rhoN_ge {b r x:Nat} (h:100<=x):rhoN b r x=x:=by
 unfold rhoN;rw [gq (by omega:x≠3),gq (by omega:x≠4),gq (by omega:x≠6),gq (by omega:x≠2)]
theorem gTl_rhoN {b r j:Nat} {gs:List Gr}:(gTl j gs).map (λp=>rhoN b r p.1)=(gTl j gs).map (·.1) :=
 C7 λp hp=>rhoN_ge (gTl_ids.2 p.1 (List.mem_map.2 ⟨p,hp,rfl⟩)).1
def preOk:Hp->Bool
 | []=>true
 | (i,_)::H=>(Nat.blt i 100 || Nat.ble 5000 i) && preOk H
theorem preOk_spec:∀ {H:Hp},preOk H=true->∀ p∈H,p.1<100∨5000<=p.1
 | [],_,_,h=>by simp at h
 | (i,b)::H,h,p,hp=>by
  simp only [preOk,Ae,Bool.or_eq_true] at h
  rcases List.mem_cons.1 hp with rfl|hp
  ·rcases h.1 with h1|h1
   ·exact .inl (Nat.lt_of_succ_le (Ab h1))
   ·exact .inr (Ab h1)
  ·exact preOk_spec h.2 p hp
theorem knowsN {b r:Nat} {pre:Hp} {gs:List Gr} (hpo:preOk pre=true) (hl:gs.length<=2000):∀ p∈gHp 0 gs,Hp.get (pre++gHp 0 gs) (rhoN b r p.1)=some (p.2.ren (rhoN b r)):=by
 intro p hpm;have hp:=preOk_spec hpo;obtain⟨i,hi,h|h⟩:=uv gs 0 p hpm
 ·subst h;rw [rhoN_ge (by simp only;omega)];refine (jr λq hq=>by have:=hp q hq;simp only;omega).trans ((uw gs 0 i hi).trans ?_);simp only [HB.ren,SV.renL,SV.ren,rhoN_ge (b:=b) (r:=r) (x:=2*(0+i)+101) (by omega)]
 ·subst h;rw [rhoN_ge (by simp only;omega)];exact (jr λq hq=>by have:=hp q hq;simp only;omega).trans (uu gs 0 i hi)
theorem il (j n:Nat):(jv j n).length=n:=by unfold jv;rw [Aa,Dy]
theorem cellsN {b r n m:Nat}:SV.renL (rhoN b r) ((jv 0 (n+1)++Ap m SV.junk).set n (.loc 3 0))=jv 0 n++[.loc 5001 0]++Ap m SV.junk:=by
 rw [renL_map];apply Ci;intro i;rw [Bg,Ef];by_cases hi:n=i
 ·subst hi;rw [if_pos rfl,if_pos (by rw [Af,il];omega),Bm (by rw [Af,il];simp),A4 (by rw [il];exact Ah _),il,Nat.sub_self];rfl
 ·rw [if_neg hi];by_cases h2:i<n
  ·rw [qv (by omega),List.append_assoc,qv h2];simp only [Bz,SV.ren,rhoN_ge (b:=b) (r:=r) (x:=2*(0+i)+100) (by omega)]
  ·rw [A4 (by rw [il];omega),A4 (by rw [Af,il,Au];omega),il,Af,il,Au];cases hk:(Ap m SV.junk)[i-(n+1)]? with
   | none=>rfl
   | some s=>rw [(List.mem_replicate.1 (By hk)).2];rfl
theorem spliceN {n cap:Nat} (s:SV):ky (jv 0 n++Ap (cap-n) SV.junk) (0+n) [s]=jv 0 n++[s]++Ap (cap-(n+1)) SV.junk:=by
 unfold ky;rw [Dk,Bl (by rw [il];exact Ah _),Ai (by rw [il];exact Ah _),Au,
  List.drop_append,il,List.drop_of_length_le (by rw [il];omega),List.nil_append,show n+1-n=1 by omega,List.drop_replicate,Nat.sub_sub]
theorem growN {n m c:Nat} (s:SV):((jv 0 n++Ap m SV.junk).drop 0).take n++[s]++Ap c SV.junk=jv 0 n++[s]++Ap c SV.junk:=by
 rw [List.drop_zero,Bl (by rw [il];exact Ah _),Ai (by rw [il];exact Ah _)]
theorem grpBlkS {S:Nat->Prop} {pre:Hp} {gs:List Gr} {j:Nat} (hj:j<gs.length) (hS:∀ i,100<=i->S i) (hpo:preOk pre=true) (hl:gs.length<=2000) :
  BlkOk S (pre++gHp 0 gs) (2*(0+j)+100) [.slice 1 ((gs[j]'hj).1.map aq),.slice 1 ((gs[j]'hj).2.map aq)]:=by
 have hp:=preOk_spec hpo;refine⟨hS _ (by omega),_,_,(jr λp hpp=>?_).trans (uw gs 0 j hj),λi hi=>?_⟩
 ·have:=hp p hpp;omega
 ·match i,hi with
  | 0,_=>exact⟨_,rfl,.inl rfl⟩
  | 1,_=>exact⟨_,rfl,.inr (.inl ⟨_,_,_,_,rfl,hS _ (by omega),(jr λp hpp=>by have:=hp p hpp;omega).trans (uu gs 0 j hj),rfl⟩)⟩
theorem own_two {e:Env} {a b:Nat} {t1 t2:TypeId} {c1 c2:List SV} {H:Hp} (h:(ah e ((a,.blk t1 c1)::(b,.blk t2 c2)::H)).Nodup):(ah e [(a,.blk t1 c1),(b,.blk t2 c2)]).Nodup:=by
 have:ah e ((a,.blk t1 c1)::(b,.blk t2 c2)::H)=e.β a::e.β b::ah e H:=rfl
 rw [this] at h;obtain⟨h1,h2⟩:=List.nodup_cons.1 h;show [e.β a,e.β b].Nodup;refine List.nodup_cons.2 ⟨λhm=>h1 ?_,by simp⟩;rw [List.mem_singleton] at hm;exact hm▸Ac ..
theorem ent_groups {Γ:Ctx} {k:Nat} {L:Sl} {r:Rul} {gs:List Gr} {cap:Nat} (hl:gs.length<=2000) (hL:L.get 8=slT gs cap) :
  Ent Γ k L (stT r gs cap) k ((8,.d (.slice 1 (gs.map encG)))::L) [(0,.blk 64 [.d (.int .i64 r.pred),.d (.slice 2 (r.terms.map av)),.d (.int .i64 r.fold),.d (.slice 4 (r.body.map ay)),.d (.int .i64 r.vars)]),(1,.blk 3 [.d (.int .i64 ((r.terms.length-1:Nat):Int))])]:=by
 cases gs with
 | nil=>exact cr 8 1 hL
 | cons g gs =>
  rw [show (g::gs).map encG=((g::gs).map dsG).map λds=>[.ptr ds] by rw [Ea];rfl];refine ent_frz (S:=λi=>i≠0/\i≠1) 8 hL (by simp) rfl (Aa _) (λj hj=>?_) (λp hp=>?_) (by simp) (λe h=>own_two h)
  ·rw [Aa] at hj;refine⟨_,qv hj _,?_⟩
   rw [Dh];exact grpBlkS (pre:=[(_,_),(_,_),(_,_)]) hj (λi hi=>by omega) rfl hl
  ·simp only [Bh,B8,or_false] at hp;rcases hp with rfl|rfl<;>simp [stT]
theorem pW_num {arity:List Int} {r:Rul} {ways:List (List Int)} (hok:HeadOk arity r ways) {w:List Int} (hw:w∈ways):-1000000<=(pW r w).2/\(pW r w).2<=1000000:=by
 show -1000000<=(aW r w).getD (r.terms.length-1) 0/\(aW r w).getD (r.terms.length-1) 0<=1000000;rw [Dq];cases h:(aW r w)[r.terms.length-1]? with
 | none=>simp
 | some x=>exact hok.vals hw x (By h)
theorem grp_ok {arity:List Int} {r:Rul} {ways:List (List Int)} (hok:HeadOk arity r ways) {gs:List Gr} (hinv:InvG gs (ways.map (pW r))) {g:Gr} (hg:g∈gs) :
  g.2≠[]/\(∀ x∈g.2,-1000000<=x/\x<=1000000)/\g.2.length<=1000000/\g.1.length<=3:=by
 have hv:=hinv.vals g hg;obtain⟨w,hw,hwg⟩:=hinv.here g hg;have hm:=hok.many;have ht:=hok.tlen;refine⟨λh=>?_,λx hx=>?_,?_,?_⟩
 ·rw [hv] at h;have:w.2∈lz (ways.map (pW r)) g.1:=List.mem_map.2 ⟨w,List.mem_filter.2 ⟨hw,decide_eq_true hwg⟩,rfl⟩
  rw [h] at this;simp at this
 ·rw [hv] at hx;obtain⟨z,hz,rfl⟩:=List.mem_map.1 hx;obtain⟨u,hu,rfl⟩:=List.mem_map.1 (List.mem_filter.1 hz).1;exact pW_num hok hu
 ·rw [hv];unfold lz;rw [Aa];refine A5 (C9 _ _) ?_;rw [Aa];omega
 ·obtain⟨u,hu,rfl⟩:=List.mem_map.1 hw;rw [<- hwg];show ((aW r u).take (r.terms.length-1)).length<=3;have:(aW r u).length=r.terms.length:=Aa _
  rw [Aq];omega
def zy (r:Rul) (g:Gr):Option Fct:=if okP r.fold g.2 then some ⟨r.pred,g.1++[valP r.fold g.2]⟩ else none
attribute [local irreducible] DW DS DL DQ Ev FnOk FnP ef bt DT
theorem cloneW_fn (l:List Int) (hl:l.length<=17592186044416):FnRow false Tryz.prog tab b9 67 [.d (.slice 1 (l.map aq))] 3 1 (λys=>ys=l.map aq):=by
 refine frE Tryz.func67 ?_;intro O w0 E0 β0;have la:(l.map aq).length=l.length:=Aa _;repeat' (first|refine zs ?_|fail)
 refine ds_eqnil rfl rfl rfl rfl rfl (λh=>?_) ?_
 ·have h0:l=[]:=List.map_eq_nil_iff.1 h;subst h0;repeat' (first|refine zs ?_|fail)
  refine ak (cd (t:=2) 3 1 rfl) ?_;repeat' (first|refine zr ?_|fail)
  exact⟨.inl rfl,_,rfl,kp id 1 (.row 0) ([(0,.row 3 1 [])]) ⟨[],rfl,rfl,rfl⟩⟩
 ·repeat' (first|(apply x5;exact rfl;exact rfl;exact rfl;exact rfl;exact rfl;exact rfl;exact rfl;exact rfl)|(first|refine zs ?_|fail))
  repeat' (apply c9)
  exact⟨.inl rfl,_,rfl,kp (λ_=>1) 1 (.row 0) ([(0,.row 3 1 (l.map aq))]) ⟨_,rfl,rfl,rfl⟩⟩
theorem madeF_fn (arity:List Int) (r:Rul) (ways:List (List Int)) (hok:HeadOk arity r ways) (h0:r.fold≠0):Fn 61 [vf r,.d (.slice 1 (ways.map ey))] (λres=>res = .d (.slice 2 ((a8 (jm r ways)).map ae))):=by
 refine fqE Tryz.func61 ?_;intro O w0 E0 β0;have hmany:=hok.many;have htl:=hok.tlen;have htp:=(hok.rul.folded h0).1;have lw:(ways.map ey).length=ways.length:=Aa _;have lt:(r.terms.map av).length=r.terms.length:=Aa _;have hgl:∀ i,(gsT r ways i).length<=i:=λi=>groupsL_len _ _
 repeat' ((fail_if_success (apply ip 11));(first|refine zs ?_|(refine zm ?_ ?_<;>intro hg)|fail))
 all_goals try (exfalso;omega)
 repeat' (first|refine zs ?_|fail)
 refine ag (ι:=Nat×Nat) (λc=>⟨5000,[(1,.d (.slice 1 (ways.map ey))),(2,.loc 0 0),(5,.nils),(8,slT (gsT r ways c.1) c.2),(9,.loc 1 0),(44,.d (.slice 1 (ways.map ey))),(45,.d (.int .i64 ways.length)),(46,.d (.int .i64 c.1))],stT r (gsT r ways c.1) c.2⟩)
  (λc=>c.1<=ways.length/\(gsT r ways c.1).length<=c.2/\c.2<=maxLen) (λc=>ways.length-c.1) (0,0) ⟨Ak _,Ah _,Ak _⟩
  (ai (λj=>match j with|1=>1|_=>0) ⟨rfl,rfl,rfl,rfl,rfl,rfl,by rw [<- lw];rfl,rfl,trivial⟩ ⟨rfl,by rw [show ((r.terms.length-1:Nat):Int)=(((r.terms.map av).length:Int)-1) by omega];rfl,trivial⟩ rfl rfl rfl rfl rfl rfl) ?_
 rintro⟨i,cap⟩ ⟨g1,g2,g3⟩;dsimp only at g1 g2 g3 ⊢;by_cases hi:i<ways.length
 ·have hm:=Aj hi;have w1:=args_fn r.terms ways[i] (hok.terms hm) (by omega);have hgi:=hgl i;generalize hgs:gsT r ways i=gs at *;cases gs with
  | nil =>
   dsimp only [slT,stT];repeat' (first|refine zs ?_|refine z21 ?_ (hc:=by apply w1)|(refine zm ?_ ?_<;>intro hg)|(exfalso;omega))
   refine ds_lend (args:=[.d (.slice 1 (([]:List Gr).map encG)),.fn 120 [.pd [.slice 1 ((aW r ways[i]).map aq)],.pd [.int .i64 ((r.terms.length-1:Nat):Int)]]]) (r:=.d (.int .i64 (-1))) rfl
    (λe a w m=>⟨lend_nil m rfl,lend_fn2 m rfl (blk1 trivial rfl) (blk1 trivial rfl),trivial⟩)
    (indexG_fn (λg=>decide (g.1=(aW r ways[i]).take (r.terms.length-1))) [] rfl (λg hg=>made1_fn _ _ (by unfold aW;rw [Aa];omega) g)) rfl rfl rfl ?_
   have la:((aW r ways[i]).map aq).length=r.terms.length:=by unfold aW;rw [Aa,Aa]
   repeat' ((fail_if_success (apply bk 19));(first|(apply pa;exact rfl;exact rfl;exact rfl;exact rfl;exact rfl;exact rfl;(refine⟨?_,?_,?_⟩<;>(first|omega|(simp only [Aa];omega)));((with_reducible apply oe);(exact rfl));exact rfl;exact rfl)|refine zs ?_|fail))
   all_goals try (exfalso;omega)
   repeat' ((fail_if_success (apply bk 19));fail)
   all_goals try (exfalso;omega)
   refine ds_bs_sl rfl rfl rfl rfl rfl rfl rfl rfl rfl rfl rfl ?_;refine ds_append_ptr0 rfl rfl rfl rfl rfl rfl rfl rfl rfl rfl rfl rfl (Ab rfl) (λcap' hc1 hc2=>?_);repeat' ((fail_if_success (apply bk 19));(first|refine zs ?_|fail))
   refine ak (ai (λj=>match j with|0=>0|1=>1|2=>5003|3=>5001|6=>5000|_=>0) (k':=7)
    (L':=[(1,.d (.slice 1 (ways.map ey))),(2,.loc 0 0),(5,.nils),(8,.sl 2 0 1 cap'),(9,.loc 1 0),(12,.loc 6 0),(13,.d (.int .i64 0)),(44,.d (.slice 1 (ways.map ey))),(45,.d (.int .i64 ways.length)),(46,.d (.int .i64 i))])
    (H':=[(3,.blk 176 [.d (.slice 1 (((aW r ways[i]).take (r.terms.length-1)).map aq)),.nils]),(2,.blk 174 (.loc 3 0::Ap (cap'-1) .junk)),(6,.blk 22 [.d (.slice 1 ((aW r ways[i]).map aq))]),
     (0,.blk 64 [.d (.int .i64 r.pred),.d (.slice 2 (r.terms.map av)),.d (.int .i64 r.fold),.d (.slice 4 (r.body.map ay)),.d (.int .i64 r.vars)]),(1,.blk 3 [.d (.int .i64 ((r.terms.length-1:Nat):Int))])])
    ?_ ?_ ?_ ?_ ?_ ?_ ?_ ?_) ?_
   ·exact⟨rfl,rfl,rfl,rfl,rfl,rfl,rfl,rfl,rfl,rfl,trivial⟩
   ·exact⟨rfl,by simp only [HB.ren,SV.ren,SV.renL,renL_junk];rfl,rfl,rfl,rfl,trivial⟩
   ·rfl
   ·simp [Hp.low,HB.low,SV.low,SV.lowL,lowL_junk]
   ·rfl
   ·rfl
   ·rfl
   ·rfl
   refine ak (kg 3 1 3 1 rfl rfl rfl) ?_;refine j6 17 (by kernel_rfl) (by kernel_rfl) (by kernel_rfl) rfl rfl rfl ?_;repeat' (first|refine zs ?_|fail)
   all_goals try omega
   have hst:=gsT_succ (r:=r) hi;have hal:r.terms.length-1<(aW r ways[i]).length:=by unfold aW;rw [Aa];omega
   have hgd:(aW r ways[i]).getD (r.terms.length-1) 0=(aW r ways[i])[r.terms.length-1]:=by rw [Dq,Ad hal];rfl
   rw [hgs,show addG [] (pW r ways[i])=[((aW r ways[i]).take (r.terms.length-1),[(aW r ways[i]).getD (r.terms.length-1) 0])] from rfl,hgd] at hst;refine⟨(i+1,cap'),⟨hi,by rw [hst];exact hc1,hc2⟩,?_,by dsimp only;omega⟩
   dsimp only;rw [hst];dsimp only [slT,stT];refine ai (λj=>match j with|0=>0|1=>1|2=>2|100=>3|101=>24|_=>0) ?_ ?_ ?_ ?_ ?_ ?_ ?_ ?_
   ·exact⟨rfl,rfl,rfl,rfl,rfl,rfl,rfl,rfl,trivial⟩
   ·refine⟨rfl,rfl,?_,rfl,?_,trivial⟩
    ·show _=some (HB.blk _ (SV.renL _ (SV.loc 100 0::Ap (cap'-1) .junk)));simp only [SV.ren,SV.renL,renL_junk];rfl
    ·rfl
   ·rfl
   ·simp [gHp,Hp.low,HB.low,SV.low,SV.lowL,lowL_junk,jv]
   ·rfl
   ·rfl
   ·rfl
   ·rfl
  | cons g gs =>
   dsimp only [slT,stT];repeat' (first|refine zs ?_|refine z21 ?_ (hc:=by apply w1)|(refine zm ?_ ?_<;>intro hg)|(exfalso;omega))
   refine ds_lend (args:=[.d (.slice 1 ((g::gs).map encG)),.fn 120 [.pd [.slice 1 ((aW r ways[i]).map aq)],.pd [.int .i64 ((r.terms.length-1:Nat):Int)]]]) (r:=.d (.int .i64 (kr (λg=>decide (g.1=(aW r ways[i]).take (r.terms.length-1))) (g::gs)))) rfl
    (λe a w m=>⟨?_,lend_fn2 m rfl (blk1 trivial rfl) (blk1 trivial rfl),trivial⟩)
    (indexG_fn (λg=>decide (g.1=(aW r ways[i]).take (r.terms.length-1))) (g::gs) rfl (λg hg=>made1_fn _ _ (by unfold aW;rw [Aa];omega) g)) rfl rfl rfl ?_
   ·rw [show (g::gs).map encG=((g::gs).map dsG).map λds=>[.ptr ds] by rw [Ea];rfl];refine lend_sl m rfl rfl (Aa _) (λj hj=>?_);rw [Aa] at hj;refine⟨_,qv hj _,?_⟩
    rw [Dh];exact grpBlk (pre:=[(_,_),(_,_),(_,_),(_,_)]) hj (by intro p hp;simp only [Bh,B8,or_false] at hp;rcases hp with rfl|rfl|rfl|rfl<;>simp) (by omega)
   have la:((aW r ways[i]).map aq).length=r.terms.length:=by unfold aW;rw [Aa,Aa]
   cases hf:(g::gs).findIdx? (λg=>decide (g.1=(aW r ways[i]).take (r.terms.length-1))) with
   | none =>
    rw [show kr (λg=>decide (g.1=(aW r ways[i]).take (r.terms.length-1))) (g::gs) = -1 by unfold kr;rw [hf]];repeat' ((fail_if_success (apply bk 19));(first|(apply pa;exact rfl;exact rfl;exact rfl;exact rfl;exact rfl;exact rfl;(refine⟨?_,?_,?_⟩<;>(first|omega|(simp only [Aa];omega)));((with_reducible apply oe);(exact rfl));exact rfl;exact rfl)|refine zs ?_|fail))
    all_goals try (exfalso;omega)
    refine ds_bs_sl rfl rfl rfl rfl rfl rfl rfl rfl rfl rfl rfl ?_;have hn1:(g::gs).length<=2000:=by omega
    refine ds_append_ptr rfl rfl rfl rfl rfl rfl rfl rfl ?_ rfl rfl rfl rfl rfl ?_ ?_ (λhr=>?_) (λcap' q1 q2 q3=>?_)
    ·rw [Af,List.length_replicate];unfold jv;rw [Aa,Dy];omega
    ·show ((g::gs).length+1)*8<=140737488355328;omega
    ·unfold maxLen;omega
    ·repeat' ((fail_if_success (apply bk 19));(first|refine zs ?_|fail))
     refine ak (kg 5001 1 3 1 rfl rfl rfl) ?_;obtain⟨gs2,hgs2⟩:∃ x,x=(g::gs)++[((pW r ways[i]).1,([]:List Int))]:=⟨_,rfl⟩;obtain⟨j,hj0⟩:∃ j,j=(g::gs).length:=⟨_,rfl⟩;have hl2:gs2.length=(g::gs).length+1:=by rw [hgs2,Af];rfl
     have hj2:j<gs2.length:=by omega
     have hjv:gs2[j]=((pW r ways[i]).1,[]):=by subst hgs2 hj0;simp
     have hT0:gTl j gs2=gHp 0 (g::gs):=by rw [hgs2,hj0];exact gTl_app _ _
     have hst:=gsT_succ (r:=r) hi;rw [hgs,addG_new (w:=pW r ways[i]) hf,<- hgs2,<- hj0] at hst;rw [show (((pW r ways[i]).1,[]++[(pW r ways[i]).2]):Gr)=(gs2[j].1,gs2[j].2++[(pW r ways[i]).2]) by rw [hjv]] at hst;have hgl2:(gs2[j].2.map aq).length<=2000:=by rw [hjv];exact Ak _
     have hn1:gs2.length<=2000:=by omega
     have c2:gs2.length<=cap:=by omega
     have c3:cap<=maxLen:=by assumption
     refine ak (ai (rhoN 2 5003) (k':=5000)
      (L':=[(1,.d (.slice 1 (ways.map ey))),(2,.loc 0 0),(5,.nils),(8,.sl 2 0 gs2.length cap),(9,.loc 1 0),(12,.loc 6 0),(13,.d (.int .i64 j)),(44,.d (.slice 1 (ways.map ey))),(45,.d (.int .i64 ways.length)),(46,.d (.int .i64 i))])
      (H':=(3,.blk 176 [.d (.slice 1 ((gs2[j]'hj2).1.map aq)),.row 4])::(4,.row 3 1 ((gs2[j]'hj2).2.map aq))::(2,.blk 174 ((jv 0 gs2.length++Ap (cap-gs2.length) SV.junk).set j (.loc 3 0)))::(6,.blk 22 [.d (.slice 1 ((aW r ways[i]).map aq))]) ::
       (0,.blk 64 [.d (.int .i64 r.pred),.d (.slice 2 (r.terms.map av)),.d (.int .i64 r.fold),.d (.slice 4 (r.body.map ay)),.d (.int .i64 r.vars)])::(1,.blk 3 [.d (.int .i64 ((r.terms.length-1:Nat):Int))])::gTl j gs2)
      ?_ ?_ ?_ ?_ ?_ ?_ ?_ ?_) ?_
     ·refine⟨rfl,rfl,rfl,?_,rfl,rfl,?_,rfl,rfl,rfl,trivial⟩
      ·rw [hl2];rfl
      ·rw [hj0];rfl
     ·refine⟨?_,?_,?_,rfl,rfl,rfl,ob ?_⟩
      ·rw [hjv];rfl
      ·rw [hjv];rfl
      ·simp only [HB.ren];rw [hl2,hj0,cellsN];exact congrArg (λl=>some (HB.blk _ l)) (spliceN _)
      ·rw [hT0];exact knowsN (pre:=[(_,_),(_,_),(_,_),(_,_),(_,_),(_,_),(_,_)]) rfl (by omega)
     ·rfl
     ·simp only [Hp.low,Ae];exact⟨rfl,rfl,rfl,rfl,rfl,cells_low hn1,rfl,rfl,rfl,rfl,rfl,rfl,gTl_low hn1⟩
     ·refine c8 ?_;simp only [A3,gTl_rhoN];exact ia (a:=[5001,5003,2,5000,0,1]) hn1 (by simp) (by simp)
     ·refine c8 ?_;simp only [A3];exact ia (a:=[3,4,2,6,0,1]) hn1 (by simp) (by simp)
     ·rfl
     ·rfl
     have hdT:aw (3::4::2::6::0::1::(gTl j gs2).map (·.1))=true:=c8 (ia (a:=[3,4,2,6,0,1]) hn1 (by simp) (by simp));have hdT2:aw (5016::3::2::6::0::1::(gTl j gs2).map (·.1))=true:=c8 (ia (a:=[5016,3,2,6,0,1]) hn1 (by simp) (by simp));generalize hT:gTl j gs2=T at hdT hdT2 ⊢;refine j6 17 (by kernel_rfl) (by kernel_rfl) (by kernel_rfl) rfl rfl rfl ?_;refine di rfl rfl trivial rfl rfl rfl hdT rfl ?_;refine di rfl rfl trivial rfl rfl rfl hdT rfl ?_;refine di rfl rfl ?_ rfl rfl rfl hdT rfl ?_
     ·exact⟨by omega,by omega⟩
     have hcj:((jv 0 gs2.length++Ap (cap-gs2.length) SV.junk).set j (.loc 3 0))[0+(j:Int).toNat*1]?=some (.loc 3 0):=by
      rw [Dk,Dv,F4,B4];rw [Af];unfold jv;rw [Aa,Dy];omega
     refine di rfl (sa rfl rfl rfl hcj) trivial rfl rfl rfl hdT rfl ?_;refine di rfl rfl trivial rfl rfl rfl hdT rfl ?_;refine di rfl rfl trivial rfl rfl rfl hdT rfl ?_;refine di rfl rfl ⟨by omega,by omega⟩ rfl rfl rfl hdT rfl ?_;refine di rfl (sa rfl rfl rfl hcj) trivial rfl rfl rfl hdT rfl ?_;refine di rfl rfl trivial rfl rfl rfl hdT rfl ?_;refine di rfl rfl trivial rfl rfl rfl hdT rfl ?_;refine di rfl rfl trivial rfl rfl rfl hdT rfl ?_;refine di rfl rfl trivial rfl rfl rfl hdT rfl ?_;refine di rfl rfl trivial rfl rfl rfl hdT rfl ?_;(apply di;exact rfl;exact rfl;(omega);((with_reducible apply hv_row);(exact rfl);(omega));exact rfl;exact rfl;exact hdT;exact rfl)
     (apply di;exact rfl;exact rfl;(with_reducible exact trivial);(with_reducible exact rfl);exact rfl;exact rfl;exact hdT;exact rfl)
     (apply di;exact rfl;exact rfl;(with_reducible exact trivial);(with_reducible exact rfl);exact rfl;exact rfl;exact hdT;exact rfl)
     have hgl3:(gs2[j].2).length<=2000:=by rw [Aa] at hgl2;exact hgl2
     (apply dt_trade;exact rfl;exact rfl;exact rfl;(unfold maxLen;simp<;>omega);exact rfl;exact rfl;exact rfl;exact hdT;exact rfl;exact rfl)
     refine dt_nil hdT2 ?_;repeat' (first|refine zs ?_|fail)
     have hal:r.terms.length-1<(aW r ways[i]).length:=by unfold aW;rw [Aa];omega
     have hgd:(pW r ways[i]).2=(aW r ways[i])[r.terms.length-1]:=by
      show (aW r ways[i]).getD (r.terms.length-1) 0=_;rw [Dq,Ad hal];rfl
     rw [hgd] at hst;have hne:gs2.set j (gs2[j].1,gs2[j].2++[(aW r ways[i])[r.terms.length-1]])≠[]:=λh=>by
      have:=congrArg Bv h
      rw [Ba,Dl] at this;omega
     refine⟨(i+1,cap),⟨hi,by rw [hst,Ba];exact c2,c3⟩,?_,by dsimp only;omega⟩
     dsimp only;have e1:=slT_ne (cap:=cap) hne;have e2:=stT_ne (r:=r) (cap:=cap) hne;unfold slT at e1;unfold stT at e2;rw [hst,e1,e2,Ba];subst hT;refine ai (rhoB j) ?_ ?_ ?_ ?_ ?_ ?_ ?_ ?_
     ·exact⟨rfl,rfl,rfl,rfl,rfl,rfl,rfl,rfl,trivial⟩
     ·refine⟨rfl,rfl,?_,ob (knows_back hj2 hn1)⟩
      simp only [HB.ren,cells_back hj2];rfl
     ·rfl
     ·simp only [Hp.low,Ae];exact⟨rfl,rfl,rfl,rfl,rfl,cells_low0 hn1,gHp_low _ 0 (by rw [Ba];omega)⟩
     ·refine c8 ?_;have h:=back_rho (j:=j) (gs:=gs2.set j (gs2[j].1,gs2[j].2++[(aW r ways[i])[r.terms.length-1]])) (by rw [Ba];exact hn1);simp only [Ar,Ea] at h;exact h
     ·refine c8 ?_;exact (back_ids (gs:=gs2.set j (gs2[j].1,gs2[j].2++[(aW r ways[i])[r.terms.length-1]])) (by rw [Ba];exact hn1)).1
     ·rfl
     ·rfl
    ·repeat' ((fail_if_success (apply bk 19));(first|refine zs ?_|fail))
     refine ak (kg 5001 1 3 1 rfl rfl rfl) ?_;obtain⟨gs2,hgs2⟩:∃ x,x=(g::gs)++[((pW r ways[i]).1,([]:List Int))]:=⟨_,rfl⟩;obtain⟨j,hj0⟩:∃ j,j=(g::gs).length:=⟨_,rfl⟩;have hl2:gs2.length=(g::gs).length+1:=by rw [hgs2,Af];rfl
     have hj2:j<gs2.length:=by omega
     have hjv:gs2[j]=((pW r ways[i]).1,[]):=by subst hgs2 hj0;simp
     have hT0:gTl j gs2=gHp 0 (g::gs):=by rw [hgs2,hj0];exact gTl_app _ _
     have hst:=gsT_succ (r:=r) hi;rw [hgs,addG_new (w:=pW r ways[i]) hf,<- hgs2,<- hj0] at hst;rw [show (((pW r ways[i]).1,[]++[(pW r ways[i]).2]):Gr)=(gs2[j].1,gs2[j].2++[(pW r ways[i]).2]) by rw [hjv]] at hst;have hgl2:(gs2[j].2.map aq).length<=2000:=by rw [hjv];exact Ak _
     have hn1:gs2.length<=2000:=by omega
     have c2:gs2.length<=cap':=by omega
     have c3:cap'<=maxLen:=by assumption
     refine ak (ai (rhoN 5003 5004) (k':=5000)
      (L':=[(1,.d (.slice 1 (ways.map ey))),(2,.loc 0 0),(5,.nils),(8,.sl 2 0 gs2.length cap'),(9,.loc 1 0),(12,.loc 6 0),(13,.d (.int .i64 j)),(44,.d (.slice 1 (ways.map ey))),(45,.d (.int .i64 ways.length)),(46,.d (.int .i64 i))])
      (H':=(3,.blk 176 [.d (.slice 1 ((gs2[j]'hj2).1.map aq)),.row 4])::(4,.row 3 1 ((gs2[j]'hj2).2.map aq))::(2,.blk 174 ((jv 0 gs2.length++Ap (cap'-gs2.length) SV.junk).set j (.loc 3 0)))::(6,.blk 22 [.d (.slice 1 ((aW r ways[i]).map aq))]) ::
       (0,.blk 64 [.d (.int .i64 r.pred),.d (.slice 2 (r.terms.map av)),.d (.int .i64 r.fold),.d (.slice 4 (r.body.map ay)),.d (.int .i64 r.vars)])::(1,.blk 3 [.d (.int .i64 ((r.terms.length-1:Nat):Int))])::gTl j gs2)
      ?_ ?_ ?_ ?_ ?_ ?_ ?_ ?_) ?_
     ·refine⟨rfl,rfl,rfl,?_,rfl,rfl,?_,rfl,rfl,rfl,trivial⟩
      ·rw [hl2];rfl
      ·rw [hj0];rfl
     ·refine⟨?_,?_,?_,rfl,rfl,rfl,ob ?_⟩
      ·rw [hjv];rfl
      ·rw [hjv];rfl
      ·simp only [HB.ren];rw [hl2,hj0,cellsN];exact congrArg (λl=>some (HB.blk _ l)) (growN _)
      ·rw [hT0];exact knowsN (pre:=[(_,_),(_,_),(_,_),(_,_),(_,_),(_,_),(_,_),(_,_)]) rfl (by omega)
     ·rfl
     ·simp only [Hp.low,Ae];exact⟨rfl,rfl,rfl,rfl,rfl,cells_low hn1,rfl,rfl,rfl,rfl,rfl,rfl,gTl_low hn1⟩
     ·refine c8 ?_;simp only [A3,gTl_rhoN];exact ia (a:=[5001,5004,5003,5000,0,1]) hn1 (by simp) (by simp)
     ·refine c8 ?_;simp only [A3];exact ia (a:=[3,4,2,6,0,1]) hn1 (by simp) (by simp)
     ·rfl
     ·rfl
     have hdT:aw (3::4::2::6::0::1::(gTl j gs2).map (·.1))=true:=c8 (ia (a:=[3,4,2,6,0,1]) hn1 (by simp) (by simp));have hdT2:aw (5016::3::2::6::0::1::(gTl j gs2).map (·.1))=true:=c8 (ia (a:=[5016,3,2,6,0,1]) hn1 (by simp) (by simp));generalize hT:gTl j gs2=T at hdT hdT2 ⊢;refine j6 17 (by kernel_rfl) (by kernel_rfl) (by kernel_rfl) rfl rfl rfl ?_;refine di rfl rfl trivial rfl rfl rfl hdT rfl ?_;refine di rfl rfl trivial rfl rfl rfl hdT rfl ?_;refine di rfl rfl ?_ rfl rfl rfl hdT rfl ?_
     ·exact⟨by omega,by omega⟩
     have hcj:((jv 0 gs2.length++Ap (cap'-gs2.length) SV.junk).set j (.loc 3 0))[0+(j:Int).toNat*1]?=some (.loc 3 0):=by
      rw [Dk,Dv,F4,B4];rw [Af];unfold jv;rw [Aa,Dy];omega
     refine di rfl (sa rfl rfl rfl hcj) trivial rfl rfl rfl hdT rfl ?_;refine di rfl rfl trivial rfl rfl rfl hdT rfl ?_;refine di rfl rfl trivial rfl rfl rfl hdT rfl ?_;refine di rfl rfl ⟨by omega,by omega⟩ rfl rfl rfl hdT rfl ?_;refine di rfl (sa rfl rfl rfl hcj) trivial rfl rfl rfl hdT rfl ?_;refine di rfl rfl trivial rfl rfl rfl hdT rfl ?_;refine di rfl rfl trivial rfl rfl rfl hdT rfl ?_;refine di rfl rfl trivial rfl rfl rfl hdT rfl ?_;refine di rfl rfl trivial rfl rfl rfl hdT rfl ?_;refine di rfl rfl trivial rfl rfl rfl hdT rfl ?_;(apply di;exact rfl;exact rfl;(omega);((with_reducible apply hv_row);(exact rfl);(omega));exact rfl;exact rfl;exact hdT;exact rfl)
     (apply di;exact rfl;exact rfl;(with_reducible exact trivial);(with_reducible exact rfl);exact rfl;exact rfl;exact hdT;exact rfl)
     (apply di;exact rfl;exact rfl;(with_reducible exact trivial);(with_reducible exact rfl);exact rfl;exact rfl;exact hdT;exact rfl)
     have hgl3:(gs2[j].2).length<=2000:=by rw [Aa] at hgl2;exact hgl2
     (apply dt_trade;exact rfl;exact rfl;exact rfl;(unfold maxLen;simp<;>omega);exact rfl;exact rfl;exact rfl;exact hdT;exact rfl;exact rfl)
     refine dt_nil hdT2 ?_;repeat' (first|refine zs ?_|fail)
     have hal:r.terms.length-1<(aW r ways[i]).length:=by unfold aW;rw [Aa];omega
     have hgd:(pW r ways[i]).2=(aW r ways[i])[r.terms.length-1]:=by
      show (aW r ways[i]).getD (r.terms.length-1) 0=_;rw [Dq,Ad hal];rfl
     rw [hgd] at hst;have hne:gs2.set j (gs2[j].1,gs2[j].2++[(aW r ways[i])[r.terms.length-1]])≠[]:=λh=>by
      have:=congrArg Bv h
      rw [Ba,Dl] at this;omega
     refine⟨(i+1,cap'),⟨hi,by rw [hst,Ba];exact c2,c3⟩,?_,by dsimp only;omega⟩
     dsimp only;have e1:=slT_ne (cap:=cap') hne;have e2:=stT_ne (r:=r) (cap:=cap') hne;unfold slT at e1;unfold stT at e2;rw [hst,e1,e2,Ba];subst hT;refine ai (rhoB j) ?_ ?_ ?_ ?_ ?_ ?_ ?_ ?_
     ·exact⟨rfl,rfl,rfl,rfl,rfl,rfl,rfl,rfl,trivial⟩
     ·refine⟨rfl,rfl,?_,ob (knows_back hj2 hn1)⟩
      simp only [HB.ren,cells_back hj2];rfl
     ·rfl
     ·simp only [Hp.low,Ae];exact⟨rfl,rfl,rfl,rfl,rfl,cells_low0 hn1,gHp_low _ 0 (by rw [Ba];omega)⟩
     ·refine c8 ?_;have h:=back_rho (j:=j) (gs:=gs2.set j (gs2[j].1,gs2[j].2++[(aW r ways[i])[r.terms.length-1]])) (by rw [Ba];exact hn1);simp only [Ar,Ea] at h;exact h
     ·refine c8 ?_;exact (back_ids (gs:=gs2.set j (gs2[j].1,gs2[j].2++[(aW r ways[i])[r.terms.length-1]])) (by rw [Ba];exact hn1)).1
     ·rfl
     ·rfl
   | some j =>
    have hj2:j<(g::gs).length:=(List.findIdx?_eq_some_iff_findIdx_eq.1 hf).1;rw [show kr (λg=>decide (g.1=(aW r ways[i]).take (r.terms.length-1))) (g::gs)=(j:Int) by unfold kr;rw [hf]];repeat' ((fail_if_success (apply bk 19));(first|refine zs ?_|fail))
    all_goals try (exfalso;omega)
    have hn1:(g::gs).length<=2000:=by omega
    refine ak (ai (rhoJ j) (k':=5000)
     (L':=[(1,.d (.slice 1 (ways.map ey))),(2,.loc 0 0),(5,.nils),(8,.sl 2 0 (g::gs).length cap),(9,.loc 1 0),(12,.loc 6 0),(13,.d (.int .i64 j)),(44,.d (.slice 1 (ways.map ey))),(45,.d (.int .i64 ways.length)),(46,.d (.int .i64 i))])
     (H':=(3,.blk 176 [.d (.slice 1 (((g::gs)[j]'hj2).1.map aq)),.row 4])::(4,.row 3 1 (((g::gs)[j]'hj2).2.map aq))::(2,.blk 174 ((jv 0 (g::gs).length++Ap (cap-(g::gs).length) SV.junk).set j (.loc 3 0)))::(6,.blk 22 [.d (.slice 1 ((aW r ways[i]).map aq))]) ::
      (0,.blk 64 [.d (.int .i64 r.pred),.d (.slice 2 (r.terms.map av)),.d (.int .i64 r.fold),.d (.slice 4 (r.body.map ay)),.d (.int .i64 r.vars)])::(1,.blk 3 [.d (.int .i64 ((r.terms.length-1:Nat):Int))])::gTl j (g::gs))
     ?_ ?_ ?_ ?_ ?_ ?_ ?_ ?_) ?_
    ·exact⟨rfl,rfl,rfl,rfl,rfl,rfl,rfl,rfl,rfl,rfl,trivial⟩
    ·refine⟨(jr (pre:=[(_,_),(_,_),(_,_),(_,_)]) (λq hq=>?_)).trans (uw (g::gs) 0 j hj2),(jr (pre:=[(_,_),(_,_),(_,_),(_,_)]) (λq hq=>?_)).trans (uu (g::gs) 0 j hj2),?_,rfl,rfl,rfl,ob (knows_tl (pre:=[(_,_),(_,_),(_,_),(_,_)]) (λq hq=>?_) hn1)⟩
     ·simp only [Bh,B8,or_false] at hq;rcases hq with rfl|rfl|rfl|rfl<;>(show _≠2*(0+j)+100;omega)
     ·simp only [Bh,B8,or_false] at hq;rcases hq with rfl|rfl|rfl|rfl<;>(show _≠2*(0+j)+101;omega)
     ·simp only [HB.ren,cells_ren hj2];rfl
     ·simp only [Bh,B8,or_false] at hq;rcases hq with rfl|rfl|rfl|rfl<;>simp
    ·rfl
    ·simp only [Hp.low,Ae];exact⟨rfl,rfl,rfl,rfl,rfl,cells_low hn1,rfl,rfl,rfl,rfl,rfl,rfl,gTl_low hn1⟩
    ·refine c8 ?_;simp only [A3,gTl_rho];exact ia (a:=[2*(0+j)+100,2*(0+j)+101,2,5000,0,1]) hn1 (by simp;omega) (by simp)
    ·refine c8 ?_;simp only [A3];exact ia (a:=[3,4,2,6,0,1]) hn1 (by simp) (by simp)
    ·rfl
    ·rfl
    have hst:=gsT_succ (r:=r) hi;rw [hgs,addG_some (w:=pW r ways[i]) hj2 hf] at hst;have hgl2:((g::gs)[j].2.map aq).length<=2000:=by
     rw [Aa];have hinv:InvG (g::gs) ((ways.take i).map (pW r)):=by rw [<- hgs];exact groups_inv _
     have hv:=hinv.vals _ (Aj hj2);rw [hv];unfold lz;rw [Aa];refine A5 (C9 _ _) ?_;rw [Aa,Aq];omega
    have c2:=g2;have c3:=g3;have hdT:aw (3::4::2::6::0::1::(gTl j (g::gs)).map (·.1))=true:=c8 (ia (a:=[3,4,2,6,0,1]) hn1 (by simp) (by simp));have hdT2:aw (5016::3::2::6::0::1::(gTl j (g::gs)).map (·.1))=true:=c8 (ia (a:=[5016,3,2,6,0,1]) hn1 (by simp) (by simp));generalize hT:gTl j (g::gs)=T at hdT hdT2 ⊢;refine j6 17 (by kernel_rfl) (by kernel_rfl) (by kernel_rfl) rfl rfl rfl ?_;refine di rfl rfl trivial rfl rfl rfl hdT rfl ?_;refine di rfl rfl trivial rfl rfl rfl hdT rfl ?_;refine di rfl rfl ?_ rfl rfl rfl hdT rfl ?_
    ·exact⟨by omega,by omega⟩
    have hcj:((jv 0 (g::gs).length++Ap (cap-(g::gs).length) SV.junk).set j (.loc 3 0))[0+(j:Int).toNat*1]?=some (.loc 3 0):=by
     rw [Dk,Dv,F4,B4];rw [Af];unfold jv;rw [Aa,Dy];omega
    refine di rfl (sa rfl rfl rfl hcj) trivial rfl rfl rfl hdT rfl ?_;refine di rfl rfl trivial rfl rfl rfl hdT rfl ?_;refine di rfl rfl trivial rfl rfl rfl hdT rfl ?_;refine di rfl rfl ⟨by omega,by omega⟩ rfl rfl rfl hdT rfl ?_;refine di rfl (sa rfl rfl rfl hcj) trivial rfl rfl rfl hdT rfl ?_;refine di rfl rfl trivial rfl rfl rfl hdT rfl ?_;refine di rfl rfl trivial rfl rfl rfl hdT rfl ?_;refine di rfl rfl trivial rfl rfl rfl hdT rfl ?_;refine di rfl rfl trivial rfl rfl rfl hdT rfl ?_;refine di rfl rfl trivial rfl rfl rfl hdT rfl ?_;(apply di;exact rfl;exact rfl;(omega);((with_reducible apply hv_row);(exact rfl);(omega));exact rfl;exact rfl;exact hdT;exact rfl)
    (apply di;exact rfl;exact rfl;(with_reducible exact trivial);(with_reducible exact rfl);exact rfl;exact rfl;exact hdT;exact rfl)
    (apply di;exact rfl;exact rfl;(with_reducible exact trivial);(with_reducible exact rfl);exact rfl;exact rfl;exact hdT;exact rfl)
    have hgl3:((g::gs)[j].2).length<=2000:=by rw [Aa] at hgl2;exact hgl2
    (apply dt_trade;exact rfl;exact rfl;exact rfl;(unfold maxLen;simp<;>omega);exact rfl;exact rfl;exact rfl;exact hdT;exact rfl;exact rfl)
    refine dt_nil hdT2 ?_;repeat' (first|refine zs ?_|fail)
    have hal:r.terms.length-1<(aW r ways[i]).length:=by unfold aW;rw [Aa];omega
    have hgd:(pW r ways[i]).2=(aW r ways[i])[r.terms.length-1]:=by
     show (aW r ways[i]).getD (r.terms.length-1) 0=_;rw [Dq,Ad hal];rfl
    rw [hgd] at hst;have hne:(g::gs).set j ((g::gs)[j].1,(g::gs)[j].2++[(aW r ways[i])[r.terms.length-1]])≠[]:=λh=>by
     have:=congrArg Bv h
     rw [Ba,Dl] at this;omega
    refine⟨(i+1,cap),⟨hi,by rw [hst,Ba];exact c2,c3⟩,?_,by dsimp only;omega⟩
    dsimp only;have e1:=slT_ne (cap:=cap) hne;have e2:=stT_ne (r:=r) (cap:=cap) hne;unfold slT at e1;unfold stT at e2;rw [hst,e1,e2,Ba];subst hT;refine ai (rhoB j) ?_ ?_ ?_ ?_ ?_ ?_ ?_ ?_
    ·exact⟨rfl,rfl,rfl,rfl,rfl,rfl,rfl,rfl,trivial⟩
    ·refine⟨rfl,rfl,?_,ob (knows_back hj2 hn1)⟩
     simp only [HB.ren,cells_back hj2];rfl
    ·rfl
    ·simp only [Hp.low,Ae];exact⟨rfl,rfl,rfl,rfl,rfl,cells_low0 hn1,gHp_low _ 0 (by rw [Ba];omega)⟩
    ·refine c8 ?_;have h:=back_rho (j:=j) (gs:=(g::gs).set j ((g::gs)[j].1,(g::gs)[j].2++[(aW r ways[i])[r.terms.length-1]])) (by rw [Ba];exact hn1);simp only [Ar,Ea] at h;exact h
    ·refine c8 ?_;exact (back_ids (gs:=(g::gs).set j ((g::gs)[j].1,(g::gs)[j].2++[(aW r ways[i])[r.terms.length-1]])) (by rw [Ba];exact hn1)).1
    ·rfl
    ·rfl
 ·have hiw:i=ways.length:=by omega
  subst hiw;have hgi:=hgl ways.length;have hgr:gsT r ways ways.length=ur (ways.map (pW r)):=by unfold gsT;rw [Ai (Ah _)]
  refine ak (ent_groups (by omega) rfl) ?_;rw [hgr] at hgi ⊢;have hinv:=groups_inv (ways.map (pW r));generalize hG:ur (ways.map (pW r))=gs at hgi hinv ⊢;have lg:(gs.map encG).length=gs.length:=Aa _;have hset:a8 (gs.filterMap (zy r))=a8 (jm r ways):=by
   have h1:=heads_set (r:=r) (ways:=ways) hok.rul.fold (λw hw=>pW_num hok hw) (by omega);unfold headsP at h1;rw [if_neg h0,hG] at h1;exact h1
  have wset:=set_fn (gs.filterMap (zy r)) (A5 (List.length_filterMap_le _ _) (by omega)) (λx hx=>by
   obtain⟨g,hg,hx⟩:=List.mem_filterMap.1 hx;unfold zy at hx;split at hx
   ·simp only [Option.some.injEq] at hx;subst hx;have:=(grp_ok hok hinv hg).2.2.2
    rw [Af,Au];omega
   ·cases hx)
  rw [hset] at wset;repeat' ((fail_if_success (apply ip 21));(first|refine zs ?_|(refine zm ?_ ?_<;>intro hg)|fail))
  all_goals try (exfalso;omega)
  refine ak (cd (t:=5) 37 2 rfl) ?_;repeat' (first|refine zs ?_|fail)
  refine ag (ι:=Nat) (λj=>⟨4,[(2,.loc 0 0),(5,.row 3),(89,.d (.slice 1 (gs.map encG))),(90,.d (.int .i64 gs.length)),(91,.d (.int .i64 j))],
    [(0,.blk 64 [.d (.int .i64 r.pred),.d (.slice 2 (r.terms.map av)),.d (.int .i64 r.fold),.d (.slice 4 (r.body.map ay)),.d (.int .i64 r.vars)]),(3,.row 37 2 (((gs.take j).filterMap (zy r)).map ae))]⟩)
   (λj=>j<=gs.length) (λj=>gs.length-j) 0 (Ak _) (ai (λj=>match j with|3=>5000|j=>j) ⟨rfl,rfl,rfl,by rw [<- lg];rfl,rfl,trivial⟩ ⟨rfl,rfl,trivial⟩ rfl rfl rfl rfl rfl rfl) ?_
  intro j g4;dsimp only at g4 ⊢;by_cases hj:j<gs.length
  ·have hgm:=Aj hj;obtain⟨q1,q2,q3,q4⟩:=grp_ok hok hinv hgm;have wf:=folded_fn r.fold gs[j].2 q1 q2 q3;have wc:=cloneW_fn gs[j].1 (by omega);have hst:=nh (zy r) hj;have lo:((gs.take j).filterMap (zy r)).length<=j:=og _ _ _;have l1:(gs[j].1.map aq).length=gs[j].1.length:=Aa _;repeat' ((fail_if_success (apply eo 24));(first|refine zs ?_|(refine zm ?_ ?_<;>intro hg)|fail))
   all_goals try (exfalso;omega)
   refine ak (ent_pd 15 rfl) ?_;repeat' (first|refine zs ?_|refine z22 ?_ (hc:=by apply wf)|(refine zm ?_ ?_<;>intro hg)|(exfalso;omega))
   ·have hhd:zy r gs[j]=some ⟨r.pred,gs[j].1++[valP r.fold gs[j].2]⟩:=by unfold zy;rw [if_pos (by assumption)]
    rw [hhd] at hst;refine dt_callW rfl rfl wc rfl rfl rfl rfl ⟨_,rfl⟩ ?_;rintro _ rfl;clear wf wc;repeat' (first|refine zs ?_|fail)
    refine⟨j+1,hj,ai (λj=>match j with|3=>17|j=>j) ⟨rfl,rfl,rfl,rfl,rfl,trivial⟩ ⟨rfl,?_,trivial⟩ rfl rfl rfl rfl rfl rfl,by omega⟩
    rw [hst,Ar,Option.toList_some];show _=some (HB.row _ _ (_++[[_,D.slice 1 ((gs[j].1++[valP r.fold gs[j].2]).map aq)]]));rw [Ar];rfl
   ·have hhd:zy r gs[j]=none:=by unfold zy;rw [if_neg (by simp_all)]
    rw [hhd,Option.toList_none,List.append_nil] at hst;exact⟨j+1,hj,ai id ⟨rfl,rfl,rfl,rfl,rfl,trivial⟩ ⟨rfl,by rw [hst];rfl,trivial⟩ rfl rfl rfl rfl rfl rfl,by omega⟩
  ·rw [Ai (by omega)];repeat' (first|refine zs ?_|(refine zm ?_ ?_<;>intro hg)|(exfalso;omega))
   refine mc (bh 121 rfl rfl rfl) ?_;repeat' (first|refine zr ?_|refine z21 ?_ (hc:=by apply wset)|fail)
   exact⟨.inl rfl,_,rfl,rfl,rfl⟩
def smallP:Prg:=⟨[2,2],[⟨#[113]⟩,⟨#[112]⟩],[⟨1,[⟨0,0⟩,⟨1,0⟩],0,[⟨1,0,0,[⟨0,0⟩,⟨1,0⟩]⟩],2⟩,⟨1,[⟨0,0⟩,⟨2,0⟩],0,[⟨1,0,1,[⟨0,0⟩,⟨1,0⟩]⟩,⟨1,0,0,[⟨1,0⟩,⟨2,0⟩]⟩],3⟩]⟩
def fe:List Fct:=[⟨0,[1,2]⟩,⟨0,[2,3]⟩]
def fullF:List Fct:=[⟨0,[1,2]⟩,⟨0,[2,3]⟩,⟨1,[1,2]⟩,⟨1,[1,3]⟩,⟨1,[2,3]⟩]
theorem lsmall_fn:Fn 41 [] (λres=>res=gu smallP):=by
 refine fqE Tryz.func41 ?_;intro O w0 E0 β0;repeat' (first|refine zr ?_|fail)
 exact⟨.inl rfl,_,rfl,rfl,rfl⟩
theorem wx (p:Int) (l:List Int):Fn 43 [.d (.int .i64 p),.d (.slice 1 (l.map aq))] (λr=>r=fi ⟨p,l⟩):=by
 refine fqE Tryz.func43 ?_;intro O w0 E0 β0;repeat' (first|refine zr ?_|fail)
 exact⟨.inl rfl,_,rfl,rfl,rfl⟩
theorem lfull_fn:Fn 45 [] (λr=>r = .d (.slice 2 (fullF.map ae))):=by
 refine fqE Tryz.func45 ?_;intro O w0 E0 β0;have e1:=wx 0 [1,2];have e2:=wx 0 [2,3];have e3:=wx 1 [1,2];have e4:=wx 1 [1,3];have e5:=wx 1 [2,3];repeat' (first|refine zr ?_|refine z21 ?_ (hc:=by apply e1)|refine z21 ?_ (hc:=by apply e2)|refine z21 ?_ (hc:=by apply e3)|refine z21 ?_ (hc:=by apply e4)|refine z21 ?_ (hc:=by apply e5)|fail)
 exact⟨.inl rfl,_,rfl,rfl,rfl⟩
theorem hasF_set (m:List Fct) (x:Fct):hasF (a8 m) x=hasF m x:=by
 rw [Bool.eq_iff_iff,hasF_iff,hasF_iff,(bp m).2]
theorem minus_same (l m:List Fct):(l.filter λx=>!hasF (a8 m) x)=dm l m:=by
 unfold dm;exact List.filter_congr λx _=>by rw [hasF_set]
theorem Fct.same_refl (x:Fct):Fct.same x x=true:=by unfold Fct.same;simp [mo]
theorem set_ext {l m:List Fct} (h:∀ x,x∈l↔x∈m):a8 l=a8 m :=
 j7 (bp l).1 (bp m).1 λx=>by rw [(bp l).2,(bp m).2,h]
theorem set_set (l:List Fct):a8 (a8 l)=a8 l:=set_ext λx=>(bp l).2 x
section
variable {Γ : Ctx} {k : Nat} {L : Sl} {H : Hp} {t ty : TypeId} {x : Operand}
end

def ow:Rul:=⟨1,[⟨0,0⟩,⟨2,0⟩],0,[⟨1,0,1,[⟨0,0⟩,⟨1,0⟩]⟩,⟨1,0,0,[⟨1,0⟩,⟨2,0⟩]⟩],3⟩
theorem made_fn (arity:List Int) (r:Rul) (ways:List (List Int)) (hok:HeadOk arity r ways):Fn 61 [vf r,.d (.slice 1 (ways.map ey))] (λres=>res = .d (.slice 2 ((a8 (jm r ways)).map ae))):=by
 by_cases h0:r.fold=0
 ·exact made0_fn arity r ways hok h0
 ·exact madeF_fn arity r ways hok h0
theorem sameF_eq (a:List Fct):ea Fct.same a a=true:=gl (λx=>by unfold Fct.same;simp [mo]) a
end Go.Proofs.YtapciiffpnociadGreat
